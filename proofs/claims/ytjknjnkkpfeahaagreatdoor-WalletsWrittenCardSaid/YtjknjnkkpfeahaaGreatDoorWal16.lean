/- A part of the proof of a law of this seat: it adds no condition. By an AI agent. -/
import Derived.Test.YtjknjnkkpfeahaaGreatDoorWal15
set_option linter.all false
set_option maxRecDepth 100000
set_option maxHeartbeats 8000000
namespace Lg
open Go Go.Proofs

/-- a copy of its own -/
theorem clone_intL (rows : List (List Tr)) (hk : ∀ r ∈ rows, r.length = 1) (hl : rows.length ≤ 1000000) : PFnO Tryz.prog 18 [.sl 1 rows] 1 22 (· = rows) := by
  unfold PFnO
  refine Spec.body Tryz.func18 rfl rfl (Tryz.ntmps18) rfl fun w0 own0 M => ?_
  repeat' (first | refine goH ?_ | ((fail_if_success refine Ops.k_b_eql ?_); (fail_if_success refine Ops.k_buildSlice ?_); refine goV ?_) | ((fail_if_success refine Ops.k_b_eql ?_); (fail_if_success refine Ops.k_buildSlice ?_); refine goC (fun ad cap => ?_)) | refine goI ?_ | (refine Cw.k_cond ?_; first | (refine Cw.cond_dec rfl (fun hc => ?_) (fun hc => ?_) <;> try (exfalso; omega)) | refine Cw.cond_bool rfl (fun hc => ?_) (fun hc => ?_)) | fail)
  refine Ops.eql_nilS rfl rfl (fun b hb => ?_)
  cases b
  · repeat' (first | refine goH ?_ | ((fail_if_success refine Ops.k_buildSlice ?_); refine goV ?_) | ((fail_if_success refine Ops.k_buildSlice ?_); refine goC (fun ad cap => ?_)) | refine goI ?_ | (refine Cw.k_cond ?_; first | (refine Cw.cond_dec rfl (fun hc => ?_) (fun hc => ?_) <;> try (exfalso; omega)) | refine Cw.cond_bool rfl (fun hc => ?_) (fun hc => ?_)) | fail)
    refine Ops.buildSlice_own (by exact Parts.nil) rfl rfl rfl (fun ad cap => ?_)
    repeat' (first | refine goH ?_ | refine goV ?_ | refine goC (fun ad cap => ?_) | refine goI ?_ | (refine Cw.k_cond ?_; first | (refine Cw.cond_dec rfl (fun hc => ?_) (fun hc => ?_) <;> try (exfalso; omega)) | refine Cw.cond_bool rfl (fun hc => ?_) (fun hc => ?_)) | fail)
    exact Fin.ret (Ent.take goTk) (Outs.one rfl rfl) ⟨_, _, _, rfl, rfl, rfl⟩
  · have hr := hb rfl
    subst hr
    repeat' (first | refine goH ?_ | refine goV ?_ | refine goC (fun ad cap => ?_) | refine goI ?_ | (refine Cw.k_cond ?_; first | (refine Cw.cond_dec rfl (fun hc => ?_) (fun hc => ?_) <;> try (exfalso; omega)) | refine Cw.cond_bool rfl (fun hc => ?_) (fun hc => ?_)) | fail)
    exact Fin.ret (Ent.trans (Ent.nil 1 22) (Ent.take goTk)) (Outs.one rfl rfl) ⟨none, 0, [], rfl, rfl, rfl⟩

theorem intsR_k (l : List (List Int)) : ∀ r ∈ intsR l, r.length = 1 := by
  intro r hr
  obtain ⟨x, _, rfl⟩ := List.mem_map.1 hr
  rfl
theorem str_set (l : List ByteArray) (i : Nat) (v : ByteArray) : (strRows l).set i [Tr.str v] = strRows (l.set i v) := by
  simp [strRows]
theorem int_set (l : List Int) (i : Nat) (v : Int) : (intRows l).set i [Tr.int v] = intRows (l.set i v) := by
  simp [intRows]
theorem intRows_snoc0 (l : List Int) : intRows l ++ [[Tr.raw (.int .i64 0)]] = intRows (l ++ [0]) := by rw [intRows_app]; rfl
theorem intsR_take (L : List (List Int)) (n : Nat) : (intsR L).take n = intsR (L.take n) := by simp [intsR]
theorem nilWal (R u : Tr) : Tr.agg [.sl 1 [], R, u] = .agg [.strs [], R, u] := rfl
attribute [local irreducible] intRows intsR strRows valsW rowsW wAt
theorem wallet_gen : Gen Tryz.prog 25 4 [] 100 (fun r => ∃ w : Wal, r = .wal w ∧ WBd w) := by
  unfold Gen
  intro bs xs N hN
  refine Spec.body Tryz.func4 rfl rfl (Tryz.ntmps4) rfl fun w0 own0 M => ?_
  repeat' (first | refine goH ?_ | refine goV ?_ | refine goB (fun b => ?_) | refine goC (fun ad cap => ?_) | refine goI ?_ | (refine Cw.k_cond ?_; first | (refine Cw.cond_dec rfl (fun hc => ?_) (fun hc => ?_) <;> try (exfalso; omega)) | refine Cw.cond_bool rfl (fun hc => ?_) (fun hc => ?_)) | (refine Ops.k_calla ?_; first | (refine Ops.k_callf 13 ?_; (refine Ops.callG wallets_gen (Evs.cons rfl Evs.nil) goPk (by omega) rfl ?_; rintro r ⟨l, rfl, hl, hg⟩; have hlr : (l.map Wal.row).length = 3 := (by rw [List.length_map, hl]))) | (refine Ops.k_callf 14 ?_; (refine Ops.callG (next_gen 3 (by omega)) (Evs.cons rfl (Evs.cons rfl Evs.nil)) goPk (by omega) rfl ?_; rintro r ⟨x, rfl, hx⟩; unfold InRange at hx; have hx3 : 0 ≤ x ∧ x < 3 := (by omega); have hg1 := hg _ (wAt_mem hl hx3); have hrow : (l.map Wal.row)[x.toNat]? = some [.strs (wAt l x).sites, .sl 1 (intsR (wAt l x).rights), .ints (wAt l x).used] := wAt_row hl hx3)) | (refine Ops.k_callf 15 ?_; (refine Ops.callG (flip_gen _ (by omega)) (Evs.cons rfl (Evs.cons rfl Evs.nil)) goPk (by omega) rfl ?_; rintro r ⟨v, rfl⟩))) | fail)
  rotate_left
  · refine Fin.ret (Ent.trans (Ent.setbox (s := 2) rfl goPk) (Ent.strm_only goPk (by omega))) (Outs.sole rfl goOe) ⟨rfl, wAt l x, rfl, hg1.1.bd⟩
  rename_i b2
  obtain ⟨hok, hsa⟩ := hg1
  have hbd := hok.bd
  have hw1 : (strRows (wAt l x).sites).length = 3 := by rw [hsa]; exact strRows_len _
  have hw2 : (intRows (wAt l x).used).length = 3 := by rw [intRows_len, hok.u, hsa]; rfl
  have hw3 : (intsR (wAt l x).rights).length = 3 := by rw [intsR_len, hok.r, hsa]; rfl
  have hsr : ∀ v : Int, 0 ≤ v ∧ v < 3 → (strRows (wAt l x).sites)[v.toNat]? = some [.str (nmA v)] := by rw [hsa]; exact fun v hv => nmA_at hv
  obtain ⟨uA, hur⟩ : ∃ f : Int → Int, ∀ v : Int, 0 ≤ v ∧ v < 3 → (intRows (wAt l x).used)[v.toNat]? = some [.int (f v)] := fam fun v hv => by
    obtain ⟨y, hy⟩ := at_lt (l := (wAt l x).used) (k := v.toNat) (by rw [hok.u, hsa]; show _ < 3; omega)
    exact ⟨y, intRows_at hy⟩
  clear hrow hg hlr hok hsa
  generalize wAt l x = w at *
  have k1 := clone_str (strRows w.sites) (strRows_k _) (by omega)
  have k2 := clone_int (intRows w.used) (intRows_k _) (by omega)
  have k3 := (clone_intL (intsR w.rights) (intsR_k _) (by omega)).val
  first | refine Cw.region_YP (fun ξ S => Chunk.strm 25 bs (intRows xs) (N + 80 + 1 + 1) :: Chunk.box b2 29 (List.map Tr.raw [.slice none 0 0, .slice none 0 0, .slice none 0 0]) :: Chunk.box b 29 (stg (S 10) [.strs w.sites, .sl 1 (intsR w.rights), .ints w.used] [slV (ξ 2) (strRows w.sites).length, .sl 1 (intsR w.rights), slV (ξ 5) (intRows w.used).length]) :: (stg (S 2) [] [ownV (ξ 2) 1 9 (strRows w.sites)] ++ (stg (S 5) [] [ownV (ξ 5) 1 3 (intRows w.used)] ++ []))) rfl (by decide +kernel) rfl ((fun (ξ : Nat → Value) (S : Nat → Bool) => Chunk.strm 25 bs (intRows xs) (N + 80 + 1 + 1) :: Chunk.box b2 29 (List.map Tr.raw [.slice none 0 0, .slice none 0 0, .slice none 0 0]) :: Chunk.box b 29 (stg (S 10) [.strs w.sites, .sl 1 (intsR w.rights), .ints w.used] [slV (ξ 2) (strRows w.sites).length, .sl 1 (intsR w.rights), slV (ξ 5) (intRows w.used).length]) :: (stg (S 2) [] [ownV (ξ 2) 1 9 (strRows w.sites)] ++ (stg (S 5) [] [ownV (ξ 5) 1 3 (intRows w.used)] ++ []))) (fun _ => undef) (fun _ => false)) (by simp only [upd_same, updD_same, upd_ne, updD_ne, ne_eq, Nat.reduceEqDiff, not_false_eq_true, stg_t, stg_f, vAd_s, vCap_s, blk_p, List.cons_append, List.nil_append, b2n_t, b2n_f]; exact goXm) (fun _ => rfl) ?_ | fail
  apply YSeq.w (by intro _ _ _; rfl)
  · intro ξ S h1 h2 h3 h4
    have hN0_1 := closed_false h1 h3 (k := 1) rfl (by decide)
    have hN0_2 := closed_false hN0_1 h3 (k := 2) rfl (by decide)
    have hN0_5 := closed_false hN0_2 h3 (k := 5) rfl (by decide)
    have hN0_10 := closed_false h1 h3 (k := 10) rfl (by decide)
    try simp only [upd_same, updD_same, upd_ne, updD_ne, ne_eq, Nat.reduceEqDiff, not_false_eq_true, stg_t, stg_f, vAd_s, vCap_s, blk_p, List.cons_append, List.nil_append, b2n_t, b2n_f, hN0_2, hN0_5, hN0_10]
    exact goW
  · intro ξ v; rfl
  · intro ξ k v S h3 hn hk
    first
    | rfl
  apply YSeq.w (by intro _ _ _; rfl)
  · intro ξ S h1 h2 h3 h4
    have hN1_2 := closed_false h1 h3 (k := 2) rfl (by decide)
    have hN1_5 := closed_false hN1_2 h3 (k := 5) rfl (by decide)
    have hN1_10 := closed_false h1 h3 (k := 10) rfl (by decide)
    try simp only [upd_same, updD_same, upd_ne, updD_ne, ne_eq, Nat.reduceEqDiff, not_false_eq_true, stg_t, stg_f, vAd_s, vCap_s, blk_p, List.cons_append, List.nil_append, b2n_t, b2n_f, hN1_2, hN1_5, hN1_10]
    exact goW
  · intro ξ v; rfl
  · intro ξ k v S h3 hn hk
    first
    | rfl
  apply YSeq.callO ((strRows w.sites).length)
  · intro ξ S h1 h2 h3 h4
    have hN2_5 := closed_false h1 h3 (k := 5) rfl (by decide)
    have hN2_10 := closed_false h1 h3 (k := 10) rfl (by decide)
    refine ⟨_, _, k1, (Evs.cons rfl Evs.nil), (by first | rfl | simp | omega), fun ad cap => ?_⟩
    simp only [upd_same, updD_same, upd_ne, updD_ne, ne_eq, Nat.reduceEqDiff, not_false_eq_true, stg_t, stg_f, vAd_s, vCap_s, blk_p, List.cons_append, List.nil_append, b2n_t, b2n_f, h1, hN2_5, hN2_10]
    exact goXm
  apply YSeq.w (by intro _ _ _; rfl)
  · intro ξ S h1 h2 h3 h4
    have hN3_4 := closed_false h1 h3 (k := 4) rfl (by decide)
    have hN3_5 := closed_false hN3_4 h3 (k := 5) rfl (by decide)
    have hN3_10 := closed_false h1 h3 (k := 10) rfl (by decide)
    try simp only [upd_same, updD_same, upd_ne, updD_ne, ne_eq, Nat.reduceEqDiff, not_false_eq_true, stg_t, stg_f, vAd_s, vCap_s, blk_p, List.cons_append, List.nil_append, b2n_t, b2n_f, hN3_5, hN3_10]
    exact goW
  · intro ξ v; rfl
  · intro ξ k v S h3 hn hk
    first
    | rfl
  apply YSeq.w (by intro _ _ _; rfl)
  · intro ξ S h1 h2 h3 h4
    have hN4_5 := closed_false h1 h3 (k := 5) rfl (by decide)
    have hN4_10 := closed_false h1 h3 (k := 10) rfl (by decide)
    try simp only [upd_same, updD_same, upd_ne, updD_ne, ne_eq, Nat.reduceEqDiff, not_false_eq_true, stg_t, stg_f, vAd_s, vCap_s, blk_p, List.cons_append, List.nil_append, b2n_t, b2n_f, hN4_5, hN4_10]
    exact goW
  · intro ξ v; rfl
  · intro ξ k v S h3 hn hk
    first
    | rfl
  apply YSeq.callO ((intRows w.used).length)
  · intro ξ S h1 h2 h3 h4
    have hY5_2 : S 2 = true := h2 2 (by decide)
    have hN5_10 := closed_false h1 h3 (k := 10) rfl (by decide)
    refine ⟨_, _, k2, (Evs.cons rfl Evs.nil), (by first | rfl | simp | omega), fun ad cap => ?_⟩
    simp only [upd_same, updD_same, upd_ne, updD_ne, ne_eq, Nat.reduceEqDiff, not_false_eq_true, stg_t, stg_f, vAd_s, vCap_s, blk_p, List.cons_append, List.nil_append, b2n_t, b2n_f, hY5_2, h1, hN5_10]
    exact goXm
  apply YSeq.w (by intro _ _ _; rfl)
  · intro ξ S h1 h2 h3 h4
    have hN6_10 := closed_false h1 h3 (k := 10) rfl (by decide)
    try simp only [upd_same, updD_same, upd_ne, updD_ne, ne_eq, Nat.reduceEqDiff, not_false_eq_true, stg_t, stg_f, vAd_s, vCap_s, blk_p, List.cons_append, List.nil_append, b2n_t, b2n_f, hN6_10]
    exact goW
  · intro ξ v; rfl
  · intro ξ k v S h3 hn hk
    first
    | rfl
  apply YSeq.w (by intro _ _ _; rfl)
  · intro ξ S h1 h2 h3 h4
    have hN7_10 := closed_false h1 h3 (k := 10) rfl (by decide)
    try simp only [upd_same, updD_same, upd_ne, updD_ne, ne_eq, Nat.reduceEqDiff, not_false_eq_true, stg_t, stg_f, vAd_s, vCap_s, blk_p, List.cons_append, List.nil_append, b2n_t, b2n_f, hN7_10]
    exact goW
  · intro ξ v; rfl
  · intro ξ k v S h3 hn hk
    first
    | rfl
  apply YSeq.callV (by intro _ _ _; rfl)
  · intro ξ S h1 h2 h3 h4
    have hY8_5 : S 5 = true := h2 5 (by decide)
    have hY8_2 : S 2 = true := h3 5 _ rfl hY8_5 2 (by decide)
    have hN8_10 := closed_false h1 h3 (k := 10) rfl (by decide)
    try simp only [upd_same, updD_same, upd_ne, updD_ne, ne_eq, Nat.reduceEqDiff, not_false_eq_true, stg_t, stg_f, vAd_s, vCap_s, blk_p, List.cons_append, List.nil_append, b2n_t, b2n_f, hY8_2, hY8_5, hN8_10]
    exact ⟨_, (Evs.cons rfl Evs.nil), k3⟩
  · intro ξ v; rfl
  · intro ξ k v S h3 hn hk
    first
    | rfl
    | skip
      have hY8_5 : S 5 = true := h3 8 _ rfl hn 5 (by decide)
      have hY8_2 : S 2 = true := h3 5 _ rfl hY8_5 2 (by decide)
      simp only [upd_S hY8_2 hk, upd_S hY8_5 hk]
  apply YSeq.w (by intro _ _ _; rfl)
  · intro ξ S h1 h2 h3 h4
    have hY9_2 : S 2 = true := h2 2 (by decide)
    have hY9_5 : S 5 = true := h2 5 (by decide)
    have hN9_10 := closed_false h1 h3 (k := 10) rfl (by decide)
    try simp only [upd_same, updD_same, upd_ne, updD_ne, ne_eq, Nat.reduceEqDiff, not_false_eq_true, stg_t, stg_f, vAd_s, vCap_s, blk_p, List.cons_append, List.nil_append, b2n_t, b2n_f, hY9_2, hY9_5, hN9_10]
    exact goW
  · intro ξ v; rfl
  · intro ξ k v S h3 hn hk
    first
    | rfl
    | skip
      have hY9_2 : S 2 = true := h3 9 _ rfl hn 2 (by decide)
      have hY9_5 : S 5 = true := h3 9 _ rfl hn 5 (by decide)
      simp only [upd_S hY9_2 hk, upd_S hY9_5 hk]
  apply YSeq.store
  · intro ξ S h1 h2 h3 h4
    have hY10_2 : S 2 = true := h2 2 (by decide)
    have hY10_5 : S 5 = true := h2 5 (by decide)
    simp only [upd_same, updD_same, upd_ne, updD_ne, ne_eq, Nat.reduceEqDiff, not_false_eq_true, stg_t, stg_f, vAd_s, vCap_s, blk_p, List.cons_append, List.nil_append, b2n_t, b2n_f, hY10_2, hY10_5, h1]
    refine ⟨_, _, _, _, _, _, _, rfl, rfl, inferInstance, goXp, rfl, Nat.le_of_ble_eq_true rfl, ?_⟩
    exact goXm
  refine YSeq.nil fun ξ hf => ?_
  refine ⟨[(0, _), (2, _), (4, _)], _, Ent.trans (Ent.eqc rfl (by first | (simp only [upd_same, updD_same, upd_ne, updD_ne, ne_eq, Nat.reduceEqDiff, not_false_eq_true, stg_t, stg_f, vAd_s, vCap_s, blk_p, List.cons_append, List.nil_append, b2n_t, b2n_f, ownV, slV, ptV] <;> rfl) | rfl)) (Ent.sub goSub), ?_⟩
  clear hf
  generalize vAd (ξ 2) = ad16
  generalize vCap (ξ 2) = cap16
  generalize vAd (ξ 5) = ad19
  generalize vCap (ξ 5) = cap19
  clear k1 k2 k3 hc
  refine Then.norm ?_
  rw [hw1, hw2]
  repeat' (first | refine goH ?_ | refine goV ?_ | refine goB (fun b => ?_) | refine goC (fun ad cap => ?_) | refine goI ?_ | (refine Cw.k_cond ?_; first | (refine Cw.cond_dec rfl (fun hc => ?_) (fun hc => ?_) <;> try (exfalso; omega)) | refine Cw.cond_bool rfl (fun hc => ?_) (fun hc => ?_)) | (refine Ops.k_calla ?_; first | (refine Ops.k_callf 14 ?_; (refine Ops.callG (next_gen 5 (by omega)) (Evs.cons rfl (Evs.cons rfl Evs.nil)) goPk (by omega) rfl ?_; rintro r ⟨z, rfl, hz⟩; unfold InRange at hz))) | fail)
  · first | refine Cw.region_YP (fun ξ S => Chunk.strm 25 bs (intRows xs) (N + 80 + 1 + 1 + 1 + (b2n (S 3) + b2n (S 6))) :: Chunk.box b2 29 (List.map Tr.raw [.slice none 0 0, .slice none 0 0, .slice none 0 0]) :: Chunk.box b 29 [Tr.raw (.slice ad16 3 cap16), .sl 1 (intsR w.rights), Tr.raw (.slice ad19 3 cap19)] :: Chunk.own ad16 cap16 1 9 (stg (S 8) (strRows w.sites) ((strRows w.sites).set (vInt (ξ 3)).toNat [.str (vStr (ξ 6))])) :: Chunk.own ad19 cap19 1 3 (intRows w.used) :: []) rfl (by decide +kernel) rfl ((fun (ξ : Nat → Value) (S : Nat → Bool) => Chunk.strm 25 bs (intRows xs) (N + 80 + 1 + 1 + 1 + (b2n (S 3) + b2n (S 6))) :: Chunk.box b2 29 (List.map Tr.raw [.slice none 0 0, .slice none 0 0, .slice none 0 0]) :: Chunk.box b 29 [Tr.raw (.slice ad16 3 cap16), .sl 1 (intsR w.rights), Tr.raw (.slice ad19 3 cap19)] :: Chunk.own ad16 cap16 1 9 (stg (S 8) (strRows w.sites) ((strRows w.sites).set (vInt (ξ 3)).toNat [.str (vStr (ξ 6))])) :: Chunk.own ad19 cap19 1 3 (intRows w.used) :: []) (fun _ => undef) (fun _ => false)) (by simp only [upd_same, updD_same, upd_ne, updD_ne, ne_eq, Nat.reduceEqDiff, not_false_eq_true, stg_t, stg_f, vAd_s, vCap_s, blk_p, List.cons_append, List.nil_append, b2n_t, b2n_f]; exact goXm) (fun _ => rfl) ?_ | fail
    apply YSeq.w (by intro _ _ _; rfl)
    · intro ξ S h1 h2 h3 h4
      have hN0_8 := closed_false h1 h3 (k := 8) rfl (by decide)
      try simp only [upd_same, updD_same, upd_ne, updD_ne, ne_eq, Nat.reduceEqDiff, not_false_eq_true, stg_t, stg_f, vAd_s, vCap_s, blk_p, List.cons_append, List.nil_append, b2n_t, b2n_f, hN0_8]
      exact goW
    · intro ξ v; rfl
    · intro ξ k v S h3 hn hk
      first
      | rfl
    apply YSeq.w (by intro _ _ _; rfl)
    · intro ξ S h1 h2 h3 h4
      have hN1_8 := closed_false h1 h3 (k := 8) rfl (by decide)
      try simp only [upd_same, updD_same, upd_ne, updD_ne, ne_eq, Nat.reduceEqDiff, not_false_eq_true, stg_t, stg_f, vAd_s, vCap_s, blk_p, List.cons_append, List.nil_append, b2n_t, b2n_f, hN1_8]
      exact goW
    · intro ξ v; rfl
    · intro ξ k v S h3 hn hk
      first
      | rfl
    apply YSeq.w (by intro _ _ _; rfl)
    · intro ξ S h1 h2 h3 h4
      have hN2_3 := closed_false h1 h3 (k := 3) rfl (by decide)
      have hN2_6 := closed_false hN2_3 h3 (k := 6) rfl (by decide)
      have hN2_8 := closed_false h1 h3 (k := 8) rfl (by decide)
      try simp only [upd_same, updD_same, upd_ne, updD_ne, ne_eq, Nat.reduceEqDiff, not_false_eq_true, stg_t, stg_f, vAd_s, vCap_s, blk_p, List.cons_append, List.nil_append, b2n_t, b2n_f, hN2_3, hN2_6, hN2_8]
      exact goW
    · intro ξ v; rfl
    · intro ξ k v S h3 hn hk
      first
      | rfl
    apply YSeq.callI (next_gen 3 (by omega)) (fun _ => (Evs.cons rfl (Evs.cons rfl Evs.nil)))
    · intro ξ S h1 h3
      have hN3_6 := closed_false h1 h3 (k := 6) rfl (by decide)
      have hN3_8 := closed_false h1 h3 (k := 8) rfl (by decide)
      have hq3 := b2n_le (S 3)
      have hq6 := b2n_le (S 6)
      simp only [upd_same, updD_same, upd_ne, updD_ne, ne_eq, Nat.reduceEqDiff, not_false_eq_true, stg_t, stg_f, vAd_s, vCap_s, blk_p, List.cons_append, List.nil_append, b2n_t, b2n_f, h1, hN3_6, hN3_8]
      refine ⟨_, _, ?_, goXp, fun v => ?_⟩
      · omega
      · refine List.Perm.trans goXp (perm_strm ?_)
        omega
    apply YSeq.w (by intro _ _ _; rfl)
    · intro ξ S h1 h2 h3 h4
      have hN4_6 := closed_false h1 h3 (k := 6) rfl (by decide)
      have hN4_8 := closed_false h1 h3 (k := 8) rfl (by decide)
      try simp only [upd_same, updD_same, upd_ne, updD_ne, ne_eq, Nat.reduceEqDiff, not_false_eq_true, stg_t, stg_f, vAd_s, vCap_s, blk_p, List.cons_append, List.nil_append, b2n_t, b2n_f, hN4_6, hN4_8]
      exact goW
    · intro ξ v; rfl
    · intro ξ k v S h3 hn hk
      first
      | rfl
    apply YSeq.w (by intro _ _ _; rfl)
    · intro ξ S h1 h2 h3 h4
      have hN5_6 := closed_false h1 h3 (k := 6) rfl (by decide)
      have hN5_8 := closed_false h1 h3 (k := 8) rfl (by decide)
      try simp only [upd_same, updD_same, upd_ne, updD_ne, ne_eq, Nat.reduceEqDiff, not_false_eq_true, stg_t, stg_f, vAd_s, vCap_s, blk_p, List.cons_append, List.nil_append, b2n_t, b2n_f, hN5_6, hN5_8]
      exact goW
    · intro ξ v; rfl
    · intro ξ k v S h3 hn hk
      first
      | rfl
    apply YSeq.callS (one_gen (l := [⟨#[]⟩, ⟨#[98]⟩, ⟨#[90]⟩]) (by repeat' (first | exact IsStrs.nil | apply IsStrs.cons)) (by simp)) (fun _ => (Evs.cons rfl (Evs.cons rfl Evs.nil)))
    · intro ξ S h1 h3
      have hN6_8 := closed_false h1 h3 (k := 8) rfl (by decide)
      have hq3 := b2n_le (S 3)
      have hq6 := b2n_le (S 6)
      simp only [upd_same, updD_same, upd_ne, updD_ne, ne_eq, Nat.reduceEqDiff, not_false_eq_true, stg_t, stg_f, vAd_s, vCap_s, blk_p, List.cons_append, List.nil_append, b2n_t, b2n_f, h1, hN6_8]
      refine ⟨_, _, ?_, goXp, fun v => ?_⟩
      · omega
      · refine List.Perm.trans goXp (perm_strm ?_)
        omega
    apply YSeq.w (by intro _ _ _; rfl)
    · intro ξ S h1 h2 h3 h4
      have hY7_3 : S 3 = true := h2 3 (by decide)
      have hY7_6 : S 6 = true := h2 6 (by decide)
      have hN7_8 := closed_false h1 h3 (k := 8) rfl (by decide)
      have hR32 := pf_int (next_gen 3 (by omega)) (h4 3 hY7_3)
      try simp only [InRange] at hR32
      have hRn32 := hR32
      try simp only [Nat.zero_add, Nat.reduceAdd] at hRn32
      have hR35 := pf_str (one_gen (l := [⟨#[]⟩, ⟨#[98]⟩, ⟨#[90]⟩]) (by repeat' (first | exact IsStrs.nil | apply IsStrs.cons)) (by simp)) (h4 6 hY7_6)
      try simp only [InRange] at hR35
      have hRn35 := hR35
      try simp only [Nat.zero_add, Nat.reduceAdd] at hRn35
      try simp only [upd_same, updD_same, upd_ne, updD_ne, ne_eq, Nat.reduceEqDiff, not_false_eq_true, stg_t, stg_f, vAd_s, vCap_s, blk_p, List.cons_append, List.nil_append, b2n_t, b2n_f, hY7_3, hY7_6, hN7_8]
      exact goW
    · intro ξ v; rfl
    · intro ξ k v S h3 hn hk
      first
      | rfl
      | skip
        have hY7_3 : S 3 = true := h3 7 _ rfl hn 3 (by decide)
        have hY7_6 : S 6 = true := h3 7 _ rfl hn 6 (by decide)
        simp only [upd_S hY7_3 hk, upd_S hY7_6 hk]
    apply YSeq.storeO
    · intro ξ S h1 h2 h3 h4
      have hY8_3 : S 3 = true := h2 3 (by decide)
      have hY8_6 : S 6 = true := h2 6 (by decide)
      have hR32 := pf_int (next_gen 3 (by omega)) (h4 3 hY8_3)
      try simp only [InRange] at hR32
      have hRn32 := hR32
      try simp only [Nat.zero_add, Nat.reduceAdd] at hRn32
      have hR35 := pf_str (one_gen (l := [⟨#[]⟩, ⟨#[98]⟩, ⟨#[90]⟩]) (by repeat' (first | exact IsStrs.nil | apply IsStrs.cons)) (by simp)) (h4 6 hY8_6)
      try simp only [InRange] at hR35
      have hRn35 := hR35
      try simp only [Nat.zero_add, Nat.reduceAdd] at hRn35
      have hq := hsr (vInt (ξ 3)) (by omega)
      simp only [upd_same, updD_same, upd_ne, updD_ne, ne_eq, Nat.reduceEqDiff, not_false_eq_true, stg_t, stg_f, vAd_s, vCap_s, blk_p, List.cons_append, List.nil_append, b2n_t, b2n_f, hY8_3, hY8_6, h1]
      refine ⟨_, _, _, _, _, _, _, _, _, _, rfl, rfl, inferInstance, goXp, (by first | rfl | assumption | (simp [*]; done)), (by decide), ?_⟩
      exact goXm
    refine YSeq.nil fun ξ hf => ?_
    have hR32 := pf_int (next_gen 3 (by omega)) (hf 3)
    try simp only [InRange] at hR32
    have hR35 := pf_str (one_gen (l := [⟨#[]⟩, ⟨#[98]⟩, ⟨#[90]⟩]) (by repeat' (first | exact IsStrs.nil | apply IsStrs.cons)) (by simp)) (hf 6)
    try simp only [InRange] at hR35
    refine ⟨[(0, _), (2, _), (4, _)], _, Ent.trans (Ent.eqc rfl (by first | (simp only [upd_same, updD_same, upd_ne, updD_ne, ne_eq, Nat.reduceEqDiff, not_false_eq_true, stg_t, stg_f, vAd_s, vCap_s, blk_p, List.cons_append, List.nil_append, b2n_t, b2n_f, ownV, slV, ptV] <;> rfl) | rfl)) (Ent.sub goSub), ?_⟩
    clear hf
    generalize vInt (ξ 3) = x32 at hR32 ⊢
    generalize vStr (ξ 6) = x35 at hR35 ⊢
    clear hsr hur hx hx3
    repeat' (first | refine goH ?_ | refine goV ?_ | refine goB (fun b => ?_) | refine goC (fun ad cap => ?_) | refine goI ?_ | (refine Cw.k_cond ?_; first | (refine Cw.cond_dec rfl (fun hc => ?_) (fun hc => ?_) <;> try (exfalso; omega)) | refine Cw.cond_bool rfl (fun hc => ?_) (fun hc => ?_)) | refine goR ?_ | refine goP ?_ | apply PSeq.cons | apply PSeq.yes rfl rfl rfl | exact goW | fail)
    rw [str_set]
    have hq : (strRows (w.sites.set x32.toNat x35)).length = 3 := by rw [strRows_len, List.length_set, ← strRows_len, hw1]
    refine Fin.ent (Ent.trans (Ent.settle_box (b := b2) (i := 0) (ad := ad16) (kk := 1) (rows := strRows (w.sites.set x32.toNat x35)) (by exact Perm.cons' goPk (Perm.cons' goPk (List.Perm.refl _))) rfl hq.symm rfl) (Ent.settle_box (b := b2) (i := 2) (ad := ad19) (kk := 1) (rows := intRows w.used) (by exact Perm.cons' goPk (Perm.cons' goPk (List.Perm.refl _))) rfl hw2.symm rfl)) ?_
    refine Fin.ret (Ent.trans (Ent.setbox (s := 2) rfl goPk) (Ent.strm_only goPk (by omega))) (Outs.sole rfl goOe) ⟨rfl, ⟨w.sites.set x32.toNat x35, w.rights, w.used⟩, rfl, ⟨by simpa using hbd.n1, hbd.r, hbd.u, hbd.rr⟩⟩
  · first | refine Cw.region_YP (fun ξ S => Chunk.strm 25 bs (intRows xs) (N + 80 + 1 + 1 + 1 + (b2n (S 3) + b2n (S 6))) :: Chunk.box b2 29 (List.map Tr.raw [.slice none 0 0, .slice none 0 0, .slice none 0 0]) :: Chunk.box b 29 [Tr.raw (.slice ad16 3 cap16), .sl 1 (intsR w.rights), Tr.raw (.slice ad19 3 cap19)] :: Chunk.own ad16 cap16 1 9 (strRows w.sites) :: Chunk.own ad19 cap19 1 3 (stg (S 8) (intRows w.used) ((intRows w.used).set (vInt (ξ 3)).toNat [.int (vInt (ξ 6))])) :: []) rfl (by decide +kernel) rfl ((fun (ξ : Nat → Value) (S : Nat → Bool) => Chunk.strm 25 bs (intRows xs) (N + 80 + 1 + 1 + 1 + (b2n (S 3) + b2n (S 6))) :: Chunk.box b2 29 (List.map Tr.raw [.slice none 0 0, .slice none 0 0, .slice none 0 0]) :: Chunk.box b 29 [Tr.raw (.slice ad16 3 cap16), .sl 1 (intsR w.rights), Tr.raw (.slice ad19 3 cap19)] :: Chunk.own ad16 cap16 1 9 (strRows w.sites) :: Chunk.own ad19 cap19 1 3 (stg (S 8) (intRows w.used) ((intRows w.used).set (vInt (ξ 3)).toNat [.int (vInt (ξ 6))])) :: []) (fun _ => undef) (fun _ => false)) (by simp only [upd_same, updD_same, upd_ne, updD_ne, ne_eq, Nat.reduceEqDiff, not_false_eq_true, stg_t, stg_f, vAd_s, vCap_s, blk_p, List.cons_append, List.nil_append, b2n_t, b2n_f]; exact goXm) (fun _ => rfl) ?_ | fail
    apply YSeq.w (by intro _ _ _; rfl)
    · intro ξ S h1 h2 h3 h4
      have hN0_8 := closed_false h1 h3 (k := 8) rfl (by decide)
      try simp only [upd_same, updD_same, upd_ne, updD_ne, ne_eq, Nat.reduceEqDiff, not_false_eq_true, stg_t, stg_f, vAd_s, vCap_s, blk_p, List.cons_append, List.nil_append, b2n_t, b2n_f, hN0_8]
      exact goW
    · intro ξ v; rfl
    · intro ξ k v S h3 hn hk
      first
      | rfl
    apply YSeq.w (by intro _ _ _; rfl)
    · intro ξ S h1 h2 h3 h4
      have hN1_8 := closed_false h1 h3 (k := 8) rfl (by decide)
      try simp only [upd_same, updD_same, upd_ne, updD_ne, ne_eq, Nat.reduceEqDiff, not_false_eq_true, stg_t, stg_f, vAd_s, vCap_s, blk_p, List.cons_append, List.nil_append, b2n_t, b2n_f, hN1_8]
      exact goW
    · intro ξ v; rfl
    · intro ξ k v S h3 hn hk
      first
      | rfl
    apply YSeq.w (by intro _ _ _; rfl)
    · intro ξ S h1 h2 h3 h4
      have hN2_3 := closed_false h1 h3 (k := 3) rfl (by decide)
      have hN2_6 := closed_false hN2_3 h3 (k := 6) rfl (by decide)
      have hN2_8 := closed_false h1 h3 (k := 8) rfl (by decide)
      try simp only [upd_same, updD_same, upd_ne, updD_ne, ne_eq, Nat.reduceEqDiff, not_false_eq_true, stg_t, stg_f, vAd_s, vCap_s, blk_p, List.cons_append, List.nil_append, b2n_t, b2n_f, hN2_3, hN2_6, hN2_8]
      exact goW
    · intro ξ v; rfl
    · intro ξ k v S h3 hn hk
      first
      | rfl
    apply YSeq.callI (next_gen 3 (by omega)) (fun _ => (Evs.cons rfl (Evs.cons rfl Evs.nil)))
    · intro ξ S h1 h3
      have hN3_6 := closed_false h1 h3 (k := 6) rfl (by decide)
      have hN3_8 := closed_false h1 h3 (k := 8) rfl (by decide)
      have hq3 := b2n_le (S 3)
      have hq6 := b2n_le (S 6)
      simp only [upd_same, updD_same, upd_ne, updD_ne, ne_eq, Nat.reduceEqDiff, not_false_eq_true, stg_t, stg_f, vAd_s, vCap_s, blk_p, List.cons_append, List.nil_append, b2n_t, b2n_f, h1, hN3_6, hN3_8]
      refine ⟨_, _, ?_, goXp, fun v => ?_⟩
      · omega
      · refine List.Perm.trans goXp (perm_strm ?_)
        omega
    apply YSeq.w (by intro _ _ _; rfl)
    · intro ξ S h1 h2 h3 h4
      have hN4_6 := closed_false h1 h3 (k := 6) rfl (by decide)
      have hN4_8 := closed_false h1 h3 (k := 8) rfl (by decide)
      try simp only [upd_same, updD_same, upd_ne, updD_ne, ne_eq, Nat.reduceEqDiff, not_false_eq_true, stg_t, stg_f, vAd_s, vCap_s, blk_p, List.cons_append, List.nil_append, b2n_t, b2n_f, hN4_6, hN4_8]
      exact goW
    · intro ξ v; rfl
    · intro ξ k v S h3 hn hk
      first
      | rfl
    apply YSeq.w (by intro _ _ _; rfl)
    · intro ξ S h1 h2 h3 h4
      have hN5_6 := closed_false h1 h3 (k := 6) rfl (by decide)
      have hN5_8 := closed_false h1 h3 (k := 8) rfl (by decide)
      try simp only [upd_same, updD_same, upd_ne, updD_ne, ne_eq, Nat.reduceEqDiff, not_false_eq_true, stg_t, stg_f, vAd_s, vCap_s, blk_p, List.cons_append, List.nil_append, b2n_t, b2n_f, hN5_6, hN5_8]
      exact goW
    · intro ξ v; rfl
    · intro ξ k v S h3 hn hk
      first
      | rfl
    apply YSeq.callI (pick_gen (l := [-1, 1000000001, 500]) (by repeat' (first | exact IsInts.nil | apply IsInts.cons)) (by simp)) (fun _ => (Evs.cons rfl (Evs.cons rfl Evs.nil)))
    · intro ξ S h1 h3
      have hN6_8 := closed_false h1 h3 (k := 8) rfl (by decide)
      have hq3 := b2n_le (S 3)
      have hq6 := b2n_le (S 6)
      simp only [upd_same, updD_same, upd_ne, updD_ne, ne_eq, Nat.reduceEqDiff, not_false_eq_true, stg_t, stg_f, vAd_s, vCap_s, blk_p, List.cons_append, List.nil_append, b2n_t, b2n_f, h1, hN6_8]
      refine ⟨_, _, ?_, goXp, fun v => ?_⟩
      · omega
      · refine List.Perm.trans goXp (perm_strm ?_)
        omega
    apply YSeq.w (by intro _ _ _; rfl)
    · intro ξ S h1 h2 h3 h4
      have hY7_3 : S 3 = true := h2 3 (by decide)
      have hY7_6 : S 6 = true := h2 6 (by decide)
      have hN7_8 := closed_false h1 h3 (k := 8) rfl (by decide)
      have hR42 := pf_int (next_gen 3 (by omega)) (h4 3 hY7_3)
      try simp only [InRange] at hR42
      have hRn42 := hR42
      try simp only [Nat.zero_add, Nat.reduceAdd] at hRn42
      have hR45 := pf_int (pick_gen (l := [-1, 1000000001, 500]) (by repeat' (first | exact IsInts.nil | apply IsInts.cons)) (by simp)) (h4 6 hY7_6)
      try simp only [InRange] at hR45
      have hRn45 := hR45
      try simp only [Nat.zero_add, Nat.reduceAdd] at hRn45
      try simp only [upd_same, updD_same, upd_ne, updD_ne, ne_eq, Nat.reduceEqDiff, not_false_eq_true, stg_t, stg_f, vAd_s, vCap_s, blk_p, List.cons_append, List.nil_append, b2n_t, b2n_f, hY7_3, hY7_6, hN7_8]
      exact goW
    · intro ξ v; rfl
    · intro ξ k v S h3 hn hk
      first
      | rfl
      | skip
        have hY7_3 : S 3 = true := h3 7 _ rfl hn 3 (by decide)
        have hY7_6 : S 6 = true := h3 7 _ rfl hn 6 (by decide)
        simp only [upd_S hY7_3 hk, upd_S hY7_6 hk]
    apply YSeq.storeO
    · intro ξ S h1 h2 h3 h4
      have hY8_3 : S 3 = true := h2 3 (by decide)
      have hY8_6 : S 6 = true := h2 6 (by decide)
      have hR42 := pf_int (next_gen 3 (by omega)) (h4 3 hY8_3)
      try simp only [InRange] at hR42
      have hRn42 := hR42
      try simp only [Nat.zero_add, Nat.reduceAdd] at hRn42
      have hR45 := pf_int (pick_gen (l := [-1, 1000000001, 500]) (by repeat' (first | exact IsInts.nil | apply IsInts.cons)) (by simp)) (h4 6 hY8_6)
      try simp only [InRange] at hR45
      have hRn45 := hR45
      try simp only [Nat.zero_add, Nat.reduceAdd] at hRn45
      have hq := hur (vInt (ξ 3)) (by omega)
      simp only [upd_same, updD_same, upd_ne, updD_ne, ne_eq, Nat.reduceEqDiff, not_false_eq_true, stg_t, stg_f, vAd_s, vCap_s, blk_p, List.cons_append, List.nil_append, b2n_t, b2n_f, hY8_3, hY8_6, h1]
      refine ⟨_, _, _, _, _, _, _, _, _, _, rfl, rfl, inferInstance, goXp, (by first | rfl | assumption | (simp [*]; done)), (by decide), ?_⟩
      exact goXm
    refine YSeq.nil fun ξ hf => ?_
    have hR42 := pf_int (next_gen 3 (by omega)) (hf 3)
    try simp only [InRange] at hR42
    have hR45 := pf_int (pick_gen (l := [-1, 1000000001, 500]) (by repeat' (first | exact IsInts.nil | apply IsInts.cons)) (by simp)) (hf 6)
    try simp only [InRange] at hR45
    refine ⟨[(0, _), (2, _), (4, _)], _, Ent.trans (Ent.eqc rfl (by first | (simp only [upd_same, updD_same, upd_ne, updD_ne, ne_eq, Nat.reduceEqDiff, not_false_eq_true, stg_t, stg_f, vAd_s, vCap_s, blk_p, List.cons_append, List.nil_append, b2n_t, b2n_f, ownV, slV, ptV] <;> rfl) | rfl)) (Ent.sub goSub), ?_⟩
    clear hf
    generalize vInt (ξ 3) = x42 at hR42 ⊢
    generalize vInt (ξ 6) = x45 at hR45 ⊢
    clear hsr hur hx hx3
    repeat' (first | refine goH ?_ | refine goV ?_ | refine goB (fun b => ?_) | refine goC (fun ad cap => ?_) | refine goI ?_ | (refine Cw.k_cond ?_; first | (refine Cw.cond_dec rfl (fun hc => ?_) (fun hc => ?_) <;> try (exfalso; omega)) | refine Cw.cond_bool rfl (fun hc => ?_) (fun hc => ?_)) | refine goR ?_ | refine goP ?_ | apply PSeq.cons | apply PSeq.yes rfl rfl rfl | exact goW | fail)
    rw [int_set]
    have hq : (intRows (w.used.set x42.toNat x45)).length = 3 := by rw [intRows_len, List.length_set, ← intRows_len, hw2]
    refine Fin.ent (Ent.trans (Ent.settle_box (b := b2) (i := 0) (ad := ad16) (kk := 1) (rows := strRows w.sites) (by exact Perm.cons' goPk (Perm.cons' goPk (List.Perm.refl _))) rfl hw1.symm rfl) (Ent.settle_box (b := b2) (i := 2) (ad := ad19) (kk := 1) (rows := intRows (w.used.set x42.toNat x45)) (by exact Perm.cons' goPk (Perm.cons' goPk (List.Perm.refl _))) rfl hq.symm rfl)) ?_
    refine Fin.ret (Ent.trans (Ent.setbox (s := 2) rfl goPk) (Ent.strm_only goPk (by omega))) (Outs.sole rfl goOe) ⟨rfl, ⟨w.sites, w.rights, w.used.set x42.toNat x45⟩, rfl, ⟨hbd.n1, hbd.r, by simpa using hbd.u, hbd.rr⟩⟩
  · have e7 : intRows w.used ++ [[Tr.raw (.int .i64 0)]] = intRows (w.used ++ [0]) := intRows_snoc0 _
    rw [e7]
    refine Fin.ent (Ent.trans (Ent.settle_box (b := b2) (i := 0) (ad := ad16) (kk := 1) (rows := strRows w.sites) (by exact Perm.cons' goPk (Perm.cons' goPk (List.Perm.refl _))) rfl hw1.symm rfl) (Ent.settle_box (b := b2) (i := 2) (ad := ad) (kk := 1) (rows := intRows (w.used ++ [0])) (by exact Perm.cons' goPk (Perm.cons' goPk (List.Perm.refl _))) rfl rfl rfl)) ?_
    refine Fin.ret (Ent.trans (Ent.setbox (s := 2) rfl goPk) (Ent.strm_only goPk (by omega))) (Outs.sole rfl goOe) ⟨rfl, ⟨w.sites, w.rights, w.used ++ [0]⟩, rfl, ⟨hbd.n1, hbd.r, by rw [List.length_append, ← intRows_len, hw2]; decide, hbd.rr⟩⟩
  · rw [intsR_take]
    refine Fin.ent (Ent.trans (Ent.settle_box (b := b2) (i := 0) (ad := ad16) (kk := 1) (rows := strRows w.sites) (by exact Perm.cons' goPk (Perm.cons' goPk (List.Perm.refl _))) rfl hw1.symm rfl) (Ent.settle_box (b := b2) (i := 2) (ad := ad19) (kk := 1) (rows := intRows w.used) (by exact Perm.cons' goPk (Perm.cons' goPk (List.Perm.refl _))) rfl hw2.symm rfl)) ?_
    refine Fin.ret (Ent.trans (Ent.setbox (s := 2) rfl goPk) (Ent.strm_only goPk (by omega))) (Outs.sole rfl goOe) ⟨rfl, ⟨w.sites, w.rights.take 2, w.used⟩, rfl, ⟨hbd.n1, by have := hbd.r; simp only [List.length_take]; omega, hbd.u, fun l hl => hbd.rr l (List.mem_of_mem_take hl)⟩⟩
  · refine Fin.ent (Ent.trans (Ent.imp_box (b := b2) goPk (.cons (Imp.nil (k := 1)) (.cons Imp.refl (.cons Imp.refl .nil)))) (Ent.settle_box (b := b2) (i := 2) (ad := ad19) (kk := 1) (rows := intRows w.used) (by exact Perm.cons' goPk (Perm.cons' goPk (List.Perm.refl _))) rfl hw2.symm rfl)) ?_
    refine Fin.ret (Ent.trans (Ent.setbox (s := 2) rfl goPk) (Ent.strm_only goPk (by omega))) (Outs.sole rfl goOe) ⟨rfl, ⟨[], w.rights, w.used⟩, nilWal _ _, ⟨by simp, hbd.r, hbd.u, hbd.rr⟩⟩
end Lg
