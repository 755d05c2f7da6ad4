/- A part of the proof of a law of this seat: it adds no condition. By an AI agent. -/
import Derived.Test.YtjndncefoiniiaaGreatDoorRd1
set_option linter.all false
set_option maxRecDepth 100000
set_option maxHeartbeats 8000000
namespace Lg
open Go Go.Proofs

/-! ### the generators of a meter and a reading (out of Rd14, Rd15) -/
abbrev Tr.mtr (c t f : Int) : Tr := .agg [.int c, .int t, .int f]
abbrev Tr.rdg (r : Rdg) : Tr := .agg [.int r.t, .ints r.vs]
def Rdg.row (r : Rdg) : List Tr := [.int r.t, .ints r.vs]
theorem intRows_nil : intRows [] = [] := rfl
theorem intRows_snoc (l : List Int) (x : Int) : intRows l ++ [[Tr.int x]] = intRows (l ++ [x]) := by rw [intRows_app]; rfl
theorem int_set (l : List Int) (i : Nat) (v : Int) : (intRows l).set i [Tr.int v] = intRows (l.set i v) := by
  unfold intRows
  rw [List.map_set]
theorem Fin.ent {P : Program} {Γ : Ctx} {env env1 : Env} {cs cs1 : List Chunk} {fn : Func} {post : Tr → List Chunk → Prop} {ex : Exit} (h : Ent Γ env cs env1 cs1) (k : Fin P fn Γ post ex env1 cs1) : Fin P fn Γ post ex env cs := by
  unfold Fin at k ⊢
  obtain ⟨h0, e2, c2, r, h1, h2, h3⟩ := k
  exact ⟨h0, e2, c2, r, h.trans h1, h2, h3⟩
theorem meter_gen : Gen Tryz.prog 25 5 [] 10 (fun r => ∃ c t f : Int, r = .mtr c t f ∧ (-1000000000000 ≤ t ∧ t ≤ 1000000000000) ∧ (-1000000000000 ≤ c ∧ c ≤ 1000000000000) ∧ (-1000000000000 ≤ f ∧ f ≤ 1000000000000)) := by
  unfold Gen
  intro bs xs N hN
  refine Spec.body Tryz.func5 rfl rfl (Tryz.ntmps5) rfl fun w0 own0 M => ?_
  repeat' (first | refine goH ?_ | refine goV ?_ | refine goB (fun b => ?_) | refine goI ?_ | (refine Cw.k_cond ?_; first | (refine Cw.cond_dec rfl (fun hc => ?_) (fun hc => ?_) <;> try (exfalso; omega)) | refine Cw.cond_bool rfl (fun hc => ?_) (fun hc => ?_)) | (refine Ops.k_calla ?_; first | (refine Ops.k_callf 17 ?_; (refine Ops.callG (range_gen _ _ (by omega)) (Evs.cons rfl (Evs.cons rfl (Evs.cons rfl Evs.nil))) goPk (by omega) rfl ?_; rintro r ⟨v, rfl, hv⟩)) | (refine Ops.k_callf 16 ?_; (refine Ops.callG (flip_gen _ (by omega)) (Evs.cons rfl (Evs.cons rfl Evs.nil)) goPk (by omega) rfl ?_; rintro r ⟨v, rfl⟩)) | (refine Ops.k_callf 14 ?_; (refine Ops.callG (pick_gen (by repeat' (first | exact IsInts.nil | apply IsInts.cons)) (by simp)) (Evs.cons rfl (Evs.cons rfl Evs.nil)) goPk (by omega) rfl ?_; rintro r ⟨x, rfl, hx⟩; have hxb : -1000000000000 ≤ x ∧ x ≤ 1000000000000 := (by simp at hx; omega); clear hx))) | fail)
  all_goals
    rename Nat => b2
    refine Fin.ret (Ent.trans (Ent.setbox (s := 2) rfl goPk) (Ent.strm_only goPk (by omega))) (Outs.sole rfl goOe) ⟨rfl, _, _, _, rfl, by omega, by omega, by omega⟩
attribute [local irreducible] intRows
def atL : List Int := [0, 60, 1439, 1440, 3000, 5000, 20000, -1, 5761440, 5761439]
theorem reading_gen2 (c t f : Int) (ht : -1000000000000 ≤ t ∧ t ≤ 1000000000000) : Gen Tryz.prog 25 4 [.mtr c t f] 12 (fun r => ∃ d : Rdg, r = .rdg d ∧ d.vs.length ≤ 6 ∧ d.t ∈ atL) := by
  unfold Gen
  intro bs xs N hN
  refine Spec.body Tryz.func4 rfl rfl (Tryz.ntmps4) rfl fun w0 own0 M => ?_
  repeat' (first | refine goH ?_ | refine goV ?_ | refine goB (fun b => ?_) | refine goC (fun ad cap => ?_) | refine goG ?_ | (refine Ops.k_guard ?_; first | (refine Ops.guard_dec rfl rfl (fun hc => ?_) (fun hc => ?_) <;> try (exfalso; omega)) | refine Ops.guard_split rfl rfl (fun hc => ?_) (fun hc => ?_)) | refine goI ?_ | (refine Cw.k_cond ?_; first | (refine Cw.cond_dec rfl (fun hc => ?_) (fun hc => ?_) <;> try (exfalso; omega)) | refine Cw.cond_bool rfl (fun hc => ?_) (fun hc => ?_)) | (refine Ops.k_calla ?_; first | (refine Ops.k_callf 16 ?_; (refine Ops.callG (flip_gen _ (by omega)) (Evs.cons rfl (Evs.cons rfl Evs.nil)) goPk (by omega) rfl ?_; rintro r ⟨u, rfl⟩)) | (refine Ops.k_callf 14 ?_; (refine Ops.callG (pick_gen (by repeat' (first | exact IsInts.nil | apply IsInts.cons)) (by simp)) (Evs.cons rfl (Evs.cons rfl Evs.nil)) goPk (by omega) rfl ?_; rintro r ⟨v, rfl, hx⟩; have hxbv : -1000000000000 ≤ v ∧ v ≤ 1000000000000 := (by simp at hx; omega); have hatv : v ∈ atL := (by simp [atL] at hx ⊢; omega); clear hx))) | refine goR ?_ | refine goP ?_ | apply PSeq.cons | apply PSeq.yes rfl rfl rfl | exact goW | fail)
  rename_i b3 b4
  obtain ⟨n, hn⟩ : ∃ n : Nat, max (min c 5) 0 = n := ⟨(max (min c 5) 0).toNat, by omega⟩
  have hn5 : n ≤ 5 := by omega
  refine Cw.loopI [(0, _), (3, _), (4, _), (5, _), (13, _)] _ (fun q e cc => ∃ (k : Nat) (rows : List (List Tr)) (l : List Int) (ad : Option Addr) (cap : Nat) (m : Nat), q = n - k ∧ (k ≤ n ∧ rows = intRows l ∧ (intRows l).length = k ∧ l.length = k ∧ m ≤ N + 1 + k) ∧ e = [(14, .int k)] ∧ cc = [Chunk.box b 27 [.int v, Tr.raw (.slice ad k cap)], Chunk.own ad cap 1 3 rows, Chunk.strm 25 bs (intRows xs) m])
    ⟨_, _, _, Ent.trans (Ent.nil 1 3) (Ent.mkP goSub goPm), 0, [], [], none, 0, N + 1, rfl, ⟨by omega, intRows_nil.symm, by rw [intRows_nil]; rfl, rfl, by omega⟩, rfl, rfl⟩ ?_
  rintro _ _ _ ⟨k, _, l, ad, cap, m, rfl, ⟨hk, rfl, hrl, hll, hm⟩, rfl, rfl⟩
  by_cases hkn : k < n
  · repeat' (first | refine goH ?_ | refine goV ?_ | refine goB (fun b => ?_) | refine goC (fun ad cap => ?_) | refine goG ?_ | (refine Ops.k_guard ?_; first | (refine Ops.guard_dec rfl rfl (fun hc => ?_) (fun hc => ?_) <;> try (exfalso; omega)) | refine Ops.guard_split rfl rfl (fun hc => ?_) (fun hc => ?_)) | refine goI ?_ | (refine Cw.k_cond ?_; first | (refine Cw.cond_dec rfl (fun hc => ?_) (fun hc => ?_) <;> try (exfalso; omega)) | refine Cw.cond_bool rfl (fun hc => ?_) (fun hc => ?_)) | fail)
    first | refine Cw.region_YP (fun ξ S => Chunk.strm 25 bs (intRows xs) (m + b2n (S 7)) :: Chunk.box b3 30 [.int c, .int t, .int f] :: Chunk.box b4 27 (List.map Tr.raw [.int .i64 0, .slice none 0 0]) :: Chunk.box b 27 [.int v, stg (S 11) (Tr.raw (.slice ad k cap)) (Tr.raw (.slice (vAd (ξ 9)) (k + 1) (vCap (ξ 9))))] :: stg (S 9) (Chunk.own ad cap 1 3 (intRows l)) (ownV (ξ 9) 1 3 (intRows l ++ [[.int (vInt (ξ 7))]])) :: []) rfl (by decide +kernel) rfl ((fun (ξ : Nat → Value) (S : Nat → Bool) => Chunk.strm 25 bs (intRows xs) (m + b2n (S 7)) :: Chunk.box b3 30 [.int c, .int t, .int f] :: Chunk.box b4 27 (List.map Tr.raw [.int .i64 0, .slice none 0 0]) :: Chunk.box b 27 [.int v, stg (S 11) (Tr.raw (.slice ad k cap)) (Tr.raw (.slice (vAd (ξ 9)) (k + 1) (vCap (ξ 9))))] :: stg (S 9) (Chunk.own ad cap 1 3 (intRows l)) (ownV (ξ 9) 1 3 (intRows l ++ [[.int (vInt (ξ 7))]])) :: []) (fun _ => undef) (fun _ => false)) (by simp only [upd_same, updD_same, upd_ne, updD_ne, ne_eq, Nat.reduceEqDiff, not_false_eq_true, stg_t, stg_f, vAd_s, vCap_s, blk_p, List.cons_append, List.nil_append, b2n_t, b2n_f]; exact goXm) (fun _ => rfl) ?_ | fail
    apply YSeq.w (by intro _ _ _; rfl)
    · intro ξ S h1 h2 h3 h4
      have hN0_1 := closed_false h1 h3 (k := 1) rfl (by decide)
      have hN0_9 := closed_false hN0_1 h3 (k := 9) rfl (by decide)
      have hN0_11 := closed_false h1 h3 (k := 11) rfl (by decide)
      try simp only [upd_same, updD_same, upd_ne, updD_ne, ne_eq, Nat.reduceEqDiff, not_false_eq_true, stg_t, stg_f, vAd_s, vCap_s, blk_p, List.cons_append, List.nil_append, b2n_t, b2n_f, hN0_9, hN0_11]
      exact goW
    · intro ξ v; rfl
    · intro ξ k v S h3 hn hk
      first
      | rfl
    apply YSeq.w (by intro _ _ _; rfl)
    · intro ξ S h1 h2 h3 h4
      have hN1_9 := closed_false h1 h3 (k := 9) rfl (by decide)
      have hN1_11 := closed_false h1 h3 (k := 11) rfl (by decide)
      try simp only [upd_same, updD_same, upd_ne, updD_ne, ne_eq, Nat.reduceEqDiff, not_false_eq_true, stg_t, stg_f, vAd_s, vCap_s, blk_p, List.cons_append, List.nil_append, b2n_t, b2n_f, hN1_9, hN1_11]
      exact goW
    · intro ξ v; rfl
    · intro ξ k v S h3 hn hk
      first
      | rfl
    apply YSeq.w (by intro _ _ _; rfl)
    · intro ξ S h1 h2 h3 h4
      have hN2_7 := closed_false h1 h3 (k := 7) rfl (by decide)
      have hN2_9 := closed_false hN2_7 h3 (k := 9) rfl (by decide)
      have hN2_11 := closed_false h1 h3 (k := 11) rfl (by decide)
      try simp only [upd_same, updD_same, upd_ne, updD_ne, ne_eq, Nat.reduceEqDiff, not_false_eq_true, stg_t, stg_f, vAd_s, vCap_s, blk_p, List.cons_append, List.nil_append, b2n_t, b2n_f, hN2_7, hN2_9, hN2_11]
      exact goW
    · intro ξ v; rfl
    · intro ξ k v S h3 hn hk
      first
      | rfl
    apply YSeq.w (by intro _ _ _; rfl)
    · intro ξ S h1 h2 h3 h4
      have hN3_4 := closed_false h1 h3 (k := 4) rfl (by decide)
      have hN3_5 := closed_false hN3_4 h3 (k := 5) rfl (by decide)
      have hN3_6 := closed_false hN3_5 h3 (k := 6) rfl (by decide)
      have hN3_7 := closed_false hN3_6 h3 (k := 7) rfl (by decide)
      have hN3_9 := closed_false hN3_7 h3 (k := 9) rfl (by decide)
      have hN3_11 := closed_false h1 h3 (k := 11) rfl (by decide)
      try simp only [upd_same, updD_same, upd_ne, updD_ne, ne_eq, Nat.reduceEqDiff, not_false_eq_true, stg_t, stg_f, vAd_s, vCap_s, blk_p, List.cons_append, List.nil_append, b2n_t, b2n_f, hN3_7, hN3_9, hN3_11]
      exact goW
    · intro ξ v; rfl
    · intro ξ k v S h3 hn hk
      first
      | rfl
    apply YSeq.w (by intro _ _ _; rfl)
    · intro ξ S h1 h2 h3 h4
      have hN4_5 := closed_false h1 h3 (k := 5) rfl (by decide)
      have hN4_6 := closed_false hN4_5 h3 (k := 6) rfl (by decide)
      have hN4_7 := closed_false hN4_6 h3 (k := 7) rfl (by decide)
      have hN4_9 := closed_false hN4_7 h3 (k := 9) rfl (by decide)
      have hN4_11 := closed_false h1 h3 (k := 11) rfl (by decide)
      try simp only [upd_same, updD_same, upd_ne, updD_ne, ne_eq, Nat.reduceEqDiff, not_false_eq_true, stg_t, stg_f, vAd_s, vCap_s, blk_p, List.cons_append, List.nil_append, b2n_t, b2n_f, hN4_7, hN4_9, hN4_11]
      exact goW
    · intro ξ v; rfl
    · intro ξ k v S h3 hn hk
      first
      | rfl
    apply YSeq.w (by intro _ _ _; rfl)
    · intro ξ S h1 h2 h3 h4
      have hN5_6 := closed_false h1 h3 (k := 6) rfl (by decide)
      have hN5_7 := closed_false hN5_6 h3 (k := 7) rfl (by decide)
      have hN5_9 := closed_false hN5_7 h3 (k := 9) rfl (by decide)
      have hN5_11 := closed_false h1 h3 (k := 11) rfl (by decide)
      try simp only [upd_same, updD_same, upd_ne, updD_ne, ne_eq, Nat.reduceEqDiff, not_false_eq_true, stg_t, stg_f, vAd_s, vCap_s, blk_p, List.cons_append, List.nil_append, b2n_t, b2n_f, hN5_7, hN5_9, hN5_11]
      exact goW
    · intro ξ v; rfl
    · intro ξ k v S h3 hn hk
      first
      | rfl
    apply YSeq.w (by intro _ _ _; rfl)
    · intro ξ S h1 h2 h3 h4
      have hN6_7 := closed_false h1 h3 (k := 7) rfl (by decide)
      have hN6_9 := closed_false hN6_7 h3 (k := 9) rfl (by decide)
      have hN6_11 := closed_false h1 h3 (k := 11) rfl (by decide)
      try simp only [upd_same, updD_same, upd_ne, updD_ne, ne_eq, Nat.reduceEqDiff, not_false_eq_true, stg_t, stg_f, vAd_s, vCap_s, blk_p, List.cons_append, List.nil_append, b2n_t, b2n_f, hN6_7, hN6_9, hN6_11]
      exact goW
    · intro ξ v; rfl
    · intro ξ k v S h3 hn hk
      first
      | rfl
    apply YSeq.callI (next_gen (max (min t 1000) 1) (by omega)) (fun _ => (Evs.cons rfl (Evs.cons rfl Evs.nil)))
    · intro ξ S h1 h3
      have hN7_9 := closed_false h1 h3 (k := 9) rfl (by decide)
      have hN7_11 := closed_false h1 h3 (k := 11) rfl (by decide)
      have hq7 := b2n_le (S 7)
      simp only [upd_same, updD_same, upd_ne, updD_ne, ne_eq, Nat.reduceEqDiff, not_false_eq_true, stg_t, stg_f, vAd_s, vCap_s, blk_p, List.cons_append, List.nil_append, b2n_t, b2n_f, h1, hN7_9, hN7_11]
      refine ⟨_, _, ?_, goXp, fun v => ?_⟩
      · omega
      · refine List.Perm.trans goXp (perm_strm ?_)
        omega
    apply YSeq.w (by intro _ _ _; rfl)
    · intro ξ S h1 h2 h3 h4
      have hY8_7 : S 7 = true := h2 7 (by decide)
      have hN8_9 := closed_false h1 h3 (k := 9) rfl (by decide)
      have hN8_11 := closed_false h1 h3 (k := 11) rfl (by decide)
      have hR23 := pf_int (next_gen (max (min t 1000) 1) (by omega)) (h4 7 hY8_7)
      try simp only [InRange] at hR23
      have hRn23 := hR23
      try simp only [Nat.zero_add, Nat.reduceAdd] at hRn23
      try simp only [upd_same, updD_same, upd_ne, updD_ne, ne_eq, Nat.reduceEqDiff, not_false_eq_true, stg_t, stg_f, vAd_s, vCap_s, blk_p, List.cons_append, List.nil_append, b2n_t, b2n_f, hY8_7, hN8_9, hN8_11]
      exact goW
    · intro ξ v; rfl
    · intro ξ k v S h3 hn hk
      first
      | rfl
      | skip
        have hY8_7 : S 7 = true := h3 8 _ rfl hn 7 (by decide)
        simp only [upd_S hY8_7 hk]
    apply YSeq.append (k + 1)
    · intro ξ S h1 h2 h3 h4
      have hY9_7 : S 7 = true := h2 7 (by decide)
      have hN9_11 := closed_false h1 h3 (k := 11) rfl (by decide)
      have hR23 := pf_int (next_gen (max (min t 1000) 1) (by omega)) (h4 7 hY9_7)
      try simp only [InRange] at hR23
      have hRn23 := hR23
      try simp only [Nat.zero_add, Nat.reduceAdd] at hRn23
      simp only [upd_same, updD_same, upd_ne, updD_ne, ne_eq, Nat.reduceEqDiff, not_false_eq_true, stg_t, stg_f, vAd_s, vCap_s, blk_p, List.cons_append, List.nil_append, b2n_t, b2n_f, hY9_7, h1, hN9_11]
      refine ⟨_, _, _, _, _, _, rfl, rfl, goXp, (by first | rfl | (simp; done) | omega), (by first | rfl | omega | (simp; done) | (simp; omega)), (by first | omega | (simp; done) | (simp; omega)), (by first | omega | (simp; done) | (simp; omega)), fun ad' cap' => ?_⟩
      exact goXm
    apply YSeq.w (by intro _ _ _; rfl)
    · intro ξ S h1 h2 h3 h4
      have hY10_7 : S 7 = true := h2 7 (by decide)
      have hY10_9 : S 9 = true := h2 9 (by decide)
      have hN10_11 := closed_false h1 h3 (k := 11) rfl (by decide)
      have hR23 := pf_int (next_gen (max (min t 1000) 1) (by omega)) (h4 7 hY10_7)
      try simp only [InRange] at hR23
      have hRn23 := hR23
      try simp only [Nat.zero_add, Nat.reduceAdd] at hRn23
      try simp only [upd_same, updD_same, upd_ne, updD_ne, ne_eq, Nat.reduceEqDiff, not_false_eq_true, stg_t, stg_f, vAd_s, vCap_s, blk_p, List.cons_append, List.nil_append, b2n_t, b2n_f, hY10_7, hY10_9, hN10_11]
      exact goW
    · intro ξ v; rfl
    · intro ξ k v S h3 hn hk
      first
      | rfl
      | skip
        have hY10_7 : S 7 = true := h3 10 _ rfl hn 7 (by decide)
        have hY10_9 : S 9 = true := h3 10 _ rfl hn 9 (by decide)
        simp only [upd_S hY10_7 hk, upd_S hY10_9 hk]
    apply YSeq.store
    · intro ξ S h1 h2 h3 h4
      have hY11_7 : S 7 = true := h2 7 (by decide)
      have hY11_9 : S 9 = true := h2 9 (by decide)
      have hR23 := pf_int (next_gen (max (min t 1000) 1) (by omega)) (h4 7 hY11_7)
      try simp only [InRange] at hR23
      have hRn23 := hR23
      try simp only [Nat.zero_add, Nat.reduceAdd] at hRn23
      simp only [upd_same, updD_same, upd_ne, updD_ne, ne_eq, Nat.reduceEqDiff, not_false_eq_true, stg_t, stg_f, vAd_s, vCap_s, blk_p, List.cons_append, List.nil_append, b2n_t, b2n_f, hY11_7, hY11_9, h1]
      refine ⟨_, _, _, _, _, _, _, rfl, rfl, inferInstance, goXp, rfl, Nat.le_of_ble_eq_true rfl, ?_⟩
      exact goXm
    refine YSeq.nil fun ξ hf => ?_
    have hR23 := pf_int (next_gen (max (min t 1000) 1) (by omega)) (hf 7)
    try simp only [InRange] at hR23
    refine ⟨[(0, _), (3, _), (4, _), (5, _), (13, _), (14, _)], _, Ent.trans (Ent.eqc rfl (by first | (simp only [upd_same, updD_same, upd_ne, updD_ne, ne_eq, Nat.reduceEqDiff, not_false_eq_true, stg_t, stg_f, vAd_s, vCap_s, blk_p, List.cons_append, List.nil_append, b2n_t, b2n_f, ownV, slV, ptV] <;> rfl) | rfl)) (Ent.sub goSub), ?_⟩
    clear hf
    generalize vInt (ξ 7) = x23 at hR23 ⊢
    generalize vAd (ξ 9) = ad25
    generalize vCap (ξ 9) = cap25
    rw [intRows_snoc]
    repeat' (first | refine goH ?_ | refine goV ?_ | refine goB (fun b => ?_) | refine goC (fun ad cap => ?_) | refine goG ?_ | (refine Ops.k_guard ?_; first | (refine Ops.guard_dec rfl rfl (fun hc => ?_) (fun hc => ?_) <;> try (exfalso; omega)) | refine Ops.guard_split rfl rfl (fun hc => ?_) (fun hc => ?_)) | refine goI ?_ | (refine Cw.k_cond ?_; first | (refine Cw.cond_dec rfl (fun hc => ?_) (fun hc => ?_) <;> try (exfalso; omega)) | refine Cw.cond_bool rfl (fun hc => ?_) (fun hc => ?_)) | refine goR ?_ | refine goP ?_ | apply PSeq.cons | apply PSeq.yes rfl rfl rfl | exact goW | fail)
    exact ⟨_, _, _, (Ent.mk goSub goTk), ⟨k + 1, _, l ++ [x23], _, _, _, rfl, ⟨by omega, rfl, by rw [intRows_len]; simp [hll], by simp [hll], by omega⟩, rfl, rfl⟩, by omega⟩
  have hkn2 : k = n := by omega
  subst hkn2
  repeat' (first | refine goH ?_ | refine goV ?_ | refine goB (fun b => ?_) | refine goC (fun ad cap => ?_) | refine goG ?_ | (refine Ops.k_guard ?_; first | (refine Ops.guard_dec rfl rfl (fun hc => ?_) (fun hc => ?_) <;> try (exfalso; omega)) | refine Ops.guard_split rfl rfl (fun hc => ?_) (fun hc => ?_)) | refine goI ?_ | (refine Cw.k_cond ?_; first | (refine Cw.cond_dec rfl (fun hc => ?_) (fun hc => ?_) <;> try (exfalso; omega)) | refine Cw.cond_bool rfl (fun hc => ?_) (fun hc => ?_)) | (refine Ops.k_calla ?_; first | (refine Ops.k_callf 16 ?_; (refine Ops.callG (flip_gen _ (by omega)) (Evs.cons rfl (Evs.cons rfl Evs.nil)) goPk (by omega) rfl ?_; rintro r ⟨u, rfl⟩)) | (refine Ops.k_callf 14 ?_; (refine Ops.callG (pick_gen (by repeat' (first | exact IsInts.nil | apply IsInts.cons)) (by simp)) (Evs.cons rfl (Evs.cons rfl Evs.nil)) goPk (by omega) rfl ?_; rintro r ⟨w, rfl, hx⟩; have hxbw : -1000000000000 ≤ w ∧ w ≤ 1000000000000 := (by simp at hx; omega); have hatw : w ∈ atL := (by simp [atL] at hx ⊢; omega); clear hx))) | fail)
  · first | refine Cw.region_YP (fun ξ S => Chunk.strm 25 bs (intRows xs) (m + 1 + 1 + 1 + b2n (S 4)) :: Chunk.box b3 30 [.int c, .int t, .int f] :: Chunk.box b4 27 (List.map Tr.raw [.int .i64 0, .slice none 0 0]) :: Chunk.box b 27 [.int w, stg (S 8) (Tr.raw (.slice ad k cap)) (Tr.raw (.slice (vAd (ξ 6)) (k + 1) (vCap (ξ 6))))] :: stg (S 6) (Chunk.own ad cap 1 3 (intRows l)) (ownV (ξ 6) 1 3 (intRows l ++ [[.int (vInt (ξ 4))]])) :: []) rfl (by decide +kernel) rfl ((fun (ξ : Nat → Value) (S : Nat → Bool) => Chunk.strm 25 bs (intRows xs) (m + 1 + 1 + 1 + b2n (S 4)) :: Chunk.box b3 30 [.int c, .int t, .int f] :: Chunk.box b4 27 (List.map Tr.raw [.int .i64 0, .slice none 0 0]) :: Chunk.box b 27 [.int w, stg (S 8) (Tr.raw (.slice ad k cap)) (Tr.raw (.slice (vAd (ξ 6)) (k + 1) (vCap (ξ 6))))] :: stg (S 6) (Chunk.own ad cap 1 3 (intRows l)) (ownV (ξ 6) 1 3 (intRows l ++ [[.int (vInt (ξ 4))]])) :: []) (fun _ => undef) (fun _ => false)) (by simp only [upd_same, updD_same, upd_ne, updD_ne, ne_eq, Nat.reduceEqDiff, not_false_eq_true, stg_t, stg_f, vAd_s, vCap_s, blk_p, List.cons_append, List.nil_append, b2n_t, b2n_f]; exact goXm) (fun _ => rfl) ?_ | fail
    apply YSeq.w (by intro _ _ _; rfl)
    · intro ξ S h1 h2 h3 h4
      have hN0_1 := closed_false h1 h3 (k := 1) rfl (by decide)
      have hN0_6 := closed_false hN0_1 h3 (k := 6) rfl (by decide)
      have hN0_8 := closed_false h1 h3 (k := 8) rfl (by decide)
      try simp only [upd_same, updD_same, upd_ne, updD_ne, ne_eq, Nat.reduceEqDiff, not_false_eq_true, stg_t, stg_f, vAd_s, vCap_s, blk_p, List.cons_append, List.nil_append, b2n_t, b2n_f, hN0_6, hN0_8]
      exact goW
    · intro ξ v; rfl
    · intro ξ k v S h3 hn hk
      first
      | rfl
    apply YSeq.w (by intro _ _ _; rfl)
    · intro ξ S h1 h2 h3 h4
      have hN1_6 := closed_false h1 h3 (k := 6) rfl (by decide)
      have hN1_8 := closed_false h1 h3 (k := 8) rfl (by decide)
      try simp only [upd_same, updD_same, upd_ne, updD_ne, ne_eq, Nat.reduceEqDiff, not_false_eq_true, stg_t, stg_f, vAd_s, vCap_s, blk_p, List.cons_append, List.nil_append, b2n_t, b2n_f, hN1_6, hN1_8]
      exact goW
    · intro ξ v; rfl
    · intro ξ k v S h3 hn hk
      first
      | rfl
    apply YSeq.w (by intro _ _ _; rfl)
    · intro ξ S h1 h2 h3 h4
      have hN2_4 := closed_false h1 h3 (k := 4) rfl (by decide)
      have hN2_6 := closed_false hN2_4 h3 (k := 6) rfl (by decide)
      have hN2_8 := closed_false h1 h3 (k := 8) rfl (by decide)
      try simp only [upd_same, updD_same, upd_ne, updD_ne, ne_eq, Nat.reduceEqDiff, not_false_eq_true, stg_t, stg_f, vAd_s, vCap_s, blk_p, List.cons_append, List.nil_append, b2n_t, b2n_f, hN2_4, hN2_6, hN2_8]
      exact goW
    · intro ξ v; rfl
    · intro ξ k v S h3 hn hk
      first
      | rfl
    apply YSeq.w (by intro _ _ _; rfl)
    · intro ξ S h1 h2 h3 h4
      have hN3_4 := closed_false h1 h3 (k := 4) rfl (by decide)
      have hN3_6 := closed_false hN3_4 h3 (k := 6) rfl (by decide)
      have hN3_8 := closed_false h1 h3 (k := 8) rfl (by decide)
      try simp only [upd_same, updD_same, upd_ne, updD_ne, ne_eq, Nat.reduceEqDiff, not_false_eq_true, stg_t, stg_f, vAd_s, vCap_s, blk_p, List.cons_append, List.nil_append, b2n_t, b2n_f, hN3_4, hN3_6, hN3_8]
      exact goW
    · intro ξ v; rfl
    · intro ξ k v S h3 hn hk
      first
      | rfl
    apply YSeq.callI (pick_gen (l := [0, -1]) (by repeat' (first | exact IsInts.nil | apply IsInts.cons)) (by simp)) (fun _ => (Evs.cons rfl (Evs.cons rfl Evs.nil)))
    · intro ξ S h1 h3
      have hN4_6 := closed_false h1 h3 (k := 6) rfl (by decide)
      have hN4_8 := closed_false h1 h3 (k := 8) rfl (by decide)
      have hq4 := b2n_le (S 4)
      simp only [upd_same, updD_same, upd_ne, updD_ne, ne_eq, Nat.reduceEqDiff, not_false_eq_true, stg_t, stg_f, vAd_s, vCap_s, blk_p, List.cons_append, List.nil_append, b2n_t, b2n_f, h1, hN4_6, hN4_8]
      refine ⟨_, _, ?_, goXp, fun v => ?_⟩
      · omega
      · refine List.Perm.trans goXp (perm_strm ?_)
        omega
    apply YSeq.w (by intro _ _ _; rfl)
    · intro ξ S h1 h2 h3 h4
      have hY5_4 : S 4 = true := h2 4 (by decide)
      have hN5_6 := closed_false h1 h3 (k := 6) rfl (by decide)
      have hN5_8 := closed_false h1 h3 (k := 8) rfl (by decide)
      have hR40 := pf_int (pick_gen (l := [0, -1]) (by repeat' (first | exact IsInts.nil | apply IsInts.cons)) (by simp)) (h4 4 hY5_4)
      try simp only [InRange] at hR40
      have hRn40 := hR40
      try simp only [Nat.zero_add, Nat.reduceAdd] at hRn40
      try simp only [upd_same, updD_same, upd_ne, updD_ne, ne_eq, Nat.reduceEqDiff, not_false_eq_true, stg_t, stg_f, vAd_s, vCap_s, blk_p, List.cons_append, List.nil_append, b2n_t, b2n_f, hY5_4, hN5_6, hN5_8]
      exact goW
    · intro ξ v; rfl
    · intro ξ k v S h3 hn hk
      first
      | rfl
      | skip
        have hY5_4 : S 4 = true := h3 5 _ rfl hn 4 (by decide)
        simp only [upd_S hY5_4 hk]
    apply YSeq.append (k + 1)
    · intro ξ S h1 h2 h3 h4
      have hY6_4 : S 4 = true := h2 4 (by decide)
      have hN6_8 := closed_false h1 h3 (k := 8) rfl (by decide)
      have hR40 := pf_int (pick_gen (l := [0, -1]) (by repeat' (first | exact IsInts.nil | apply IsInts.cons)) (by simp)) (h4 4 hY6_4)
      try simp only [InRange] at hR40
      have hRn40 := hR40
      try simp only [Nat.zero_add, Nat.reduceAdd] at hRn40
      simp only [upd_same, updD_same, upd_ne, updD_ne, ne_eq, Nat.reduceEqDiff, not_false_eq_true, stg_t, stg_f, vAd_s, vCap_s, blk_p, List.cons_append, List.nil_append, b2n_t, b2n_f, hY6_4, h1, hN6_8]
      refine ⟨_, _, _, _, _, _, rfl, rfl, goXp, (by first | rfl | (simp; done) | omega), (by first | rfl | omega | (simp; done) | (simp; omega)), (by first | omega | (simp; done) | (simp; omega)), (by first | omega | (simp; done) | (simp; omega)), fun ad' cap' => ?_⟩
      exact goXm
    apply YSeq.w (by intro _ _ _; rfl)
    · intro ξ S h1 h2 h3 h4
      have hY7_4 : S 4 = true := h2 4 (by decide)
      have hY7_6 : S 6 = true := h2 6 (by decide)
      have hN7_8 := closed_false h1 h3 (k := 8) rfl (by decide)
      have hR40 := pf_int (pick_gen (l := [0, -1]) (by repeat' (first | exact IsInts.nil | apply IsInts.cons)) (by simp)) (h4 4 hY7_4)
      try simp only [InRange] at hR40
      have hRn40 := hR40
      try simp only [Nat.zero_add, Nat.reduceAdd] at hRn40
      try simp only [upd_same, updD_same, upd_ne, updD_ne, ne_eq, Nat.reduceEqDiff, not_false_eq_true, stg_t, stg_f, vAd_s, vCap_s, blk_p, List.cons_append, List.nil_append, b2n_t, b2n_f, hY7_4, hY7_6, hN7_8]
      exact goW
    · intro ξ v; rfl
    · intro ξ k v S h3 hn hk
      first
      | rfl
      | skip
        have hY7_4 : S 4 = true := h3 7 _ rfl hn 4 (by decide)
        have hY7_6 : S 6 = true := h3 7 _ rfl hn 6 (by decide)
        simp only [upd_S hY7_4 hk, upd_S hY7_6 hk]
    apply YSeq.store
    · intro ξ S h1 h2 h3 h4
      have hY8_4 : S 4 = true := h2 4 (by decide)
      have hY8_6 : S 6 = true := h2 6 (by decide)
      have hR40 := pf_int (pick_gen (l := [0, -1]) (by repeat' (first | exact IsInts.nil | apply IsInts.cons)) (by simp)) (h4 4 hY8_4)
      try simp only [InRange] at hR40
      have hRn40 := hR40
      try simp only [Nat.zero_add, Nat.reduceAdd] at hRn40
      simp only [upd_same, updD_same, upd_ne, updD_ne, ne_eq, Nat.reduceEqDiff, not_false_eq_true, stg_t, stg_f, vAd_s, vCap_s, blk_p, List.cons_append, List.nil_append, b2n_t, b2n_f, hY8_4, hY8_6, h1]
      refine ⟨_, _, _, _, _, _, _, rfl, rfl, inferInstance, goXp, rfl, Nat.le_of_ble_eq_true rfl, ?_⟩
      exact goXm
    refine YSeq.nil fun ξ hf => ?_
    have hR40 := pf_int (pick_gen (l := [0, -1]) (by repeat' (first | exact IsInts.nil | apply IsInts.cons)) (by simp)) (hf 4)
    try simp only [InRange] at hR40
    refine ⟨[(0, _), (3, _), (4, _), (5, _)], _, Ent.trans (Ent.eqc rfl (by first | (simp only [upd_same, updD_same, upd_ne, updD_ne, ne_eq, Nat.reduceEqDiff, not_false_eq_true, stg_t, stg_f, vAd_s, vCap_s, blk_p, List.cons_append, List.nil_append, b2n_t, b2n_f, ownV, slV, ptV] <;> rfl) | rfl)) (Ent.sub goSub), ?_⟩
    clear hf
    generalize vInt (ξ 4) = x40 at hR40 ⊢
    generalize vAd (ξ 6) = ad42
    generalize vCap (ξ 6) = cap42
    rw [intRows_snoc]
    have hq2 : (intRows (l ++ [x40])).length = k + 1 := by rw [intRows_len, List.length_append, hll]; rfl
    obtain ⟨y, hy⟩ := at_lt (l := l ++ [x40]) (k := 0) (by simp)
    have r1 : (intRows (l ++ [x40]))[0]? = some [Tr.int y] := intRows_at hy
    clear hy
    repeat' (first | refine goH ?_ | refine goV ?_ | refine goB (fun b => ?_) | refine goC (fun ad cap => ?_) | refine goG ?_ | (refine Ops.k_guard ?_; first | (refine Ops.guard_dec rfl rfl (fun hc => ?_) (fun hc => ?_) <;> try (exfalso; omega)) | refine Ops.guard_split rfl rfl (fun hc => ?_) (fun hc => ?_)) | refine goI ?_ | (refine Cw.k_cond ?_; first | (refine Cw.cond_dec rfl (fun hc => ?_) (fun hc => ?_) <;> try (exfalso; omega)) | refine Cw.cond_bool rfl (fun hc => ?_) (fun hc => ?_)) | (refine Ops.k_calla ?_; first | (refine Ops.k_callf 16 ?_; (refine Ops.callG (flip_gen _ (by omega)) (Evs.cons rfl (Evs.cons rfl Evs.nil)) goPk (by omega) rfl ?_; rintro r ⟨u, rfl⟩))) | fail)
    · skip
      first | refine Cw.region_YP (fun ξ S => Chunk.strm 25 bs (intRows xs) (m + 1 + 1 + 1 + 1 + 1 + b2n (S 6)) :: Chunk.box b3 30 [.int c, .int t, .int f] :: Chunk.box b4 27 (List.map Tr.raw [.int .i64 0, .slice none 0 0]) :: Chunk.box b 27 [.int w, Tr.raw (.slice ad42 (k + 1) cap42)] :: Chunk.own ad42 cap42 1 3 (stg (S 8) (intRows (l ++ [x40])) ((intRows (l ++ [x40])).set 0 [.int (vInt (ξ 6))])) :: []) rfl (by decide +kernel) rfl ((fun (ξ : Nat → Value) (S : Nat → Bool) => Chunk.strm 25 bs (intRows xs) (m + 1 + 1 + 1 + 1 + 1 + b2n (S 6)) :: Chunk.box b3 30 [.int c, .int t, .int f] :: Chunk.box b4 27 (List.map Tr.raw [.int .i64 0, .slice none 0 0]) :: Chunk.box b 27 [.int w, Tr.raw (.slice ad42 (k + 1) cap42)] :: Chunk.own ad42 cap42 1 3 (stg (S 8) (intRows (l ++ [x40])) ((intRows (l ++ [x40])).set 0 [.int (vInt (ξ 6))])) :: []) (fun _ => undef) (fun _ => false)) (by simp only [upd_same, updD_same, upd_ne, updD_ne, ne_eq, Nat.reduceEqDiff, not_false_eq_true, stg_t, stg_f, vAd_s, vCap_s, blk_p, List.cons_append, List.nil_append, b2n_t, b2n_f]; exact goXm) (fun _ => rfl) ?_ | fail
      apply YSeq.w (by intro _ _ _; rfl)
      · intro ξ S h1 h2 h3 h4
        have hN0_8 := closed_false h1 h3 (k := 8) rfl (by decide)
        try simp only [upd_same, updD_same, upd_ne, updD_ne, ne_eq, Nat.reduceEqDiff, not_false_eq_true, stg_t, stg_f, vAd_s, vCap_s, blk_p, List.cons_append, List.nil_append, b2n_t, b2n_f, hN0_8]
        exact goW
      · intro ξ v; rfl
      · intro ξ k v S h3 hn hk
        first
        | rfl
      apply YSeq.w (by intro _ _ _; rfl)
      · intro ξ S h1 h2 h3 h4
        have hN1_8 := closed_false h1 h3 (k := 8) rfl (by decide)
        try simp only [upd_same, updD_same, upd_ne, updD_ne, ne_eq, Nat.reduceEqDiff, not_false_eq_true, stg_t, stg_f, vAd_s, vCap_s, blk_p, List.cons_append, List.nil_append, b2n_t, b2n_f, hN1_8]
        exact goW
      · intro ξ v; rfl
      · intro ξ k v S h3 hn hk
        first
        | rfl
      apply YSeq.w (by intro _ _ _; rfl)
      · intro ξ S h1 h2 h3 h4
        have hN2_6 := closed_false h1 h3 (k := 6) rfl (by decide)
        have hN2_8 := closed_false h1 h3 (k := 8) rfl (by decide)
        try simp only [upd_same, updD_same, upd_ne, updD_ne, ne_eq, Nat.reduceEqDiff, not_false_eq_true, stg_t, stg_f, vAd_s, vCap_s, blk_p, List.cons_append, List.nil_append, b2n_t, b2n_f, hN2_6, hN2_8]
        exact goW
      · intro ξ v; rfl
      · intro ξ k v S h3 hn hk
        first
        | rfl
      apply YSeq.w (by intro _ _ _; rfl)
      · intro ξ S h1 h2 h3 h4
        have hN3_4 := closed_false h1 h3 (k := 4) rfl (by decide)
        have hN3_5 := closed_false hN3_4 h3 (k := 5) rfl (by decide)
        have hN3_6 := closed_false hN3_5 h3 (k := 6) rfl (by decide)
        have hN3_8 := closed_false h1 h3 (k := 8) rfl (by decide)
        try simp only [upd_same, updD_same, upd_ne, updD_ne, ne_eq, Nat.reduceEqDiff, not_false_eq_true, stg_t, stg_f, vAd_s, vCap_s, blk_p, List.cons_append, List.nil_append, b2n_t, b2n_f, hN3_6, hN3_8]
        exact goW
      · intro ξ v; rfl
      · intro ξ k v S h3 hn hk
        first
        | rfl
      apply YSeq.w (by intro _ _ _; rfl)
      · intro ξ S h1 h2 h3 h4
        have hN4_5 := closed_false h1 h3 (k := 5) rfl (by decide)
        have hN4_6 := closed_false hN4_5 h3 (k := 6) rfl (by decide)
        have hN4_8 := closed_false h1 h3 (k := 8) rfl (by decide)
        try simp only [upd_same, updD_same, upd_ne, updD_ne, ne_eq, Nat.reduceEqDiff, not_false_eq_true, stg_t, stg_f, vAd_s, vCap_s, blk_p, List.cons_append, List.nil_append, b2n_t, b2n_f, hN4_6, hN4_8]
        exact goW
      · intro ξ v; rfl
      · intro ξ k v S h3 hn hk
        first
        | rfl
      apply YSeq.w (by intro _ _ _; rfl)
      · intro ξ S h1 h2 h3 h4
        have hN5_6 := closed_false h1 h3 (k := 6) rfl (by decide)
        have hN5_8 := closed_false h1 h3 (k := 8) rfl (by decide)
        try simp only [upd_same, updD_same, upd_ne, updD_ne, ne_eq, Nat.reduceEqDiff, not_false_eq_true, stg_t, stg_f, vAd_s, vCap_s, blk_p, List.cons_append, List.nil_append, b2n_t, b2n_f, hN5_6, hN5_8]
        exact goW
      · intro ξ v; rfl
      · intro ξ k v S h3 hn hk
        first
        | rfl
      apply YSeq.callI (pick_gen (l := [-1, t, 999999, 1000000]) (by repeat' (first | exact IsInts.nil | apply IsInts.cons)) (by simp)) (fun _ => (Evs.cons rfl (Evs.cons rfl Evs.nil)))
      · intro ξ S h1 h3
        have hN6_8 := closed_false h1 h3 (k := 8) rfl (by decide)
        have hq6 := b2n_le (S 6)
        simp only [upd_same, updD_same, upd_ne, updD_ne, ne_eq, Nat.reduceEqDiff, not_false_eq_true, stg_t, stg_f, vAd_s, vCap_s, blk_p, List.cons_append, List.nil_append, b2n_t, b2n_f, h1, hN6_8]
        refine ⟨_, _, ?_, goXp, fun v => ?_⟩
        · omega
        · refine List.Perm.trans goXp (perm_strm ?_)
          omega
      apply YSeq.w (by intro _ _ _; rfl)
      · intro ξ S h1 h2 h3 h4
        have hY7_6 : S 6 = true := h2 6 (by decide)
        have hN7_8 := closed_false h1 h3 (k := 8) rfl (by decide)
        have hR58 := pf_int (pick_gen (l := [-1, t, 999999, 1000000]) (by repeat' (first | exact IsInts.nil | apply IsInts.cons)) (by simp)) (h4 6 hY7_6)
        try simp only [InRange] at hR58
        have hRn58 := hR58
        try simp only [Nat.zero_add, Nat.reduceAdd] at hRn58
        try simp only [upd_same, updD_same, upd_ne, updD_ne, ne_eq, Nat.reduceEqDiff, not_false_eq_true, stg_t, stg_f, vAd_s, vCap_s, blk_p, List.cons_append, List.nil_append, b2n_t, b2n_f, hY7_6, hN7_8]
        exact goW
      · intro ξ v; rfl
      · intro ξ k v S h3 hn hk
        first
        | rfl
        | skip
          have hY7_6 : S 6 = true := h3 7 _ rfl hn 6 (by decide)
          simp only [upd_S hY7_6 hk]
      apply YSeq.storeO
      · intro ξ S h1 h2 h3 h4
        have hY8_6 : S 6 = true := h2 6 (by decide)
        have hR58 := pf_int (pick_gen (l := [-1, t, 999999, 1000000]) (by repeat' (first | exact IsInts.nil | apply IsInts.cons)) (by simp)) (h4 6 hY8_6)
        try simp only [InRange] at hR58
        have hRn58 := hR58
        try simp only [Nat.zero_add, Nat.reduceAdd] at hRn58
        simp only [upd_same, updD_same, upd_ne, updD_ne, ne_eq, Nat.reduceEqDiff, not_false_eq_true, stg_t, stg_f, vAd_s, vCap_s, blk_p, List.cons_append, List.nil_append, b2n_t, b2n_f, hY8_6, h1]
        refine ⟨_, _, _, _, _, _, _, _, _, _, rfl, rfl, inferInstance, goXp, (by first | rfl | assumption | (simp [*]; done)), (by decide), ?_⟩
        exact goXm
      refine YSeq.nil fun ξ hf => ?_
      have hR58 := pf_int (pick_gen (l := [-1, t, 999999, 1000000]) (by repeat' (first | exact IsInts.nil | apply IsInts.cons)) (by simp)) (hf 6)
      try simp only [InRange] at hR58
      refine ⟨[(0, _), (4, _), (5, _)], _, Ent.trans (Ent.eqc rfl (by first | (simp only [upd_same, updD_same, upd_ne, updD_ne, ne_eq, Nat.reduceEqDiff, not_false_eq_true, stg_t, stg_f, vAd_s, vCap_s, blk_p, List.cons_append, List.nil_append, b2n_t, b2n_f, ownV, slV, ptV] <;> rfl) | rfl)) (Ent.sub goSub), ?_⟩
      clear hf
      generalize vInt (ξ 6) = x58 at hR58 ⊢
      repeat' (first | refine goH ?_ | refine goV ?_ | refine goB (fun b => ?_) | refine goC (fun ad cap => ?_) | refine goG ?_ | (refine Ops.k_guard ?_; first | (refine Ops.guard_dec rfl rfl (fun hc => ?_) (fun hc => ?_) <;> try (exfalso; omega)) | refine Ops.guard_split rfl rfl (fun hc => ?_) (fun hc => ?_)) | refine goI ?_ | (refine Cw.k_cond ?_; first | (refine Cw.cond_dec rfl (fun hc => ?_) (fun hc => ?_) <;> try (exfalso; omega)) | refine Cw.cond_bool rfl (fun hc => ?_) (fun hc => ?_)) | refine goR ?_ | refine goP ?_ | apply PSeq.cons | apply PSeq.yes rfl rfl rfl | exact goW | fail)
      erw [int_set]
      have hq3 : (intRows ((l ++ [x40]).set 0 x58)).length = (k + 1) := by rw [intRows_len, List.length_set, ← intRows_len, hq2]
      refine Fin.ent (Ent.settle_box (b := b4) (i := 1) (ad := ad42) (kk := 1) (rows := intRows ((l ++ [x40]).set 0 x58)) (by exact Perm.cons' goPk (Perm.cons' goPk (List.Perm.refl _))) rfl hq3.symm rfl) ?_
      refine Fin.ret (Ent.trans (Ent.setbox (s := 4) rfl goPk) (Ent.strm_only goPk (by omega))) (Outs.sole rfl goOe) ⟨rfl, ⟨w, ((l ++ [x40]).set 0 x58)⟩, rfl, by simp; omega, hatw⟩
    · skip
      refine Fin.ent (Ent.settle_box (b := b4) (i := 1) (ad := ad42) (kk := 1) (rows := intRows (l ++ [x40])) (by exact Perm.cons' goPk (Perm.cons' goPk (List.Perm.refl _))) rfl hq2.symm rfl) ?_
      refine Fin.ret (Ent.trans (Ent.setbox (s := 4) rfl goPk) (Ent.strm_only goPk (by omega))) (Outs.sole rfl goOe) ⟨rfl, ⟨w, (l ++ [x40])⟩, rfl, by simp; omega, hatw⟩
  · obtain ⟨y, hy⟩ := at_lt (l := l) (k := 0) (by omega)
    have r1 := intRows_at hy
    clear hy
    first | refine Cw.region_YP (fun ξ S => Chunk.strm 25 bs (intRows xs) (m + 1 + 1 + 1 + 1 + b2n (S 6)) :: Chunk.box b3 30 [.int c, .int t, .int f] :: Chunk.box b4 27 (List.map Tr.raw [.int .i64 0, .slice none 0 0]) :: Chunk.box b 27 [.int w, Tr.raw (.slice ad k cap)] :: Chunk.own ad cap 1 3 (stg (S 8) (intRows l) ((intRows l).set 0 [.int (vInt (ξ 6))])) :: []) rfl (by decide +kernel) rfl ((fun (ξ : Nat → Value) (S : Nat → Bool) => Chunk.strm 25 bs (intRows xs) (m + 1 + 1 + 1 + 1 + b2n (S 6)) :: Chunk.box b3 30 [.int c, .int t, .int f] :: Chunk.box b4 27 (List.map Tr.raw [.int .i64 0, .slice none 0 0]) :: Chunk.box b 27 [.int w, Tr.raw (.slice ad k cap)] :: Chunk.own ad cap 1 3 (stg (S 8) (intRows l) ((intRows l).set 0 [.int (vInt (ξ 6))])) :: []) (fun _ => undef) (fun _ => false)) (by simp only [upd_same, updD_same, upd_ne, updD_ne, ne_eq, Nat.reduceEqDiff, not_false_eq_true, stg_t, stg_f, vAd_s, vCap_s, blk_p, List.cons_append, List.nil_append, b2n_t, b2n_f]; exact goXm) (fun _ => rfl) ?_ | fail
    apply YSeq.w (by intro _ _ _; rfl)
    · intro ξ S h1 h2 h3 h4
      have hN0_8 := closed_false h1 h3 (k := 8) rfl (by decide)
      try simp only [upd_same, updD_same, upd_ne, updD_ne, ne_eq, Nat.reduceEqDiff, not_false_eq_true, stg_t, stg_f, vAd_s, vCap_s, blk_p, List.cons_append, List.nil_append, b2n_t, b2n_f, hN0_8]
      exact goW
    · intro ξ v; rfl
    · intro ξ k v S h3 hn hk
      first
      | rfl
    apply YSeq.w (by intro _ _ _; rfl)
    · intro ξ S h1 h2 h3 h4
      have hN1_8 := closed_false h1 h3 (k := 8) rfl (by decide)
      try simp only [upd_same, updD_same, upd_ne, updD_ne, ne_eq, Nat.reduceEqDiff, not_false_eq_true, stg_t, stg_f, vAd_s, vCap_s, blk_p, List.cons_append, List.nil_append, b2n_t, b2n_f, hN1_8]
      exact goW
    · intro ξ v; rfl
    · intro ξ k v S h3 hn hk
      first
      | rfl
    apply YSeq.w (by intro _ _ _; rfl)
    · intro ξ S h1 h2 h3 h4
      have hN2_6 := closed_false h1 h3 (k := 6) rfl (by decide)
      have hN2_8 := closed_false h1 h3 (k := 8) rfl (by decide)
      try simp only [upd_same, updD_same, upd_ne, updD_ne, ne_eq, Nat.reduceEqDiff, not_false_eq_true, stg_t, stg_f, vAd_s, vCap_s, blk_p, List.cons_append, List.nil_append, b2n_t, b2n_f, hN2_6, hN2_8]
      exact goW
    · intro ξ v; rfl
    · intro ξ k v S h3 hn hk
      first
      | rfl
    apply YSeq.w (by intro _ _ _; rfl)
    · intro ξ S h1 h2 h3 h4
      have hN3_4 := closed_false h1 h3 (k := 4) rfl (by decide)
      have hN3_5 := closed_false hN3_4 h3 (k := 5) rfl (by decide)
      have hN3_6 := closed_false hN3_5 h3 (k := 6) rfl (by decide)
      have hN3_8 := closed_false h1 h3 (k := 8) rfl (by decide)
      try simp only [upd_same, updD_same, upd_ne, updD_ne, ne_eq, Nat.reduceEqDiff, not_false_eq_true, stg_t, stg_f, vAd_s, vCap_s, blk_p, List.cons_append, List.nil_append, b2n_t, b2n_f, hN3_6, hN3_8]
      exact goW
    · intro ξ v; rfl
    · intro ξ k v S h3 hn hk
      first
      | rfl
    apply YSeq.w (by intro _ _ _; rfl)
    · intro ξ S h1 h2 h3 h4
      have hN4_5 := closed_false h1 h3 (k := 5) rfl (by decide)
      have hN4_6 := closed_false hN4_5 h3 (k := 6) rfl (by decide)
      have hN4_8 := closed_false h1 h3 (k := 8) rfl (by decide)
      try simp only [upd_same, updD_same, upd_ne, updD_ne, ne_eq, Nat.reduceEqDiff, not_false_eq_true, stg_t, stg_f, vAd_s, vCap_s, blk_p, List.cons_append, List.nil_append, b2n_t, b2n_f, hN4_6, hN4_8]
      exact goW
    · intro ξ v; rfl
    · intro ξ k v S h3 hn hk
      first
      | rfl
    apply YSeq.w (by intro _ _ _; rfl)
    · intro ξ S h1 h2 h3 h4
      have hN5_6 := closed_false h1 h3 (k := 6) rfl (by decide)
      have hN5_8 := closed_false h1 h3 (k := 8) rfl (by decide)
      try simp only [upd_same, updD_same, upd_ne, updD_ne, ne_eq, Nat.reduceEqDiff, not_false_eq_true, stg_t, stg_f, vAd_s, vCap_s, blk_p, List.cons_append, List.nil_append, b2n_t, b2n_f, hN5_6, hN5_8]
      exact goW
    · intro ξ v; rfl
    · intro ξ k v S h3 hn hk
      first
      | rfl
    apply YSeq.callI (pick_gen (l := [-1, t, 999999, 1000000]) (by repeat' (first | exact IsInts.nil | apply IsInts.cons)) (by simp)) (fun _ => (Evs.cons rfl (Evs.cons rfl Evs.nil)))
    · intro ξ S h1 h3
      have hN6_8 := closed_false h1 h3 (k := 8) rfl (by decide)
      have hq6 := b2n_le (S 6)
      simp only [upd_same, updD_same, upd_ne, updD_ne, ne_eq, Nat.reduceEqDiff, not_false_eq_true, stg_t, stg_f, vAd_s, vCap_s, blk_p, List.cons_append, List.nil_append, b2n_t, b2n_f, h1, hN6_8]
      refine ⟨_, _, ?_, goXp, fun v => ?_⟩
      · omega
      · refine List.Perm.trans goXp (perm_strm ?_)
        omega
    apply YSeq.w (by intro _ _ _; rfl)
    · intro ξ S h1 h2 h3 h4
      have hY7_6 : S 6 = true := h2 6 (by decide)
      have hN7_8 := closed_false h1 h3 (k := 8) rfl (by decide)
      have hR58 := pf_int (pick_gen (l := [-1, t, 999999, 1000000]) (by repeat' (first | exact IsInts.nil | apply IsInts.cons)) (by simp)) (h4 6 hY7_6)
      try simp only [InRange] at hR58
      have hRn58 := hR58
      try simp only [Nat.zero_add, Nat.reduceAdd] at hRn58
      try simp only [upd_same, updD_same, upd_ne, updD_ne, ne_eq, Nat.reduceEqDiff, not_false_eq_true, stg_t, stg_f, vAd_s, vCap_s, blk_p, List.cons_append, List.nil_append, b2n_t, b2n_f, hY7_6, hN7_8]
      exact goW
    · intro ξ v; rfl
    · intro ξ k v S h3 hn hk
      first
      | rfl
      | skip
        have hY7_6 : S 6 = true := h3 7 _ rfl hn 6 (by decide)
        simp only [upd_S hY7_6 hk]
    apply YSeq.storeO
    · intro ξ S h1 h2 h3 h4
      have hY8_6 : S 6 = true := h2 6 (by decide)
      have hR58 := pf_int (pick_gen (l := [-1, t, 999999, 1000000]) (by repeat' (first | exact IsInts.nil | apply IsInts.cons)) (by simp)) (h4 6 hY8_6)
      try simp only [InRange] at hR58
      have hRn58 := hR58
      try simp only [Nat.zero_add, Nat.reduceAdd] at hRn58
      simp only [upd_same, updD_same, upd_ne, updD_ne, ne_eq, Nat.reduceEqDiff, not_false_eq_true, stg_t, stg_f, vAd_s, vCap_s, blk_p, List.cons_append, List.nil_append, b2n_t, b2n_f, hY8_6, h1]
      refine ⟨_, _, _, _, _, _, _, _, _, _, rfl, rfl, inferInstance, goXp, (by first | rfl | assumption | (simp [*]; done)), (by decide), ?_⟩
      exact goXm
    refine YSeq.nil fun ξ hf => ?_
    have hR58 := pf_int (pick_gen (l := [-1, t, 999999, 1000000]) (by repeat' (first | exact IsInts.nil | apply IsInts.cons)) (by simp)) (hf 6)
    try simp only [InRange] at hR58
    refine ⟨[(0, _), (4, _), (5, _)], _, Ent.trans (Ent.eqc rfl (by first | (simp only [upd_same, updD_same, upd_ne, updD_ne, ne_eq, Nat.reduceEqDiff, not_false_eq_true, stg_t, stg_f, vAd_s, vCap_s, blk_p, List.cons_append, List.nil_append, b2n_t, b2n_f, ownV, slV, ptV] <;> rfl) | rfl)) (Ent.sub goSub), ?_⟩
    clear hf
    generalize vInt (ξ 6) = x58 at hR58 ⊢
    repeat' (first | refine goH ?_ | refine goV ?_ | refine goB (fun b => ?_) | refine goC (fun ad cap => ?_) | refine goG ?_ | (refine Ops.k_guard ?_; first | (refine Ops.guard_dec rfl rfl (fun hc => ?_) (fun hc => ?_) <;> try (exfalso; omega)) | refine Ops.guard_split rfl rfl (fun hc => ?_) (fun hc => ?_)) | refine goI ?_ | (refine Cw.k_cond ?_; first | (refine Cw.cond_dec rfl (fun hc => ?_) (fun hc => ?_) <;> try (exfalso; omega)) | refine Cw.cond_bool rfl (fun hc => ?_) (fun hc => ?_)) | refine goR ?_ | refine goP ?_ | apply PSeq.cons | apply PSeq.yes rfl rfl rfl | exact goW | fail)
    erw [int_set]
    have hq3 : (intRows (l.set 0 x58)).length = k := by rw [intRows_len, List.length_set, ← intRows_len, hrl]
    refine Fin.ent (Ent.settle_box (b := b4) (i := 1) (ad := ad) (kk := 1) (rows := intRows (l.set 0 x58)) (by exact Perm.cons' goPk (Perm.cons' goPk (List.Perm.refl _))) rfl hq3.symm rfl) ?_
    refine Fin.ret (Ent.trans (Ent.setbox (s := 4) rfl goPk) (Ent.strm_only goPk (by omega))) (Outs.sole rfl goOe) ⟨rfl, ⟨w, (l.set 0 x58)⟩, rfl, by simp; omega, hatw⟩
  · skip
    refine Fin.ent (Ent.settle_box (b := b4) (i := 1) (ad := ad) (kk := 1) (rows := intRows l) (by exact Perm.cons' goPk (Perm.cons' goPk (List.Perm.refl _))) rfl hrl.symm rfl) ?_
    refine Fin.ret (Ent.trans (Ent.setbox (s := 4) rfl goPk) (Ent.strm_only goPk (by omega))) (Outs.sole rfl goOe) ⟨rfl, ⟨w, l⟩, rfl, by simp; omega, hatw⟩
  · skip
    refine Fin.ent (Ent.settle_box (b := b4) (i := 1) (ad := ad) (kk := 1) (rows := intRows l) (by exact Perm.cons' goPk (Perm.cons' goPk (List.Perm.refl _))) rfl hrl.symm rfl) ?_
    refine Fin.ret (Ent.trans (Ent.setbox (s := 4) rfl goPk) (Ent.strm_only goPk (by omega))) (Outs.sole rfl goOe) ⟨rfl, ⟨w, l⟩, rfl, by simp; omega, hatw⟩
  · first | refine Cw.region_YP (fun ξ S => Chunk.strm 25 bs (intRows xs) (m + 1 + 1 + b2n (S 4)) :: Chunk.box b3 30 [.int c, .int t, .int f] :: Chunk.box b4 27 (List.map Tr.raw [.int .i64 0, .slice none 0 0]) :: Chunk.box b 27 [.int v, stg (S 8) (Tr.raw (.slice ad k cap)) (Tr.raw (.slice (vAd (ξ 6)) (k + 1) (vCap (ξ 6))))] :: stg (S 6) (Chunk.own ad cap 1 3 (intRows l)) (ownV (ξ 6) 1 3 (intRows l ++ [[.int (vInt (ξ 4))]])) :: []) rfl (by decide +kernel) rfl ((fun (ξ : Nat → Value) (S : Nat → Bool) => Chunk.strm 25 bs (intRows xs) (m + 1 + 1 + b2n (S 4)) :: Chunk.box b3 30 [.int c, .int t, .int f] :: Chunk.box b4 27 (List.map Tr.raw [.int .i64 0, .slice none 0 0]) :: Chunk.box b 27 [.int v, stg (S 8) (Tr.raw (.slice ad k cap)) (Tr.raw (.slice (vAd (ξ 6)) (k + 1) (vCap (ξ 6))))] :: stg (S 6) (Chunk.own ad cap 1 3 (intRows l)) (ownV (ξ 6) 1 3 (intRows l ++ [[.int (vInt (ξ 4))]])) :: []) (fun _ => undef) (fun _ => false)) (by simp only [upd_same, updD_same, upd_ne, updD_ne, ne_eq, Nat.reduceEqDiff, not_false_eq_true, stg_t, stg_f, vAd_s, vCap_s, blk_p, List.cons_append, List.nil_append, b2n_t, b2n_f]; exact goXm) (fun _ => rfl) ?_ | fail
    apply YSeq.w (by intro _ _ _; rfl)
    · intro ξ S h1 h2 h3 h4
      have hN0_1 := closed_false h1 h3 (k := 1) rfl (by decide)
      have hN0_6 := closed_false hN0_1 h3 (k := 6) rfl (by decide)
      have hN0_8 := closed_false h1 h3 (k := 8) rfl (by decide)
      try simp only [upd_same, updD_same, upd_ne, updD_ne, ne_eq, Nat.reduceEqDiff, not_false_eq_true, stg_t, stg_f, vAd_s, vCap_s, blk_p, List.cons_append, List.nil_append, b2n_t, b2n_f, hN0_6, hN0_8]
      exact goW
    · intro ξ v; rfl
    · intro ξ k v S h3 hn hk
      first
      | rfl
    apply YSeq.w (by intro _ _ _; rfl)
    · intro ξ S h1 h2 h3 h4
      have hN1_6 := closed_false h1 h3 (k := 6) rfl (by decide)
      have hN1_8 := closed_false h1 h3 (k := 8) rfl (by decide)
      try simp only [upd_same, updD_same, upd_ne, updD_ne, ne_eq, Nat.reduceEqDiff, not_false_eq_true, stg_t, stg_f, vAd_s, vCap_s, blk_p, List.cons_append, List.nil_append, b2n_t, b2n_f, hN1_6, hN1_8]
      exact goW
    · intro ξ v; rfl
    · intro ξ k v S h3 hn hk
      first
      | rfl
    apply YSeq.w (by intro _ _ _; rfl)
    · intro ξ S h1 h2 h3 h4
      have hN2_4 := closed_false h1 h3 (k := 4) rfl (by decide)
      have hN2_6 := closed_false hN2_4 h3 (k := 6) rfl (by decide)
      have hN2_8 := closed_false h1 h3 (k := 8) rfl (by decide)
      try simp only [upd_same, updD_same, upd_ne, updD_ne, ne_eq, Nat.reduceEqDiff, not_false_eq_true, stg_t, stg_f, vAd_s, vCap_s, blk_p, List.cons_append, List.nil_append, b2n_t, b2n_f, hN2_4, hN2_6, hN2_8]
      exact goW
    · intro ξ v; rfl
    · intro ξ k v S h3 hn hk
      first
      | rfl
    apply YSeq.w (by intro _ _ _; rfl)
    · intro ξ S h1 h2 h3 h4
      have hN3_4 := closed_false h1 h3 (k := 4) rfl (by decide)
      have hN3_6 := closed_false hN3_4 h3 (k := 6) rfl (by decide)
      have hN3_8 := closed_false h1 h3 (k := 8) rfl (by decide)
      try simp only [upd_same, updD_same, upd_ne, updD_ne, ne_eq, Nat.reduceEqDiff, not_false_eq_true, stg_t, stg_f, vAd_s, vCap_s, blk_p, List.cons_append, List.nil_append, b2n_t, b2n_f, hN3_4, hN3_6, hN3_8]
      exact goW
    · intro ξ v; rfl
    · intro ξ k v S h3 hn hk
      first
      | rfl
    apply YSeq.callI (pick_gen (l := [0, -1]) (by repeat' (first | exact IsInts.nil | apply IsInts.cons)) (by simp)) (fun _ => (Evs.cons rfl (Evs.cons rfl Evs.nil)))
    · intro ξ S h1 h3
      have hN4_6 := closed_false h1 h3 (k := 6) rfl (by decide)
      have hN4_8 := closed_false h1 h3 (k := 8) rfl (by decide)
      have hq4 := b2n_le (S 4)
      simp only [upd_same, updD_same, upd_ne, updD_ne, ne_eq, Nat.reduceEqDiff, not_false_eq_true, stg_t, stg_f, vAd_s, vCap_s, blk_p, List.cons_append, List.nil_append, b2n_t, b2n_f, h1, hN4_6, hN4_8]
      refine ⟨_, _, ?_, goXp, fun v => ?_⟩
      · omega
      · refine List.Perm.trans goXp (perm_strm ?_)
        omega
    apply YSeq.w (by intro _ _ _; rfl)
    · intro ξ S h1 h2 h3 h4
      have hY5_4 : S 4 = true := h2 4 (by decide)
      have hN5_6 := closed_false h1 h3 (k := 6) rfl (by decide)
      have hN5_8 := closed_false h1 h3 (k := 8) rfl (by decide)
      have hR40 := pf_int (pick_gen (l := [0, -1]) (by repeat' (first | exact IsInts.nil | apply IsInts.cons)) (by simp)) (h4 4 hY5_4)
      try simp only [InRange] at hR40
      have hRn40 := hR40
      try simp only [Nat.zero_add, Nat.reduceAdd] at hRn40
      try simp only [upd_same, updD_same, upd_ne, updD_ne, ne_eq, Nat.reduceEqDiff, not_false_eq_true, stg_t, stg_f, vAd_s, vCap_s, blk_p, List.cons_append, List.nil_append, b2n_t, b2n_f, hY5_4, hN5_6, hN5_8]
      exact goW
    · intro ξ v; rfl
    · intro ξ k v S h3 hn hk
      first
      | rfl
      | skip
        have hY5_4 : S 4 = true := h3 5 _ rfl hn 4 (by decide)
        simp only [upd_S hY5_4 hk]
    apply YSeq.append (k + 1)
    · intro ξ S h1 h2 h3 h4
      have hY6_4 : S 4 = true := h2 4 (by decide)
      have hN6_8 := closed_false h1 h3 (k := 8) rfl (by decide)
      have hR40 := pf_int (pick_gen (l := [0, -1]) (by repeat' (first | exact IsInts.nil | apply IsInts.cons)) (by simp)) (h4 4 hY6_4)
      try simp only [InRange] at hR40
      have hRn40 := hR40
      try simp only [Nat.zero_add, Nat.reduceAdd] at hRn40
      simp only [upd_same, updD_same, upd_ne, updD_ne, ne_eq, Nat.reduceEqDiff, not_false_eq_true, stg_t, stg_f, vAd_s, vCap_s, blk_p, List.cons_append, List.nil_append, b2n_t, b2n_f, hY6_4, h1, hN6_8]
      refine ⟨_, _, _, _, _, _, rfl, rfl, goXp, (by first | rfl | (simp; done) | omega), (by first | rfl | omega | (simp; done) | (simp; omega)), (by first | omega | (simp; done) | (simp; omega)), (by first | omega | (simp; done) | (simp; omega)), fun ad' cap' => ?_⟩
      exact goXm
    apply YSeq.w (by intro _ _ _; rfl)
    · intro ξ S h1 h2 h3 h4
      have hY7_4 : S 4 = true := h2 4 (by decide)
      have hY7_6 : S 6 = true := h2 6 (by decide)
      have hN7_8 := closed_false h1 h3 (k := 8) rfl (by decide)
      have hR40 := pf_int (pick_gen (l := [0, -1]) (by repeat' (first | exact IsInts.nil | apply IsInts.cons)) (by simp)) (h4 4 hY7_4)
      try simp only [InRange] at hR40
      have hRn40 := hR40
      try simp only [Nat.zero_add, Nat.reduceAdd] at hRn40
      try simp only [upd_same, updD_same, upd_ne, updD_ne, ne_eq, Nat.reduceEqDiff, not_false_eq_true, stg_t, stg_f, vAd_s, vCap_s, blk_p, List.cons_append, List.nil_append, b2n_t, b2n_f, hY7_4, hY7_6, hN7_8]
      exact goW
    · intro ξ v; rfl
    · intro ξ k v S h3 hn hk
      first
      | rfl
      | skip
        have hY7_4 : S 4 = true := h3 7 _ rfl hn 4 (by decide)
        have hY7_6 : S 6 = true := h3 7 _ rfl hn 6 (by decide)
        simp only [upd_S hY7_4 hk, upd_S hY7_6 hk]
    apply YSeq.store
    · intro ξ S h1 h2 h3 h4
      have hY8_4 : S 4 = true := h2 4 (by decide)
      have hY8_6 : S 6 = true := h2 6 (by decide)
      have hR40 := pf_int (pick_gen (l := [0, -1]) (by repeat' (first | exact IsInts.nil | apply IsInts.cons)) (by simp)) (h4 4 hY8_4)
      try simp only [InRange] at hR40
      have hRn40 := hR40
      try simp only [Nat.zero_add, Nat.reduceAdd] at hRn40
      simp only [upd_same, updD_same, upd_ne, updD_ne, ne_eq, Nat.reduceEqDiff, not_false_eq_true, stg_t, stg_f, vAd_s, vCap_s, blk_p, List.cons_append, List.nil_append, b2n_t, b2n_f, hY8_4, hY8_6, h1]
      refine ⟨_, _, _, _, _, _, _, rfl, rfl, inferInstance, goXp, rfl, Nat.le_of_ble_eq_true rfl, ?_⟩
      exact goXm
    refine YSeq.nil fun ξ hf => ?_
    have hR40 := pf_int (pick_gen (l := [0, -1]) (by repeat' (first | exact IsInts.nil | apply IsInts.cons)) (by simp)) (hf 4)
    try simp only [InRange] at hR40
    refine ⟨[(0, _), (3, _), (4, _), (5, _)], _, Ent.trans (Ent.eqc rfl (by first | (simp only [upd_same, updD_same, upd_ne, updD_ne, ne_eq, Nat.reduceEqDiff, not_false_eq_true, stg_t, stg_f, vAd_s, vCap_s, blk_p, List.cons_append, List.nil_append, b2n_t, b2n_f, ownV, slV, ptV] <;> rfl) | rfl)) (Ent.sub goSub), ?_⟩
    clear hf
    generalize vInt (ξ 4) = x40 at hR40 ⊢
    generalize vAd (ξ 6) = ad42
    generalize vCap (ξ 6) = cap42
    rw [intRows_snoc]
    have hq2 : (intRows (l ++ [x40])).length = k + 1 := by rw [intRows_len, List.length_append, hll]; rfl
    obtain ⟨y, hy⟩ := at_lt (l := l ++ [x40]) (k := 0) (by simp)
    have r1 : (intRows (l ++ [x40]))[0]? = some [Tr.int y] := intRows_at hy
    clear hy
    repeat' (first | refine goH ?_ | refine goV ?_ | refine goB (fun b => ?_) | refine goC (fun ad cap => ?_) | refine goG ?_ | (refine Ops.k_guard ?_; first | (refine Ops.guard_dec rfl rfl (fun hc => ?_) (fun hc => ?_) <;> try (exfalso; omega)) | refine Ops.guard_split rfl rfl (fun hc => ?_) (fun hc => ?_)) | refine goI ?_ | (refine Cw.k_cond ?_; first | (refine Cw.cond_dec rfl (fun hc => ?_) (fun hc => ?_) <;> try (exfalso; omega)) | refine Cw.cond_bool rfl (fun hc => ?_) (fun hc => ?_)) | (refine Ops.k_calla ?_; first | (refine Ops.k_callf 16 ?_; (refine Ops.callG (flip_gen _ (by omega)) (Evs.cons rfl (Evs.cons rfl Evs.nil)) goPk (by omega) rfl ?_; rintro r ⟨u, rfl⟩))) | fail)
    · skip
      first | refine Cw.region_YP (fun ξ S => Chunk.strm 25 bs (intRows xs) (m + 1 + 1 + 1 + 1 + b2n (S 6)) :: Chunk.box b3 30 [.int c, .int t, .int f] :: Chunk.box b4 27 (List.map Tr.raw [.int .i64 0, .slice none 0 0]) :: Chunk.box b 27 [.int v, Tr.raw (.slice ad42 (k + 1) cap42)] :: Chunk.own ad42 cap42 1 3 (stg (S 8) (intRows (l ++ [x40])) ((intRows (l ++ [x40])).set 0 [.int (vInt (ξ 6))])) :: []) rfl (by decide +kernel) rfl ((fun (ξ : Nat → Value) (S : Nat → Bool) => Chunk.strm 25 bs (intRows xs) (m + 1 + 1 + 1 + 1 + b2n (S 6)) :: Chunk.box b3 30 [.int c, .int t, .int f] :: Chunk.box b4 27 (List.map Tr.raw [.int .i64 0, .slice none 0 0]) :: Chunk.box b 27 [.int v, Tr.raw (.slice ad42 (k + 1) cap42)] :: Chunk.own ad42 cap42 1 3 (stg (S 8) (intRows (l ++ [x40])) ((intRows (l ++ [x40])).set 0 [.int (vInt (ξ 6))])) :: []) (fun _ => undef) (fun _ => false)) (by simp only [upd_same, updD_same, upd_ne, updD_ne, ne_eq, Nat.reduceEqDiff, not_false_eq_true, stg_t, stg_f, vAd_s, vCap_s, blk_p, List.cons_append, List.nil_append, b2n_t, b2n_f]; exact goXm) (fun _ => rfl) ?_ | fail
      apply YSeq.w (by intro _ _ _; rfl)
      · intro ξ S h1 h2 h3 h4
        have hN0_8 := closed_false h1 h3 (k := 8) rfl (by decide)
        try simp only [upd_same, updD_same, upd_ne, updD_ne, ne_eq, Nat.reduceEqDiff, not_false_eq_true, stg_t, stg_f, vAd_s, vCap_s, blk_p, List.cons_append, List.nil_append, b2n_t, b2n_f, hN0_8]
        exact goW
      · intro ξ v; rfl
      · intro ξ k v S h3 hn hk
        first
        | rfl
      apply YSeq.w (by intro _ _ _; rfl)
      · intro ξ S h1 h2 h3 h4
        have hN1_8 := closed_false h1 h3 (k := 8) rfl (by decide)
        try simp only [upd_same, updD_same, upd_ne, updD_ne, ne_eq, Nat.reduceEqDiff, not_false_eq_true, stg_t, stg_f, vAd_s, vCap_s, blk_p, List.cons_append, List.nil_append, b2n_t, b2n_f, hN1_8]
        exact goW
      · intro ξ v; rfl
      · intro ξ k v S h3 hn hk
        first
        | rfl
      apply YSeq.w (by intro _ _ _; rfl)
      · intro ξ S h1 h2 h3 h4
        have hN2_6 := closed_false h1 h3 (k := 6) rfl (by decide)
        have hN2_8 := closed_false h1 h3 (k := 8) rfl (by decide)
        try simp only [upd_same, updD_same, upd_ne, updD_ne, ne_eq, Nat.reduceEqDiff, not_false_eq_true, stg_t, stg_f, vAd_s, vCap_s, blk_p, List.cons_append, List.nil_append, b2n_t, b2n_f, hN2_6, hN2_8]
        exact goW
      · intro ξ v; rfl
      · intro ξ k v S h3 hn hk
        first
        | rfl
      apply YSeq.w (by intro _ _ _; rfl)
      · intro ξ S h1 h2 h3 h4
        have hN3_4 := closed_false h1 h3 (k := 4) rfl (by decide)
        have hN3_5 := closed_false hN3_4 h3 (k := 5) rfl (by decide)
        have hN3_6 := closed_false hN3_5 h3 (k := 6) rfl (by decide)
        have hN3_8 := closed_false h1 h3 (k := 8) rfl (by decide)
        try simp only [upd_same, updD_same, upd_ne, updD_ne, ne_eq, Nat.reduceEqDiff, not_false_eq_true, stg_t, stg_f, vAd_s, vCap_s, blk_p, List.cons_append, List.nil_append, b2n_t, b2n_f, hN3_6, hN3_8]
        exact goW
      · intro ξ v; rfl
      · intro ξ k v S h3 hn hk
        first
        | rfl
      apply YSeq.w (by intro _ _ _; rfl)
      · intro ξ S h1 h2 h3 h4
        have hN4_5 := closed_false h1 h3 (k := 5) rfl (by decide)
        have hN4_6 := closed_false hN4_5 h3 (k := 6) rfl (by decide)
        have hN4_8 := closed_false h1 h3 (k := 8) rfl (by decide)
        try simp only [upd_same, updD_same, upd_ne, updD_ne, ne_eq, Nat.reduceEqDiff, not_false_eq_true, stg_t, stg_f, vAd_s, vCap_s, blk_p, List.cons_append, List.nil_append, b2n_t, b2n_f, hN4_6, hN4_8]
        exact goW
      · intro ξ v; rfl
      · intro ξ k v S h3 hn hk
        first
        | rfl
      apply YSeq.w (by intro _ _ _; rfl)
      · intro ξ S h1 h2 h3 h4
        have hN5_6 := closed_false h1 h3 (k := 6) rfl (by decide)
        have hN5_8 := closed_false h1 h3 (k := 8) rfl (by decide)
        try simp only [upd_same, updD_same, upd_ne, updD_ne, ne_eq, Nat.reduceEqDiff, not_false_eq_true, stg_t, stg_f, vAd_s, vCap_s, blk_p, List.cons_append, List.nil_append, b2n_t, b2n_f, hN5_6, hN5_8]
        exact goW
      · intro ξ v; rfl
      · intro ξ k v S h3 hn hk
        first
        | rfl
      apply YSeq.callI (pick_gen (l := [-1, t, 999999, 1000000]) (by repeat' (first | exact IsInts.nil | apply IsInts.cons)) (by simp)) (fun _ => (Evs.cons rfl (Evs.cons rfl Evs.nil)))
      · intro ξ S h1 h3
        have hN6_8 := closed_false h1 h3 (k := 8) rfl (by decide)
        have hq6 := b2n_le (S 6)
        simp only [upd_same, updD_same, upd_ne, updD_ne, ne_eq, Nat.reduceEqDiff, not_false_eq_true, stg_t, stg_f, vAd_s, vCap_s, blk_p, List.cons_append, List.nil_append, b2n_t, b2n_f, h1, hN6_8]
        refine ⟨_, _, ?_, goXp, fun v => ?_⟩
        · omega
        · refine List.Perm.trans goXp (perm_strm ?_)
          omega
      apply YSeq.w (by intro _ _ _; rfl)
      · intro ξ S h1 h2 h3 h4
        have hY7_6 : S 6 = true := h2 6 (by decide)
        have hN7_8 := closed_false h1 h3 (k := 8) rfl (by decide)
        have hR58 := pf_int (pick_gen (l := [-1, t, 999999, 1000000]) (by repeat' (first | exact IsInts.nil | apply IsInts.cons)) (by simp)) (h4 6 hY7_6)
        try simp only [InRange] at hR58
        have hRn58 := hR58
        try simp only [Nat.zero_add, Nat.reduceAdd] at hRn58
        try simp only [upd_same, updD_same, upd_ne, updD_ne, ne_eq, Nat.reduceEqDiff, not_false_eq_true, stg_t, stg_f, vAd_s, vCap_s, blk_p, List.cons_append, List.nil_append, b2n_t, b2n_f, hY7_6, hN7_8]
        exact goW
      · intro ξ v; rfl
      · intro ξ k v S h3 hn hk
        first
        | rfl
        | skip
          have hY7_6 : S 6 = true := h3 7 _ rfl hn 6 (by decide)
          simp only [upd_S hY7_6 hk]
      apply YSeq.storeO
      · intro ξ S h1 h2 h3 h4
        have hY8_6 : S 6 = true := h2 6 (by decide)
        have hR58 := pf_int (pick_gen (l := [-1, t, 999999, 1000000]) (by repeat' (first | exact IsInts.nil | apply IsInts.cons)) (by simp)) (h4 6 hY8_6)
        try simp only [InRange] at hR58
        have hRn58 := hR58
        try simp only [Nat.zero_add, Nat.reduceAdd] at hRn58
        simp only [upd_same, updD_same, upd_ne, updD_ne, ne_eq, Nat.reduceEqDiff, not_false_eq_true, stg_t, stg_f, vAd_s, vCap_s, blk_p, List.cons_append, List.nil_append, b2n_t, b2n_f, hY8_6, h1]
        refine ⟨_, _, _, _, _, _, _, _, _, _, rfl, rfl, inferInstance, goXp, (by first | rfl | assumption | (simp [*]; done)), (by decide), ?_⟩
        exact goXm
      refine YSeq.nil fun ξ hf => ?_
      have hR58 := pf_int (pick_gen (l := [-1, t, 999999, 1000000]) (by repeat' (first | exact IsInts.nil | apply IsInts.cons)) (by simp)) (hf 6)
      try simp only [InRange] at hR58
      refine ⟨[(0, _), (4, _), (5, _)], _, Ent.trans (Ent.eqc rfl (by first | (simp only [upd_same, updD_same, upd_ne, updD_ne, ne_eq, Nat.reduceEqDiff, not_false_eq_true, stg_t, stg_f, vAd_s, vCap_s, blk_p, List.cons_append, List.nil_append, b2n_t, b2n_f, ownV, slV, ptV] <;> rfl) | rfl)) (Ent.sub goSub), ?_⟩
      clear hf
      generalize vInt (ξ 6) = x58 at hR58 ⊢
      repeat' (first | refine goH ?_ | refine goV ?_ | refine goB (fun b => ?_) | refine goC (fun ad cap => ?_) | refine goG ?_ | (refine Ops.k_guard ?_; first | (refine Ops.guard_dec rfl rfl (fun hc => ?_) (fun hc => ?_) <;> try (exfalso; omega)) | refine Ops.guard_split rfl rfl (fun hc => ?_) (fun hc => ?_)) | refine goI ?_ | (refine Cw.k_cond ?_; first | (refine Cw.cond_dec rfl (fun hc => ?_) (fun hc => ?_) <;> try (exfalso; omega)) | refine Cw.cond_bool rfl (fun hc => ?_) (fun hc => ?_)) | refine goR ?_ | refine goP ?_ | apply PSeq.cons | apply PSeq.yes rfl rfl rfl | exact goW | fail)
      erw [int_set]
      have hq3 : (intRows ((l ++ [x40]).set 0 x58)).length = (k + 1) := by rw [intRows_len, List.length_set, ← intRows_len, hq2]
      refine Fin.ent (Ent.settle_box (b := b4) (i := 1) (ad := ad42) (kk := 1) (rows := intRows ((l ++ [x40]).set 0 x58)) (by exact Perm.cons' goPk (Perm.cons' goPk (List.Perm.refl _))) rfl hq3.symm rfl) ?_
      refine Fin.ret (Ent.trans (Ent.setbox (s := 4) rfl goPk) (Ent.strm_only goPk (by omega))) (Outs.sole rfl goOe) ⟨rfl, ⟨v, ((l ++ [x40]).set 0 x58)⟩, rfl, by simp; omega, hatv⟩
    · skip
      refine Fin.ent (Ent.settle_box (b := b4) (i := 1) (ad := ad42) (kk := 1) (rows := intRows (l ++ [x40])) (by exact Perm.cons' goPk (Perm.cons' goPk (List.Perm.refl _))) rfl hq2.symm rfl) ?_
      refine Fin.ret (Ent.trans (Ent.setbox (s := 4) rfl goPk) (Ent.strm_only goPk (by omega))) (Outs.sole rfl goOe) ⟨rfl, ⟨v, (l ++ [x40])⟩, rfl, by simp; omega, hatv⟩
  · obtain ⟨y, hy⟩ := at_lt (l := l) (k := 0) (by omega)
    have r1 := intRows_at hy
    clear hy
    first | refine Cw.region_YP (fun ξ S => Chunk.strm 25 bs (intRows xs) (m + 1 + 1 + 1 + b2n (S 6)) :: Chunk.box b3 30 [.int c, .int t, .int f] :: Chunk.box b4 27 (List.map Tr.raw [.int .i64 0, .slice none 0 0]) :: Chunk.box b 27 [.int v, Tr.raw (.slice ad k cap)] :: Chunk.own ad cap 1 3 (stg (S 8) (intRows l) ((intRows l).set 0 [.int (vInt (ξ 6))])) :: []) rfl (by decide +kernel) rfl ((fun (ξ : Nat → Value) (S : Nat → Bool) => Chunk.strm 25 bs (intRows xs) (m + 1 + 1 + 1 + b2n (S 6)) :: Chunk.box b3 30 [.int c, .int t, .int f] :: Chunk.box b4 27 (List.map Tr.raw [.int .i64 0, .slice none 0 0]) :: Chunk.box b 27 [.int v, Tr.raw (.slice ad k cap)] :: Chunk.own ad cap 1 3 (stg (S 8) (intRows l) ((intRows l).set 0 [.int (vInt (ξ 6))])) :: []) (fun _ => undef) (fun _ => false)) (by simp only [upd_same, updD_same, upd_ne, updD_ne, ne_eq, Nat.reduceEqDiff, not_false_eq_true, stg_t, stg_f, vAd_s, vCap_s, blk_p, List.cons_append, List.nil_append, b2n_t, b2n_f]; exact goXm) (fun _ => rfl) ?_ | fail
    apply YSeq.w (by intro _ _ _; rfl)
    · intro ξ S h1 h2 h3 h4
      have hN0_8 := closed_false h1 h3 (k := 8) rfl (by decide)
      try simp only [upd_same, updD_same, upd_ne, updD_ne, ne_eq, Nat.reduceEqDiff, not_false_eq_true, stg_t, stg_f, vAd_s, vCap_s, blk_p, List.cons_append, List.nil_append, b2n_t, b2n_f, hN0_8]
      exact goW
    · intro ξ v; rfl
    · intro ξ k v S h3 hn hk
      first
      | rfl
    apply YSeq.w (by intro _ _ _; rfl)
    · intro ξ S h1 h2 h3 h4
      have hN1_8 := closed_false h1 h3 (k := 8) rfl (by decide)
      try simp only [upd_same, updD_same, upd_ne, updD_ne, ne_eq, Nat.reduceEqDiff, not_false_eq_true, stg_t, stg_f, vAd_s, vCap_s, blk_p, List.cons_append, List.nil_append, b2n_t, b2n_f, hN1_8]
      exact goW
    · intro ξ v; rfl
    · intro ξ k v S h3 hn hk
      first
      | rfl
    apply YSeq.w (by intro _ _ _; rfl)
    · intro ξ S h1 h2 h3 h4
      have hN2_6 := closed_false h1 h3 (k := 6) rfl (by decide)
      have hN2_8 := closed_false h1 h3 (k := 8) rfl (by decide)
      try simp only [upd_same, updD_same, upd_ne, updD_ne, ne_eq, Nat.reduceEqDiff, not_false_eq_true, stg_t, stg_f, vAd_s, vCap_s, blk_p, List.cons_append, List.nil_append, b2n_t, b2n_f, hN2_6, hN2_8]
      exact goW
    · intro ξ v; rfl
    · intro ξ k v S h3 hn hk
      first
      | rfl
    apply YSeq.w (by intro _ _ _; rfl)
    · intro ξ S h1 h2 h3 h4
      have hN3_4 := closed_false h1 h3 (k := 4) rfl (by decide)
      have hN3_5 := closed_false hN3_4 h3 (k := 5) rfl (by decide)
      have hN3_6 := closed_false hN3_5 h3 (k := 6) rfl (by decide)
      have hN3_8 := closed_false h1 h3 (k := 8) rfl (by decide)
      try simp only [upd_same, updD_same, upd_ne, updD_ne, ne_eq, Nat.reduceEqDiff, not_false_eq_true, stg_t, stg_f, vAd_s, vCap_s, blk_p, List.cons_append, List.nil_append, b2n_t, b2n_f, hN3_6, hN3_8]
      exact goW
    · intro ξ v; rfl
    · intro ξ k v S h3 hn hk
      first
      | rfl
    apply YSeq.w (by intro _ _ _; rfl)
    · intro ξ S h1 h2 h3 h4
      have hN4_5 := closed_false h1 h3 (k := 5) rfl (by decide)
      have hN4_6 := closed_false hN4_5 h3 (k := 6) rfl (by decide)
      have hN4_8 := closed_false h1 h3 (k := 8) rfl (by decide)
      try simp only [upd_same, updD_same, upd_ne, updD_ne, ne_eq, Nat.reduceEqDiff, not_false_eq_true, stg_t, stg_f, vAd_s, vCap_s, blk_p, List.cons_append, List.nil_append, b2n_t, b2n_f, hN4_6, hN4_8]
      exact goW
    · intro ξ v; rfl
    · intro ξ k v S h3 hn hk
      first
      | rfl
    apply YSeq.w (by intro _ _ _; rfl)
    · intro ξ S h1 h2 h3 h4
      have hN5_6 := closed_false h1 h3 (k := 6) rfl (by decide)
      have hN5_8 := closed_false h1 h3 (k := 8) rfl (by decide)
      try simp only [upd_same, updD_same, upd_ne, updD_ne, ne_eq, Nat.reduceEqDiff, not_false_eq_true, stg_t, stg_f, vAd_s, vCap_s, blk_p, List.cons_append, List.nil_append, b2n_t, b2n_f, hN5_6, hN5_8]
      exact goW
    · intro ξ v; rfl
    · intro ξ k v S h3 hn hk
      first
      | rfl
    apply YSeq.callI (pick_gen (l := [-1, t, 999999, 1000000]) (by repeat' (first | exact IsInts.nil | apply IsInts.cons)) (by simp)) (fun _ => (Evs.cons rfl (Evs.cons rfl Evs.nil)))
    · intro ξ S h1 h3
      have hN6_8 := closed_false h1 h3 (k := 8) rfl (by decide)
      have hq6 := b2n_le (S 6)
      simp only [upd_same, updD_same, upd_ne, updD_ne, ne_eq, Nat.reduceEqDiff, not_false_eq_true, stg_t, stg_f, vAd_s, vCap_s, blk_p, List.cons_append, List.nil_append, b2n_t, b2n_f, h1, hN6_8]
      refine ⟨_, _, ?_, goXp, fun v => ?_⟩
      · omega
      · refine List.Perm.trans goXp (perm_strm ?_)
        omega
    apply YSeq.w (by intro _ _ _; rfl)
    · intro ξ S h1 h2 h3 h4
      have hY7_6 : S 6 = true := h2 6 (by decide)
      have hN7_8 := closed_false h1 h3 (k := 8) rfl (by decide)
      have hR58 := pf_int (pick_gen (l := [-1, t, 999999, 1000000]) (by repeat' (first | exact IsInts.nil | apply IsInts.cons)) (by simp)) (h4 6 hY7_6)
      try simp only [InRange] at hR58
      have hRn58 := hR58
      try simp only [Nat.zero_add, Nat.reduceAdd] at hRn58
      try simp only [upd_same, updD_same, upd_ne, updD_ne, ne_eq, Nat.reduceEqDiff, not_false_eq_true, stg_t, stg_f, vAd_s, vCap_s, blk_p, List.cons_append, List.nil_append, b2n_t, b2n_f, hY7_6, hN7_8]
      exact goW
    · intro ξ v; rfl
    · intro ξ k v S h3 hn hk
      first
      | rfl
      | skip
        have hY7_6 : S 6 = true := h3 7 _ rfl hn 6 (by decide)
        simp only [upd_S hY7_6 hk]
    apply YSeq.storeO
    · intro ξ S h1 h2 h3 h4
      have hY8_6 : S 6 = true := h2 6 (by decide)
      have hR58 := pf_int (pick_gen (l := [-1, t, 999999, 1000000]) (by repeat' (first | exact IsInts.nil | apply IsInts.cons)) (by simp)) (h4 6 hY8_6)
      try simp only [InRange] at hR58
      have hRn58 := hR58
      try simp only [Nat.zero_add, Nat.reduceAdd] at hRn58
      simp only [upd_same, updD_same, upd_ne, updD_ne, ne_eq, Nat.reduceEqDiff, not_false_eq_true, stg_t, stg_f, vAd_s, vCap_s, blk_p, List.cons_append, List.nil_append, b2n_t, b2n_f, hY8_6, h1]
      refine ⟨_, _, _, _, _, _, _, _, _, _, rfl, rfl, inferInstance, goXp, (by first | rfl | assumption | (simp [*]; done)), (by decide), ?_⟩
      exact goXm
    refine YSeq.nil fun ξ hf => ?_
    have hR58 := pf_int (pick_gen (l := [-1, t, 999999, 1000000]) (by repeat' (first | exact IsInts.nil | apply IsInts.cons)) (by simp)) (hf 6)
    try simp only [InRange] at hR58
    refine ⟨[(0, _), (4, _), (5, _)], _, Ent.trans (Ent.eqc rfl (by first | (simp only [upd_same, updD_same, upd_ne, updD_ne, ne_eq, Nat.reduceEqDiff, not_false_eq_true, stg_t, stg_f, vAd_s, vCap_s, blk_p, List.cons_append, List.nil_append, b2n_t, b2n_f, ownV, slV, ptV] <;> rfl) | rfl)) (Ent.sub goSub), ?_⟩
    clear hf
    generalize vInt (ξ 6) = x58 at hR58 ⊢
    repeat' (first | refine goH ?_ | refine goV ?_ | refine goB (fun b => ?_) | refine goC (fun ad cap => ?_) | refine goG ?_ | (refine Ops.k_guard ?_; first | (refine Ops.guard_dec rfl rfl (fun hc => ?_) (fun hc => ?_) <;> try (exfalso; omega)) | refine Ops.guard_split rfl rfl (fun hc => ?_) (fun hc => ?_)) | refine goI ?_ | (refine Cw.k_cond ?_; first | (refine Cw.cond_dec rfl (fun hc => ?_) (fun hc => ?_) <;> try (exfalso; omega)) | refine Cw.cond_bool rfl (fun hc => ?_) (fun hc => ?_)) | refine goR ?_ | refine goP ?_ | apply PSeq.cons | apply PSeq.yes rfl rfl rfl | exact goW | fail)
    erw [int_set]
    have hq3 : (intRows (l.set 0 x58)).length = k := by rw [intRows_len, List.length_set, ← intRows_len, hrl]
    refine Fin.ent (Ent.settle_box (b := b4) (i := 1) (ad := ad) (kk := 1) (rows := intRows (l.set 0 x58)) (by exact Perm.cons' goPk (Perm.cons' goPk (List.Perm.refl _))) rfl hq3.symm rfl) ?_
    refine Fin.ret (Ent.trans (Ent.setbox (s := 4) rfl goPk) (Ent.strm_only goPk (by omega))) (Outs.sole rfl goOe) ⟨rfl, ⟨v, (l.set 0 x58)⟩, rfl, by simp; omega, hatv⟩
  · skip
    refine Fin.ent (Ent.settle_box (b := b4) (i := 1) (ad := ad) (kk := 1) (rows := intRows l) (by exact Perm.cons' goPk (Perm.cons' goPk (List.Perm.refl _))) rfl hrl.symm rfl) ?_
    refine Fin.ret (Ent.trans (Ent.setbox (s := 4) rfl goPk) (Ent.strm_only goPk (by omega))) (Outs.sole rfl goOe) ⟨rfl, ⟨v, l⟩, rfl, by simp; omega, hatv⟩
  · skip
    refine Fin.ent (Ent.settle_box (b := b4) (i := 1) (ad := ad) (kk := 1) (rows := intRows l) (by exact Perm.cons' goPk (Perm.cons' goPk (List.Perm.refl _))) rfl hrl.symm rfl) ?_
    refine Fin.ret (Ent.trans (Ent.setbox (s := 4) rfl goPk) (Ent.strm_only goPk (by omega))) (Outs.sole rfl goOe) ⟨rfl, ⟨v, l⟩, rfl, by simp; omega, hatv⟩
theorem reading_gen (c t f : Int) (ht : -1000000000000 ≤ t ∧ t ≤ 1000000000000) : Gen Tryz.prog 25 4 [.mtr c t f] 12 (fun r => ∃ d : Rdg, r = .rdg d ∧ d.vs.length ≤ 6) := by
  have h := reading_gen2 c t f ht
  unfold Gen at h ⊢
  intro b xs N hN
  exact (h b xs N hN).mono fun r cs ⟨h1, d, h2, h3, _⟩ => ⟨h1, d, h2, h3⟩
end Lg
