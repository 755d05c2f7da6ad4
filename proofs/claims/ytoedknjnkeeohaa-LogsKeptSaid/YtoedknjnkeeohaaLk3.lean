/- A part of the proof of a law of this seat: it adds no condition. By an AI agent. -/
import Derived.Laws.Externs
import Derived.Test.YtoedknjnkeeohaaClO
section
set_option linter.all false
set_option maxRecDepth 100000
set_option maxHeartbeats 8000000
namespace Lg
open Go Go.Proofs

def RdB (r : Rdg) : Prop := r.vs.length ≤ 1000
theorem rdgMap_snoc (l : List Rdg) (t : Int) (vs : List Int) : l.map Rdg.row ++ [[Tr.int t, Tr.ints vs]] = (l ++ [(⟨t, vs⟩ : Rdg)]).map Rdg.row := by rw [List.map_append]; rfl
attribute [local irreducible] intRows
theorem readings_gen (c t f : Int) (hb : (-1000000000000 ≤ t ∧ t ≤ 1000000000000) ∧ (-1000000000000 ≤ c ∧ c ≤ 1000000000000) ∧ (-1000000000000 ≤ f ∧ f ≤ 1000000000000)) : Gen Try.prog 25 7 [.mtr c t f] 1000 (fun r => ∃ L : List Rdg, r = .sl 2 (L.map Rdg.row) ∧ L.length ≤ 12 ∧ ∀ r ∈ L, RdB r) := by
  unfold Gen
  intro bs xs N hN
  have k1 := meterFault_fn c t f
  have kG := reading_gen c t f hb.1
  obtain ⟨e0, he0⟩ : ∃ e, e = mtrE c t f := ⟨_, rfl⟩
  have hok := fun h => mtrE_ok (c := c) (t := t) (f := f) h
  rw [← he0] at k1 hok
  clear he0
  refine Spec.body Try.func7 rfl rfl (Try.ntmps7) rfl fun w0 own0 M => ?_
  repeat' (first | refine goH ?_ | refine goV ?_ | refine goB (fun b => ?_) | refine goC (fun ad cap => ?_) | refine goG ?_ | (refine Ops.k_guard ?_; first | (refine Ops.guard_dec rfl rfl (fun hc => ?_) (fun hc => ?_) <;> try (exfalso; omega)) | refine Ops.guard_split rfl rfl (fun hc => ?_) (fun hc => ?_)) | refine goI ?_ | (refine Cw.k_cond ?_; first | (refine Cw.cond_dec rfl (fun hc => ?_) (fun hc => ?_) <;> try (exfalso; omega)) | refine Cw.cond_bool rfl (fun hc => ?_) (fun hc => ?_)) | (refine Ops.k_calla ?_; first | (refine Ops.k_callf 9 ?_; refine Ops.callV k1 (Evs.cons rfl Evs.nil) rfl ?_) | (refine Ops.k_callf 25 ?_; (refine Ops.callG (flip_gen _ (by omega)) (Evs.cons rfl (Evs.cons rfl Evs.nil)) goPk (by omega) rfl ?_; rintro r ⟨u, rfl⟩)) | (refine Ops.k_callf 27 ?_; (refine Ops.callG (next_gen _ (by omega)) (Evs.cons rfl (Evs.cons rfl Evs.nil)) goPk (by omega) rfl ?_; rintro r ⟨a, rfl, hva⟩; unfold InRange at hva))) | (apply OpW.k_call; first | (apply OpW.k_callf 9; exact OpW.callV k1 (Evs.cons rfl Evs.nil))) | refine goR ?_ | refine goP ?_ | apply PSeq.cons | apply PSeq.yes rfl rfl rfl | exact goW | fail)
  · rename Nat => b3
    refine Cw.loopI [(0, _), (3, _), (21, _)] _ (fun q e cc => ∃ (k : Nat) (L : List Rdg) (ad : Option Addr) (cap m : Nat), q = 4 - k ∧ (k ≤ 4 ∧ L.length = k ∧ (∀ r ∈ L, RdB r) ∧ m ≤ N + 10 + 20 * k) ∧ e = [(5, Tr.raw (.slice ad k cap)), (22, .int k)] ∧ cc = [Chunk.own ad cap 2 30 (L.map Rdg.row), Chunk.strm 25 bs (intRows xs) m])
      ⟨_, _, _, Ent.trans (Ent.nil 2 30) (Ent.mkP goSub goPm), 0, [], none, 0, _, rfl, ⟨by omega, rfl, by simp, by omega⟩, rfl, rfl⟩ ?_
    rintro _ _ _ ⟨k, L, ad, cap, m, rfl, ⟨hk, hLl, hLb, hm⟩, rfl, rfl⟩
    have hLL : (L.map Rdg.row).length = k := by rw [List.length_map, hLl]
    by_cases hka : (k : Int) < a
    · repeat' (first | refine goH ?_ | refine goV ?_ | refine goB (fun b => ?_) | refine goC (fun ad cap => ?_) | refine goG ?_ | (refine Ops.k_guard ?_; first | (refine Ops.guard_dec rfl rfl (fun hc => ?_) (fun hc => ?_) <;> try (exfalso; omega)) | refine Ops.guard_split rfl rfl (fun hc => ?_) (fun hc => ?_)) | refine goI ?_ | (refine Cw.k_cond ?_; first | (refine Cw.cond_dec rfl (fun hc => ?_) (fun hc => ?_) <;> try (exfalso; omega)) | refine Cw.cond_bool rfl (fun hc => ?_) (fun hc => ?_)) | (refine Ops.k_calla ?_; first | (refine Ops.k_callf 6 ?_; (refine Ops.callG kG (Evs.cons rfl (Evs.cons rfl Evs.nil)) goPk (by omega) rfl ?_; rintro r ⟨d, rfl, hd⟩))) | refine goR ?_ | refine goP ?_ | apply PSeq.cons | apply PSeq.yes rfl rfl rfl | exact goW | fail)
      erw [rdgMap_snoc L d.t d.vs]
      have hLL2 : ((L ++ [(⟨d.t, d.vs⟩ : Rdg)]).map Rdg.row).length = k + 1 := by simp [hLl]
      rw [hLL2]
      exact ⟨_, _, _, (Ent.mk goSub goTk), ⟨k + 1, _, _, _, _, rfl, ⟨by omega, by simp [hLl], (fun r hr => by rcases List.mem_append.1 hr with h | h; exact hLb r h; rw [List.mem_singleton.1 h]; exact Nat.le_trans hd (by omega)), by omega⟩, rfl, rfl⟩, by omega⟩
    · repeat' (first | refine goH ?_ | refine goV ?_ | refine goB (fun b => ?_) | refine goC (fun ad cap => ?_) | refine goG ?_ | (refine Ops.k_guard ?_; first | (refine Ops.guard_dec rfl rfl (fun hc => ?_) (fun hc => ?_) <;> try (exfalso; omega)) | refine Ops.guard_split rfl rfl (fun hc => ?_) (fun hc => ?_)) | refine goI ?_ | (refine Cw.k_cond ?_; first | (refine Cw.cond_dec rfl (fun hc => ?_) (fun hc => ?_) <;> try (exfalso; omega)) | refine Cw.cond_bool rfl (fun hc => ?_) (fun hc => ?_)) | refine goR ?_ | refine goP ?_ | apply PSeq.cons | apply PSeq.yes rfl rfl rfl | exact goW | fail)
      rw [← hLL]
      refine Fin.ret (Ent.trans (Ent.settle (s := 4) rfl goPk rfl) (Ent.strm_only goPk (by omega))) (Outs.sole rfl goOe) ⟨rfl, L, rfl, by omega, hLb⟩
  · rename Nat => b3
    refine Cw.loopI [(0, _), (3, _), (21, _)] _ (fun q e cc => ∃ (k : Nat) (L : List Rdg) (ad : Option Addr) (cap m : Nat), q = 4 - k ∧ (k ≤ 4 ∧ L.length = k ∧ (∀ r ∈ L, RdB r) ∧ m ≤ N + 10 + 20 * k) ∧ e = [(5, Tr.raw (.slice ad k cap)), (22, .int k)] ∧ cc = [Chunk.own ad cap 2 30 (L.map Rdg.row), Chunk.strm 25 bs (intRows xs) m])
      ⟨_, _, _, Ent.trans (Ent.nil 2 30) (Ent.mkP goSub goPm), 0, [], none, 0, _, rfl, ⟨by omega, rfl, by simp, by omega⟩, rfl, rfl⟩ ?_
    rintro _ _ _ ⟨k, L, ad, cap, m, rfl, ⟨hk, hLl, hLb, hm⟩, rfl, rfl⟩
    have hLL : (L.map Rdg.row).length = k := by rw [List.length_map, hLl]
    by_cases hka : (k : Int) < a
    · repeat' (first | refine goH ?_ | refine goV ?_ | refine goB (fun b => ?_) | refine goC (fun ad cap => ?_) | refine goG ?_ | (refine Ops.k_guard ?_; first | (refine Ops.guard_dec rfl rfl (fun hc => ?_) (fun hc => ?_) <;> try (exfalso; omega)) | refine Ops.guard_split rfl rfl (fun hc => ?_) (fun hc => ?_)) | refine goI ?_ | (refine Cw.k_cond ?_; first | (refine Cw.cond_dec rfl (fun hc => ?_) (fun hc => ?_) <;> try (exfalso; omega)) | refine Cw.cond_bool rfl (fun hc => ?_) (fun hc => ?_)) | (refine Ops.k_calla ?_; first | (refine Ops.k_callf 6 ?_; (refine Ops.callG kG (Evs.cons rfl (Evs.cons rfl Evs.nil)) goPk (by omega) rfl ?_; rintro r ⟨d, rfl, hd⟩))) | refine goR ?_ | refine goP ?_ | apply PSeq.cons | apply PSeq.yes rfl rfl rfl | exact goW | fail)
      erw [rdgMap_snoc L d.t d.vs]
      have hLL2 : ((L ++ [(⟨d.t, d.vs⟩ : Rdg)]).map Rdg.row).length = k + 1 := by simp [hLl]
      rw [hLL2]
      exact ⟨_, _, _, (Ent.mk goSub goTk), ⟨k + 1, _, _, _, _, rfl, ⟨by omega, by simp [hLl], (fun r hr => by rcases List.mem_append.1 hr with h | h; exact hLb r h; rw [List.mem_singleton.1 h]; exact Nat.le_trans hd (by omega)), by omega⟩, rfl, rfl⟩, by omega⟩
    · repeat' (first | refine goH ?_ | refine goV ?_ | refine goB (fun b => ?_) | refine goC (fun ad cap => ?_) | refine goG ?_ | (refine Ops.k_guard ?_; first | (refine Ops.guard_dec rfl rfl (fun hc => ?_) (fun hc => ?_) <;> try (exfalso; omega)) | refine Ops.guard_split rfl rfl (fun hc => ?_) (fun hc => ?_)) | refine goI ?_ | (refine Cw.k_cond ?_; first | (refine Cw.cond_dec rfl (fun hc => ?_) (fun hc => ?_) <;> try (exfalso; omega)) | refine Cw.cond_bool rfl (fun hc => ?_) (fun hc => ?_)) | refine goR ?_ | refine goP ?_ | apply PSeq.cons | apply PSeq.yes rfl rfl rfl | exact goW | fail)
      rw [← hLL]
      refine Fin.ret (Ent.trans (Ent.settle (s := 4) rfl goPk rfl) (Ent.strm_only goPk (by omega))) (Outs.sole rfl goOe) ⟨rfl, L, rfl, by omega, hLb⟩
  · obtain ⟨⟨hc1, hc60⟩, ⟨ht1, ht2⟩, hf1, hf2⟩ := hok (by omega)
    clear hok kG k1
    rename_i x0 hx0
    obtain ⟨n, hn⟩ : ∃ n : Nat, c.toNat = n := ⟨_, rfl⟩
    have hnn : 1 ≤ n ∧ n ≤ 60 := by omega
    rw [show List.map Tr.raw [Value.int .i64 0] = [Tr.int 0] from rfl, hn, intRows_rep]
    refine Cw.loopI [(0, _), (3, _), (6, _), (38, _)] _ (fun q e cc => ∃ (k : Nat) (L : List Rdg) (ad8 : Option Addr) (cap8 m : Nat) (x : Int) (cs : List Int), q = 6 - k ∧ (k ≤ 6 ∧ L.length = k ∧ (∀ r ∈ L, RdB r) ∧ (intRows cs).length = n ∧ cs.length = n ∧ (∀ z ∈ cs, 0 ≤ z ∧ z < t) ∧ (0 ≤ x ∧ x ≤ 2000 + 4000 * k) ∧ m ≤ N + 10 + 100 * k) ∧ e = [(7, .int x), (8, Tr.raw (.slice ad8 k cap8)), (39, .int k)] ∧ cc = [Chunk.own ad cap 1 3 (intRows cs), Chunk.own ad8 cap8 2 30 (L.map Rdg.row), Chunk.strm 25 bs (intRows xs) m])
      ⟨_, _, _, Ent.trans (Ent.nil 2 30) (Ent.mkP goSub goPm), 0, [], none, 0, N + 1 + 1 + 1, x0, List.replicate n 0, rfl, ⟨by omega, rfl, by simp, by rw [intRows_len, List.length_replicate], List.length_replicate, by intro z hz; rw [List.eq_of_mem_replicate hz]; omega, by omega, by omega⟩, rfl, rfl⟩ ?_
    rintro _ _ _ ⟨k, L, ad8, cap8, m, x, cs, rfl, ⟨hk, hLl, hLb, hcl, hcn, hcb, hx, hm⟩, rfl, rfl⟩
    have hLL : (L.map Rdg.row).length = k := by rw [List.length_map, hLl]
    by_cases hka : (k : Int) < a
    · repeat' (first | refine goH ?_ | refine goV ?_ | refine goB (fun b => ?_) | refine goC (fun ad cap => ?_) | refine goG ?_ | (refine Ops.k_guard ?_; first | (refine Ops.guard_dec rfl rfl (fun hc => ?_) (fun hc => ?_) <;> try (exfalso; omega)) | refine Ops.guard_split rfl rfl (fun hc => ?_) (fun hc => ?_)) | refine goI ?_ | (refine Cw.k_cond ?_; first | (refine Cw.cond_dec rfl (fun hc => ?_) (fun hc => ?_) <;> try (exfalso; omega)) | refine Cw.cond_bool rfl (fun hc => ?_) (fun hc => ?_)) | refine goR ?_ | refine goP ?_ | apply PSeq.cons | apply PSeq.yes rfl rfl rfl | exact goW | fail)
      refine Cw.loopI [(0, _), (3, _), (6, _), (7, _), (8, _), (38, _), (39, _), (42, _)] _ (fun q e cc => ∃ (j : Nat) (cs : List Int) (m2 : Nat), q = n - j ∧ (j ≤ n ∧ (intRows cs).length = n ∧ cs.length = n ∧ (∀ z ∈ cs, 0 ≤ z ∧ z < t) ∧ m2 ≤ m + j) ∧ e = [(43, .int j)] ∧ cc = [Chunk.own ad cap 1 3 (intRows cs), Chunk.strm 25 bs (intRows xs) m2])
        ⟨_, _, _, (Ent.mkP goSub goPm), 0, cs, m, rfl, ⟨by omega, hcl, hcn, hcb, by omega⟩, rfl, rfl⟩ ?_
      clear hcl hcn hcb
      rintro _ _ _ ⟨j, cs, m2, rfl, ⟨hj, hcl, hcn, hcb, hm2⟩, rfl, rfl⟩
      by_cases hjn : j < n
      · obtain ⟨y, hy⟩ := at_lt (l := cs) (k := j) (by omega)
        have r1 := intRows_at hy
        have hyb := hcb y (List.mem_of_getElem? hy)
        repeat' (first | refine goH ?_ | refine goV ?_ | refine goB (fun b => ?_) | refine goC (fun ad cap => ?_) | refine goG ?_ | (refine Ops.k_guard ?_; first | (refine Ops.guard_dec rfl rfl (fun hc => ?_) (fun hc => ?_) <;> try (exfalso; omega)) | refine Ops.guard_split rfl rfl (fun hc => ?_) (fun hc => ?_)) | refine goI ?_ | (refine Cw.k_cond ?_; first | (refine Cw.cond_dec rfl (fun hc => ?_) (fun hc => ?_) <;> try (exfalso; omega)) | refine Cw.cond_bool rfl (fun hc => ?_) (fun hc => ?_)) | fail)
        first | refine Cw.region_YP (fun ξ S => Chunk.strm 25 bs (intRows xs) (m2 + b2n (S 13)) :: Chunk.own ad cap 1 3 (stg (S 19) (intRows cs) ((intRows cs).set ((j : Nat) : Int).toNat [.int ((y + vInt (ξ 13)).tmod t)])) :: Chunk.box b 27 [.int c, .int t, .int f] :: Chunk.own ad8 cap8 2 30 (L.map Rdg.row) :: []) rfl (by decide +kernel) rfl ((fun (ξ : Nat → Value) (S : Nat → Bool) => Chunk.strm 25 bs (intRows xs) (m2 + b2n (S 13)) :: Chunk.own ad cap 1 3 (stg (S 19) (intRows cs) ((intRows cs).set ((j : Nat) : Int).toNat [.int ((y + vInt (ξ 13)).tmod t)])) :: Chunk.box b 27 [.int c, .int t, .int f] :: Chunk.own ad8 cap8 2 30 (L.map Rdg.row) :: []) (fun _ => undef) (fun _ => false)) (by simp only [upd_same, updD_same, upd_ne, updD_ne, ne_eq, Nat.reduceEqDiff, not_false_eq_true, stg_t, stg_f, vAd_s, vCap_s, blk_p, List.cons_append, List.nil_append, b2n_t, b2n_f]; exact goXm) (fun _ => rfl) ?_ | fail
        apply YSeq.w (by intro _ _ _; rfl)
        · intro ξ S h1 h2 h3 h4
          have hN0_19 := closed_false h1 h3 (k := 19) rfl (by decide)
          try simp only [upd_same, updD_same, upd_ne, updD_ne, ne_eq, Nat.reduceEqDiff, not_false_eq_true, stg_t, stg_f, vAd_s, vCap_s, blk_p, List.cons_append, List.nil_append, b2n_t, b2n_f, hN0_19]
          exact goW
        · intro ξ v; rfl
        · intro ξ k v S h3 hn hk
          first
          | rfl
        apply YSeq.w (by intro _ _ _; rfl)
        · intro ξ S h1 h2 h3 h4
          have hN1_19 := closed_false h1 h3 (k := 19) rfl (by decide)
          try simp only [upd_same, updD_same, upd_ne, updD_ne, ne_eq, Nat.reduceEqDiff, not_false_eq_true, stg_t, stg_f, vAd_s, vCap_s, blk_p, List.cons_append, List.nil_append, b2n_t, b2n_f, hN1_19]
          exact goW
        · intro ξ v; rfl
        · intro ξ k v S h3 hn hk
          first
          | rfl
        apply YSeq.w (by intro _ _ _; rfl)
        · intro ξ S h1 h2 h3 h4
          have hN2_19 := closed_false h1 h3 (k := 19) rfl (by decide)
          try simp only [upd_same, updD_same, upd_ne, updD_ne, ne_eq, Nat.reduceEqDiff, not_false_eq_true, stg_t, stg_f, vAd_s, vCap_s, blk_p, List.cons_append, List.nil_append, b2n_t, b2n_f, hN2_19]
          exact goW
        · intro ξ v; rfl
        · intro ξ k v S h3 hn hk
          first
          | rfl
        apply YSeq.w (by intro _ _ _; rfl)
        · intro ξ S h1 h2 h3 h4
          have hN3_19 := closed_false h1 h3 (k := 19) rfl (by decide)
          try simp only [upd_same, updD_same, upd_ne, updD_ne, ne_eq, Nat.reduceEqDiff, not_false_eq_true, stg_t, stg_f, vAd_s, vCap_s, blk_p, List.cons_append, List.nil_append, b2n_t, b2n_f, hN3_19]
          exact goW
        · intro ξ v; rfl
        · intro ξ k v S h3 hn hk
          first
          | rfl
        apply YSeq.w (by intro _ _ _; rfl)
        · intro ξ S h1 h2 h3 h4
          have hN4_19 := closed_false h1 h3 (k := 19) rfl (by decide)
          try simp only [upd_same, updD_same, upd_ne, updD_ne, ne_eq, Nat.reduceEqDiff, not_false_eq_true, stg_t, stg_f, vAd_s, vCap_s, blk_p, List.cons_append, List.nil_append, b2n_t, b2n_f, hN4_19]
          exact goW
        · intro ξ v; rfl
        · intro ξ k v S h3 hn hk
          first
          | rfl
        apply YSeq.w (by intro _ _ _; rfl)
        · intro ξ S h1 h2 h3 h4
          have hN5_19 := closed_false h1 h3 (k := 19) rfl (by decide)
          try simp only [upd_same, updD_same, upd_ne, updD_ne, ne_eq, Nat.reduceEqDiff, not_false_eq_true, stg_t, stg_f, vAd_s, vCap_s, blk_p, List.cons_append, List.nil_append, b2n_t, b2n_f, hN5_19]
          exact goW
        · intro ξ v; rfl
        · intro ξ k v S h3 hn hk
          first
          | rfl
        apply YSeq.w (by intro _ _ _; rfl)
        · intro ξ S h1 h2 h3 h4
          have hN6_13 := closed_false h1 h3 (k := 13) rfl (by decide)
          have hN6_19 := closed_false h1 h3 (k := 19) rfl (by decide)
          try simp only [upd_same, updD_same, upd_ne, updD_ne, ne_eq, Nat.reduceEqDiff, not_false_eq_true, stg_t, stg_f, vAd_s, vCap_s, blk_p, List.cons_append, List.nil_append, b2n_t, b2n_f, hN6_13, hN6_19]
          exact goW
        · intro ξ v; rfl
        · intro ξ k v S h3 hn hk
          first
          | rfl
        apply YSeq.w (by intro _ _ _; rfl)
        · intro ξ S h1 h2 h3 h4
          have hN7_8 := closed_false h1 h3 (k := 8) rfl (by decide)
          have hN7_12 := closed_false hN7_8 h3 (k := 12) rfl (by decide)
          have hN7_13 := closed_false hN7_12 h3 (k := 13) rfl (by decide)
          have hN7_19 := closed_false h1 h3 (k := 19) rfl (by decide)
          try simp only [upd_same, updD_same, upd_ne, updD_ne, ne_eq, Nat.reduceEqDiff, not_false_eq_true, stg_t, stg_f, vAd_s, vCap_s, blk_p, List.cons_append, List.nil_append, b2n_t, b2n_f, hN7_13, hN7_19]
          exact goW
        · intro ξ v; rfl
        · intro ξ k v S h3 hn hk
          first
          | rfl
        apply YSeq.w (by intro _ _ _; rfl)
        · intro ξ S h1 h2 h3 h4
          have hN8_12 := closed_false h1 h3 (k := 12) rfl (by decide)
          have hN8_13 := closed_false hN8_12 h3 (k := 13) rfl (by decide)
          have hN8_19 := closed_false h1 h3 (k := 19) rfl (by decide)
          try simp only [upd_same, updD_same, upd_ne, updD_ne, ne_eq, Nat.reduceEqDiff, not_false_eq_true, stg_t, stg_f, vAd_s, vCap_s, blk_p, List.cons_append, List.nil_append, b2n_t, b2n_f, hN8_13, hN8_19]
          exact goW
        · intro ξ v; rfl
        · intro ξ k v S h3 hn hk
          first
          | rfl
        apply YSeq.w (by intro _ _ _; rfl)
        · intro ξ S h1 h2 h3 h4
          have hN9_10 := closed_false h1 h3 (k := 10) rfl (by decide)
          have hN9_11 := closed_false hN9_10 h3 (k := 11) rfl (by decide)
          have hN9_12 := closed_false hN9_11 h3 (k := 12) rfl (by decide)
          have hN9_13 := closed_false hN9_12 h3 (k := 13) rfl (by decide)
          have hN9_19 := closed_false h1 h3 (k := 19) rfl (by decide)
          try simp only [upd_same, updD_same, upd_ne, updD_ne, ne_eq, Nat.reduceEqDiff, not_false_eq_true, stg_t, stg_f, vAd_s, vCap_s, blk_p, List.cons_append, List.nil_append, b2n_t, b2n_f, hN9_13, hN9_19]
          exact goW
        · intro ξ v; rfl
        · intro ξ k v S h3 hn hk
          first
          | rfl
        apply YSeq.w (by intro _ _ _; rfl)
        · intro ξ S h1 h2 h3 h4
          have hN10_11 := closed_false h1 h3 (k := 11) rfl (by decide)
          have hN10_12 := closed_false hN10_11 h3 (k := 12) rfl (by decide)
          have hN10_13 := closed_false hN10_12 h3 (k := 13) rfl (by decide)
          have hN10_19 := closed_false h1 h3 (k := 19) rfl (by decide)
          try simp only [upd_same, updD_same, upd_ne, updD_ne, ne_eq, Nat.reduceEqDiff, not_false_eq_true, stg_t, stg_f, vAd_s, vCap_s, blk_p, List.cons_append, List.nil_append, b2n_t, b2n_f, hN10_13, hN10_19]
          exact goW
        · intro ξ v; rfl
        · intro ξ k v S h3 hn hk
          first
          | rfl
        apply YSeq.w (by intro _ _ _; rfl)
        · intro ξ S h1 h2 h3 h4
          have hN11_12 := closed_false h1 h3 (k := 12) rfl (by decide)
          have hN11_13 := closed_false hN11_12 h3 (k := 13) rfl (by decide)
          have hN11_19 := closed_false h1 h3 (k := 19) rfl (by decide)
          try simp only [upd_same, updD_same, upd_ne, updD_ne, ne_eq, Nat.reduceEqDiff, not_false_eq_true, stg_t, stg_f, vAd_s, vCap_s, blk_p, List.cons_append, List.nil_append, b2n_t, b2n_f, hN11_13, hN11_19]
          exact goW
        · intro ξ v; rfl
        · intro ξ k v S h3 hn hk
          first
          | rfl
        apply YSeq.w (by intro _ _ _; rfl)
        · intro ξ S h1 h2 h3 h4
          have hN12_13 := closed_false h1 h3 (k := 13) rfl (by decide)
          have hN12_19 := closed_false h1 h3 (k := 19) rfl (by decide)
          try simp only [upd_same, updD_same, upd_ne, updD_ne, ne_eq, Nat.reduceEqDiff, not_false_eq_true, stg_t, stg_f, vAd_s, vCap_s, blk_p, List.cons_append, List.nil_append, b2n_t, b2n_f, hN12_13, hN12_19]
          exact goW
        · intro ξ v; rfl
        · intro ξ k v S h3 hn hk
          first
          | rfl
        apply YSeq.callI (pick_gen (l := [0, 1, 3, f, 2 * f, 40]) (by repeat' (first | exact IsInts.nil | apply IsInts.cons)) (by simp)) (fun _ => (Evs.cons rfl (Evs.cons rfl Evs.nil)))
        · intro ξ S h1 h3
          have hN13_19 := closed_false h1 h3 (k := 19) rfl (by decide)
          have hq13 := b2n_le (S 13)
          simp only [upd_same, updD_same, upd_ne, updD_ne, ne_eq, Nat.reduceEqDiff, not_false_eq_true, stg_t, stg_f, vAd_s, vCap_s, blk_p, List.cons_append, List.nil_append, b2n_t, b2n_f, h1, hN13_19]
          refine ⟨_, _, ?_, goXp, fun v => ?_⟩
          · omega
          · refine List.Perm.trans goXp (perm_strm ?_)
            omega
        apply YSeq.w (by intro _ _ _; rfl)
        · intro ξ S h1 h2 h3 h4
          have hY14_13 : S 13 = true := h2 13 (by decide)
          have hN14_19 := closed_false h1 h3 (k := 19) rfl (by decide)
          have hR59 := pf_int (pick_gen (l := [0, 1, 3, f, 2 * f, 40]) (by repeat' (first | exact IsInts.nil | apply IsInts.cons)) (by simp)) (h4 13 hY14_13)
          try simp only [InRange] at hR59
          have hRn59 := hR59
          try simp only [Nat.zero_add, Nat.reduceAdd] at hRn59
          have hq : 0 ≤ vInt (ξ 13) ∧ vInt (ξ 13) ≤ 2000000 := (by have h := hR59; simp at h; omega)
          try simp only [upd_same, updD_same, upd_ne, updD_ne, ne_eq, Nat.reduceEqDiff, not_false_eq_true, stg_t, stg_f, vAd_s, vCap_s, blk_p, List.cons_append, List.nil_append, b2n_t, b2n_f, hY14_13, hN14_19]
          exact goW
        · intro ξ v; rfl
        · intro ξ k v S h3 hn hk
          first
          | rfl
          | skip
            have hY14_13 : S 13 = true := h3 14 _ rfl hn 13 (by decide)
            simp only [upd_S hY14_13 hk]
        apply YSeq.w (by intro _ _ _; rfl)
        · intro ξ S h1 h2 h3 h4
          have hN15_19 := closed_false h1 h3 (k := 19) rfl (by decide)
          try simp only [upd_same, updD_same, upd_ne, updD_ne, ne_eq, Nat.reduceEqDiff, not_false_eq_true, stg_t, stg_f, vAd_s, vCap_s, blk_p, List.cons_append, List.nil_append, b2n_t, b2n_f, hN15_19]
          exact goW
        · intro ξ v; rfl
        · intro ξ k v S h3 hn hk
          first
          | rfl
        apply YSeq.w (by intro _ _ _; rfl)
        · intro ξ S h1 h2 h3 h4
          have hN16_19 := closed_false h1 h3 (k := 19) rfl (by decide)
          try simp only [upd_same, updD_same, upd_ne, updD_ne, ne_eq, Nat.reduceEqDiff, not_false_eq_true, stg_t, stg_f, vAd_s, vCap_s, blk_p, List.cons_append, List.nil_append, b2n_t, b2n_f, hN16_19]
          exact goW
        · intro ξ v; rfl
        · intro ξ k v S h3 hn hk
          first
          | rfl
        apply YSeq.w (by intro _ _ _; rfl)
        · intro ξ S h1 h2 h3 h4
          have hY17_14 : S 14 = true := h2 14 (by decide)
          have hY17_13 : S 13 = true := h3 14 _ rfl hY17_14 13 (by decide)
          have hN17_19 := closed_false h1 h3 (k := 19) rfl (by decide)
          have hR59 := pf_int (pick_gen (l := [0, 1, 3, f, 2 * f, 40]) (by repeat' (first | exact IsInts.nil | apply IsInts.cons)) (by simp)) (h4 13 hY17_13)
          try simp only [InRange] at hR59
          have hRn59 := hR59
          try simp only [Nat.zero_add, Nat.reduceAdd] at hRn59
          have hq : 0 ≤ vInt (ξ 13) ∧ vInt (ξ 13) ≤ 2000000 := (by have h := hR59; simp at h; omega)
          try simp only [upd_same, updD_same, upd_ne, updD_ne, ne_eq, Nat.reduceEqDiff, not_false_eq_true, stg_t, stg_f, vAd_s, vCap_s, blk_p, List.cons_append, List.nil_append, b2n_t, b2n_f, hY17_13, hN17_19]
          exact goW
        · intro ξ v; rfl
        · intro ξ k v S h3 hn hk
          first
          | rfl
          | skip
            have hY17_14 : S 14 = true := h3 17 _ rfl hn 14 (by decide)
            have hY17_13 : S 13 = true := h3 14 _ rfl hY17_14 13 (by decide)
            simp only [upd_S hY17_13 hk]
        apply YSeq.w (by intro _ _ _; rfl)
        · intro ξ S h1 h2 h3 h4
          have hY18_13 : S 13 = true := h2 13 (by decide)
          have hN18_19 := closed_false h1 h3 (k := 19) rfl (by decide)
          have hR59 := pf_int (pick_gen (l := [0, 1, 3, f, 2 * f, 40]) (by repeat' (first | exact IsInts.nil | apply IsInts.cons)) (by simp)) (h4 13 hY18_13)
          try simp only [InRange] at hR59
          have hRn59 := hR59
          try simp only [Nat.zero_add, Nat.reduceAdd] at hRn59
          try simp only [upd_same, updD_same, upd_ne, updD_ne, ne_eq, Nat.reduceEqDiff, not_false_eq_true, stg_t, stg_f, vAd_s, vCap_s, blk_p, List.cons_append, List.nil_append, b2n_t, b2n_f, hY18_13, hN18_19]
          exact goW
        · intro ξ v; rfl
        · intro ξ k v S h3 hn hk
          first
          | rfl
          | skip
            have hY18_13 : S 13 = true := h3 18 _ rfl hn 13 (by decide)
            simp only [upd_S hY18_13 hk]
        apply YSeq.storeO
        · intro ξ S h1 h2 h3 h4
          have hY19_13 : S 13 = true := h2 13 (by decide)
          have hR59 := pf_int (pick_gen (l := [0, 1, 3, f, 2 * f, 40]) (by repeat' (first | exact IsInts.nil | apply IsInts.cons)) (by simp)) (h4 13 hY19_13)
          try simp only [InRange] at hR59
          have hRn59 := hR59
          try simp only [Nat.zero_add, Nat.reduceAdd] at hRn59
          simp only [upd_same, updD_same, upd_ne, updD_ne, ne_eq, Nat.reduceEqDiff, not_false_eq_true, stg_t, stg_f, vAd_s, vCap_s, blk_p, List.cons_append, List.nil_append, b2n_t, b2n_f, hY19_13, h1]
          refine ⟨_, _, _, _, _, _, _, _, _, _, rfl, rfl, inferInstance, goXp, (by first | rfl | assumption | (simp [*]; done)), (by decide), ?_⟩
          exact goXm
        refine YSeq.nil fun ξ hf => ?_
        have hR59 := pf_int (pick_gen (l := [0, 1, 3, f, 2 * f, 40]) (by repeat' (first | exact IsInts.nil | apply IsInts.cons)) (by simp)) (hf 13)
        try simp only [InRange] at hR59
        refine ⟨[(0, _), (3, _), (6, _), (7, _), (8, _), (38, _), (39, _), (42, _), (43, _)], _, Ent.trans (Ent.eqc rfl (by simp only [upd_same, updD_same, upd_ne, updD_ne, ne_eq, Nat.reduceEqDiff, not_false_eq_true, stg_t, stg_f, vAd_s, vCap_s, blk_p, List.cons_append, List.nil_append, b2n_t, b2n_f, ownV, slV, ptV] <;> rfl)) (Ent.sub goSub), ?_⟩
        clear hf
        generalize vInt (ξ 13) = x59 at hR59 ⊢
        have hx0 : 0 ≤ y + x59 := by simp at hR59; omega
        rw [Int.toNat_natCast, int_set, Int.tmod_eq_emod_of_nonneg hx0]
        have hl2 : (cs.set j ((y + x59) % t)).length = n := by simp [hcn]
        have hb2 : ∀ z ∈ cs.set j ((y + x59) % t), 0 ≤ z ∧ z < t := by
          intro z hz
          rcases List.mem_or_eq_of_mem_set hz with h | h
          · exact hcb z h
          · rw [h]
            exact ⟨Int.emod_nonneg _ (by omega), Int.emod_lt_of_pos _ (by omega)⟩
        repeat' (first | refine goH ?_ | refine goV ?_ | refine goB (fun b => ?_) | refine goC (fun ad cap => ?_) | refine goG ?_ | (refine Ops.k_guard ?_; first | (refine Ops.guard_dec rfl rfl (fun hc => ?_) (fun hc => ?_) <;> try (exfalso; omega)) | refine Ops.guard_split rfl rfl (fun hc => ?_) (fun hc => ?_)) | refine goI ?_ | (refine Cw.k_cond ?_; first | (refine Cw.cond_dec rfl (fun hc => ?_) (fun hc => ?_) <;> try (exfalso; omega)) | refine Cw.cond_bool rfl (fun hc => ?_) (fun hc => ?_)) | refine goR ?_ | refine goP ?_ | apply PSeq.cons | apply PSeq.yes rfl rfl rfl | exact goW | fail)
        exact ⟨_, _, _, (Ent.mk goSub goTk), ⟨j + 1, _, _, rfl, ⟨by omega, by rw [intRows_len]; exact hl2, hl2, hb2, by omega⟩, rfl, rfl⟩, by omega⟩
      · repeat' (first | refine goH ?_ | ((fail_if_success refine Ops.k_c_call ?_); refine goV ?_) | ((fail_if_success refine Ops.k_c_call ?_); refine goB (fun b => ?_)) | ((fail_if_success refine Ops.k_c_call ?_); refine goC (fun ad cap => ?_)) | refine goG ?_ | (refine Ops.k_guard ?_; first | (refine Ops.guard_dec rfl rfl (fun hc => ?_) (fun hc => ?_) <;> try (exfalso; omega)) | refine Ops.guard_split rfl rfl (fun hc => ?_) (fun hc => ?_)) | refine goI ?_ | (refine Cw.k_cond ?_; first | (refine Cw.cond_dec rfl (fun hc => ?_) (fun hc => ?_) <;> try (exfalso; omega)) | refine Cw.cond_bool rfl (fun hc => ?_) (fun hc => ?_)) | (refine Ops.k_calla ?_; first | (refine Ops.k_callf 25 ?_; (refine Ops.callG (flip_gen _ (by omega)) (Evs.cons rfl (Evs.cons rfl Evs.nil)) goPk (by omega) rfl ?_; rintro r ⟨u, rfl⟩)) | (refine Ops.k_callf 27 ?_; (refine Ops.callG (next_gen _ (by omega)) (Evs.cons rfl (Evs.cons rfl Evs.nil)) goPk (by omega) rfl ?_; rintro r ⟨v, rfl, hv⟩; unfold InRange at hv; obtain ⟨y, hy⟩ := at_lt (l := cs) (k := v.toNat) (by omega); have r1 := intRows_at hy))) | refine goR ?_ | refine goP ?_ | apply PSeq.cons | apply PSeq.yes rfl rfl rfl | exact goW | fail)
        · erw [int_set]
          obtain ⟨C, hC⟩ : ∃ C, C = cs.set v.toNat 0 := ⟨_, rfl⟩
          have hCn : C.length = n := by rw [hC, List.length_set]; exact hcn
          have hCr : (intRows C).length = n := (intRows_len C).trans hCn
          have hCb : ∀ z ∈ C, 0 ≤ z ∧ z < t := by
            intro z hz
            rw [hC] at hz
            rcases List.mem_or_eq_of_mem_set hz with h | h
            · exact hcb z h
            · rw [h]; omega
          rw [← hC]
          clear hC hcl hcn hcb r1 hy hv
          have kC := cloneO_int (ad := ad) (cap := cap) (intRows C) (intRows_k _) hCr.symm (by omega)
          repeat' (first | refine goH ?_ | refine goV ?_ | refine goB (fun b => ?_) | refine goC (fun ad cap => ?_) | refine goG ?_ | (refine Ops.k_guard ?_; first | (refine Ops.guard_dec rfl rfl (fun hc => ?_) (fun hc => ?_) <;> try (exfalso; omega)) | refine Ops.guard_split rfl rfl (fun hc => ?_) (fun hc => ?_)) | refine goI ?_ | (refine Cw.k_cond ?_; first | (refine Cw.cond_dec rfl (fun hc => ?_) (fun hc => ?_) <;> try (exfalso; omega)) | refine Cw.cond_bool rfl (fun hc => ?_) (fun hc => ?_)) | (refine Ops.k_calla ?_; first | (refine Ops.k_callf 36 ?_; (refine Ops.call kC (Evs.cons rfl Evs.nil) goPm rfl ?_; rintro r cs' ⟨rfl, rfl⟩)) | (refine Ops.k_callf 35 ?_; (refine Ops.callG (pick_gen (by repeat' (first | exact IsInts.nil | apply IsInts.cons)) (by simp)) (Evs.cons rfl (Evs.cons rfl Evs.nil)) goPk (by omega) rfl ?_; rintro r ⟨d, rfl, hd⟩; have hdb : 0 ≤ d ∧ d ≤ 4000 := (by simp at hd; omega); clear hd))) | refine goR ?_ | refine goP ?_ | apply PSeq.cons | apply PSeq.yes rfl rfl rfl | exact goW | fail)
          erw [rdgMap_snoc L x C]
          have hLL2 : ((L ++ [(⟨x, C⟩ : Rdg)]).map Rdg.row).length = k + 1 := by simp [hLl]
          rw [hLL2]
          exact ⟨_, _, _, (Ent.mk goSub goTk), ⟨k + 1, L ++ [(⟨x, C⟩ : Rdg)], _, _, _, _, C, rfl, ⟨by omega, by simp [hLl], (fun r hr => by rcases List.mem_append.1 hr with h | h; exact hLb r h; rw [List.mem_singleton.1 h]; exact (show C.length ≤ 1000 by omega)), hCr, hCn, hCb, by omega, by omega⟩, rfl, rfl⟩, by omega⟩
        · have kC := cloneO_int (ad := ad) (cap := cap) (intRows cs) (intRows_k _) hcl.symm (by omega)
          repeat' (first | refine goH ?_ | refine goV ?_ | refine goB (fun b => ?_) | refine goC (fun ad cap => ?_) | refine goG ?_ | (refine Ops.k_guard ?_; first | (refine Ops.guard_dec rfl rfl (fun hc => ?_) (fun hc => ?_) <;> try (exfalso; omega)) | refine Ops.guard_split rfl rfl (fun hc => ?_) (fun hc => ?_)) | refine goI ?_ | (refine Cw.k_cond ?_; first | (refine Cw.cond_dec rfl (fun hc => ?_) (fun hc => ?_) <;> try (exfalso; omega)) | refine Cw.cond_bool rfl (fun hc => ?_) (fun hc => ?_)) | (refine Ops.k_calla ?_; first | (refine Ops.k_callf 36 ?_; (refine Ops.call kC (Evs.cons rfl Evs.nil) goPm rfl ?_; rintro r cs' ⟨rfl, rfl⟩)) | (refine Ops.k_callf 35 ?_; (refine Ops.callG (pick_gen (by repeat' (first | exact IsInts.nil | apply IsInts.cons)) (by simp)) (Evs.cons rfl (Evs.cons rfl Evs.nil)) goPk (by omega) rfl ?_; rintro r ⟨d, rfl, hd⟩; have hdb : 0 ≤ d ∧ d ≤ 4000 := (by simp at hd; omega); clear hd))) | refine goR ?_ | refine goP ?_ | apply PSeq.cons | apply PSeq.yes rfl rfl rfl | exact goW | fail)
          erw [rdgMap_snoc L x cs]
          have hLL2 : ((L ++ [(⟨x, cs⟩ : Rdg)]).map Rdg.row).length = k + 1 := by simp [hLl]
          rw [hLL2]
          exact ⟨_, _, _, (Ent.mk goSub goTk), ⟨k + 1, L ++ [(⟨x, cs⟩ : Rdg)], _, _, _, _, cs, rfl, ⟨by omega, by simp [hLl], (fun r hr => by rcases List.mem_append.1 hr with h | h; exact hLb r h; rw [List.mem_singleton.1 h]; exact (show cs.length ≤ 1000 by omega)), hcl, hcn, hcb, by omega, by omega⟩, rfl, rfl⟩, by omega⟩
    · clear hcl hcn hcb
      repeat' (first | refine goH ?_ | ((fail_if_success refine Ops.k_c_append ?_); refine goV ?_) | ((fail_if_success refine Ops.k_c_append ?_); refine goB (fun b => ?_)) | ((fail_if_success refine Ops.k_c_append ?_); refine goC (fun ad cap => ?_)) | refine goG ?_ | (refine Ops.k_guard ?_; first | (refine Ops.guard_dec rfl rfl (fun hc => ?_) (fun hc => ?_) <;> try (exfalso; omega)) | refine Ops.guard_split rfl rfl (fun hc => ?_) (fun hc => ?_)) | refine goI ?_ | (refine Cw.k_cond ?_; first | (refine Cw.cond_dec rfl (fun hc => ?_) (fun hc => ?_) <;> try (exfalso; omega)) | refine Cw.cond_bool rfl (fun hc => ?_) (fun hc => ?_)) | (refine Ops.k_calla ?_; first | (refine Ops.k_callf 25 ?_; (refine Ops.callG (flip_gen _ (by omega)) (Evs.cons rfl (Evs.cons rfl Evs.nil)) goPk (by omega) rfl ?_; rintro r ⟨u2, rfl⟩)) | (refine Ops.k_callf 27 ?_; (refine Ops.callG (next_gen _ (by omega)) (Evs.cons rfl (Evs.cons rfl Evs.nil)) goPk (by omega) rfl ?_; rintro r ⟨v, rfl, hv⟩; unfold InRange at hv; obtain ⟨y, hy⟩ := at_lt (l := L) (k := v.toNat) (by omega); have r1 : (L.map Rdg.row)[v.toNat]? = some [.int y.t, .ints y.vs] := rows_at hy))) | refine goR ?_ | refine goP ?_ | apply PSeq.cons | apply PSeq.yes rfl rfl rfl | exact goW | fail)
      · repeat' (first | refine goH ?_ | refine goV ?_ | refine goB (fun b => ?_) | refine goC (fun ad cap => ?_) | refine goG ?_ | (refine Ops.k_guard ?_; first | (refine Ops.guard_dec rfl rfl (fun hc => ?_) (fun hc => ?_) <;> try (exfalso; omega)) | refine Ops.guard_split rfl rfl (fun hc => ?_) (fun hc => ?_)) | refine goI ?_ | (refine Cw.k_cond ?_; first | (refine Cw.cond_dec rfl (fun hc => ?_) (fun hc => ?_) <;> try (exfalso; omega)) | refine Cw.cond_bool rfl (fun hc => ?_) (fun hc => ?_)) | refine goP ?_ | apply PSeq.cons | apply PSeq.yes rfl rfl rfl | exact goW | fail)
        erw [rdgMap_snoc L y.t y.vs]
        have hyb := hLb y (List.mem_of_getElem? hy)
        obtain ⟨L2, hL2⟩ : ∃ L2, L2 = L ++ [(⟨y.t, y.vs⟩ : Rdg)] := ⟨_, rfl⟩
        have hL2b : ∀ r ∈ L2, RdB r := fun r hr => by
          rw [hL2] at hr
          rcases List.mem_append.1 hr with h | h
          · exact hLb r h
          · rw [List.mem_singleton.1 h]; exact hyb
        have hLL2 : (L2.map Rdg.row).length = k + 1 := by rw [hL2]; simp [hLl]
        rw [← hL2, hLL2]
        have kO := order_gen (k + 1) (by omega)
        clear hL2 r1 hy
        repeat' (first | refine goH ?_ | refine goV ?_ | refine goB (fun b => ?_) | refine goC (fun ad cap => ?_) | refine goG ?_ | (refine Ops.k_guard ?_; first | (refine Ops.guard_dec rfl rfl (fun hc => ?_) (fun hc => ?_) <;> try (exfalso; omega)) | refine Ops.guard_split rfl rfl (fun hc => ?_) (fun hc => ?_)) | refine goI ?_ | (refine Cw.k_cond ?_; first | (refine Cw.cond_dec rfl (fun hc => ?_) (fun hc => ?_) <;> try (exfalso; omega)) | refine Cw.cond_bool rfl (fun hc => ?_) (fun hc => ?_)) | (refine Ops.k_calla ?_; first | (refine Ops.k_callf 37 ?_; (refine Ops.callG kO (Evs.cons rfl (Evs.cons rfl Evs.nil)) goPk (by omega) rfl ?_; rintro r ⟨O, rfl, hO, hOb⟩))) | refine goR ?_ | refine goP ?_ | apply PSeq.cons | apply PSeq.yes rfl rfl rfl | exact goW | fail)
        have hLr : (L2.map Rdg.row).length = (k + 1) := hLL2
        have hLl3 : L2.length = (k + 1) := by rw [← hLr, List.length_map]
        refine Cw.loopI [(8, _), (107, _), (108, _)] _ (fun q e cc => ∃ (i : Nat) (M : List Rdg) (ad2 : Option Addr) (cap2 : Nat), q = (k + 1) - i ∧ (i ≤ (k + 1) ∧ M.length = i ∧ ∀ r ∈ M, RdB r) ∧ e = [(10, Tr.raw (.slice ad2 i cap2)), (109, .int i)] ∧ cc = [Chunk.own ad2 cap2 2 30 (M.map Rdg.row)])
          ⟨_, _, _, Ent.trans (Ent.nil 2 30) (Ent.mkP goSub goPm), 0, [], none, 0, rfl, ⟨by omega, rfl, by simp⟩, rfl, rfl⟩ ?_
        rintro _ _ _ ⟨i, M, ad2, cap2, rfl, ⟨hi, hMl, hMb⟩, rfl, rfl⟩
        have hMM : (M.map Rdg.row).length = i := by rw [List.length_map, hMl]
        by_cases hin : i < (k + 1)
        · obtain ⟨o, ho⟩ := at_lt (l := O) (k := i) (by omega)
          have hob := hOb o (List.mem_of_getElem? ho)
          have r3 := intRows_at ho
          obtain ⟨d, hd⟩ := at_lt (l := L2) (k := o.toNat) (by omega)
          have hdb := hL2b d (List.mem_of_getElem? hd)
          have r2 : (L2.map Rdg.row)[o.toNat]? = some [.int d.t, .ints d.vs] := rows_at hd
          have hOr := intRows_len O
          clear ho
          repeat' (first | refine goH ?_ | refine goV ?_ | refine goB (fun b => ?_) | refine goC (fun ad cap => ?_) | refine goG ?_ | (refine Ops.k_guard ?_; first | (refine Ops.guard_dec rfl rfl (fun hc => ?_) (fun hc => ?_) <;> try (exfalso; omega)) | refine Ops.guard_split rfl rfl (fun hc => ?_) (fun hc => ?_)) | refine goI ?_ | (refine Cw.k_cond ?_; first | (refine Cw.cond_dec rfl (fun hc => ?_) (fun hc => ?_) <;> try (exfalso; omega)) | refine Cw.cond_bool rfl (fun hc => ?_) (fun hc => ?_)) | refine goR ?_ | refine goP ?_ | apply PSeq.cons | apply PSeq.yes rfl rfl rfl | exact goW | fail)
          erw [rdgMap_snoc M d.t d.vs]
          have hMM2 : ((M ++ [(⟨d.t, d.vs⟩ : Rdg)]).map Rdg.row).length = i + 1 := by simp [hMl]
          rw [hMM2]
          exact ⟨_, _, _, (Ent.mk goSub goTk), ⟨i + 1, _, _, _, rfl, ⟨by omega, by simp [hMl], (fun r hr => by rcases List.mem_append.1 hr with h | h; exact hMb r h; rw [List.mem_singleton.1 h]; exact hdb)⟩, rfl, rfl⟩, by omega⟩
        · have hOr := intRows_len O
          repeat' (first | refine goH ?_ | refine goV ?_ | refine goB (fun b => ?_) | refine goC (fun ad cap => ?_) | refine goG ?_ | (refine Ops.k_guard ?_; first | (refine Ops.guard_dec rfl rfl (fun hc => ?_) (fun hc => ?_) <;> try (exfalso; omega)) | refine Ops.guard_split rfl rfl (fun hc => ?_) (fun hc => ?_)) | refine goI ?_ | (refine Cw.k_cond ?_; first | (refine Cw.cond_dec rfl (fun hc => ?_) (fun hc => ?_) <;> try (exfalso; omega)) | refine Cw.cond_bool rfl (fun hc => ?_) (fun hc => ?_)) | refine goR ?_ | refine goP ?_ | apply PSeq.cons | apply PSeq.yes rfl rfl rfl | exact goW | fail)
          rw [← hMM]
          refine Fin.ret (Ent.trans (Ent.settle (s := 4) rfl goPk rfl) (Ent.strm_only goPk (by omega))) (Outs.sole rfl goOe) ⟨rfl, M, rfl, by omega, hMb⟩
      · have kO := order_gen k (by omega)
        repeat' (first | refine goH ?_ | refine goV ?_ | refine goB (fun b => ?_) | refine goC (fun ad cap => ?_) | refine goG ?_ | (refine Ops.k_guard ?_; first | (refine Ops.guard_dec rfl rfl (fun hc => ?_) (fun hc => ?_) <;> try (exfalso; omega)) | refine Ops.guard_split rfl rfl (fun hc => ?_) (fun hc => ?_)) | refine goI ?_ | (refine Cw.k_cond ?_; first | (refine Cw.cond_dec rfl (fun hc => ?_) (fun hc => ?_) <;> try (exfalso; omega)) | refine Cw.cond_bool rfl (fun hc => ?_) (fun hc => ?_)) | (refine Ops.k_calla ?_; first | (refine Ops.k_callf 37 ?_; (refine Ops.callG kO (Evs.cons rfl (Evs.cons rfl Evs.nil)) goPk (by omega) rfl ?_; rintro r ⟨O, rfl, hO, hOb⟩))) | refine goR ?_ | refine goP ?_ | apply PSeq.cons | apply PSeq.yes rfl rfl rfl | exact goW | fail)
        have hLr : (L.map Rdg.row).length = k := hLL
        have hLl3 : L.length = k := by rw [← hLr, List.length_map]
        refine Cw.loopI [(8, _), (107, _), (108, _)] _ (fun q e cc => ∃ (i : Nat) (M : List Rdg) (ad2 : Option Addr) (cap2 : Nat), q = k - i ∧ (i ≤ k ∧ M.length = i ∧ ∀ r ∈ M, RdB r) ∧ e = [(10, Tr.raw (.slice ad2 i cap2)), (109, .int i)] ∧ cc = [Chunk.own ad2 cap2 2 30 (M.map Rdg.row)])
          ⟨_, _, _, Ent.trans (Ent.nil 2 30) (Ent.mkP goSub goPm), 0, [], none, 0, rfl, ⟨by omega, rfl, by simp⟩, rfl, rfl⟩ ?_
        rintro _ _ _ ⟨i, M, ad2, cap2, rfl, ⟨hi, hMl, hMb⟩, rfl, rfl⟩
        have hMM : (M.map Rdg.row).length = i := by rw [List.length_map, hMl]
        by_cases hin : i < k
        · exfalso; omega
        · have hOr := intRows_len O
          repeat' (first | refine goH ?_ | refine goV ?_ | refine goB (fun b => ?_) | refine goC (fun ad cap => ?_) | refine goG ?_ | (refine Ops.k_guard ?_; first | (refine Ops.guard_dec rfl rfl (fun hc => ?_) (fun hc => ?_) <;> try (exfalso; omega)) | refine Ops.guard_split rfl rfl (fun hc => ?_) (fun hc => ?_)) | refine goI ?_ | (refine Cw.k_cond ?_; first | (refine Cw.cond_dec rfl (fun hc => ?_) (fun hc => ?_) <;> try (exfalso; omega)) | refine Cw.cond_bool rfl (fun hc => ?_) (fun hc => ?_)) | refine goR ?_ | refine goP ?_ | apply PSeq.cons | apply PSeq.yes rfl rfl rfl | exact goW | fail)
          rw [← hMM]
          refine Fin.ret (Ent.trans (Ent.settle (s := 4) rfl goPk rfl) (Ent.strm_only goPk (by omega))) (Outs.sole rfl goOe) ⟨rfl, M, rfl, by omega, hMb⟩
      · have kO := order_gen k (by omega)
        repeat' (first | refine goH ?_ | refine goV ?_ | refine goB (fun b => ?_) | refine goC (fun ad cap => ?_) | refine goG ?_ | (refine Ops.k_guard ?_; first | (refine Ops.guard_dec rfl rfl (fun hc => ?_) (fun hc => ?_) <;> try (exfalso; omega)) | refine Ops.guard_split rfl rfl (fun hc => ?_) (fun hc => ?_)) | refine goI ?_ | (refine Cw.k_cond ?_; first | (refine Cw.cond_dec rfl (fun hc => ?_) (fun hc => ?_) <;> try (exfalso; omega)) | refine Cw.cond_bool rfl (fun hc => ?_) (fun hc => ?_)) | (refine Ops.k_calla ?_; first | (refine Ops.k_callf 37 ?_; (refine Ops.callG kO (Evs.cons rfl (Evs.cons rfl Evs.nil)) goPk (by omega) rfl ?_; rintro r ⟨O, rfl, hO, hOb⟩))) | refine goR ?_ | refine goP ?_ | apply PSeq.cons | apply PSeq.yes rfl rfl rfl | exact goW | fail)
        have hLr : (L.map Rdg.row).length = k := hLL
        have hLl3 : L.length = k := by rw [← hLr, List.length_map]
        refine Cw.loopI [(8, _), (107, _), (108, _)] _ (fun q e cc => ∃ (i : Nat) (M : List Rdg) (ad2 : Option Addr) (cap2 : Nat), q = k - i ∧ (i ≤ k ∧ M.length = i ∧ ∀ r ∈ M, RdB r) ∧ e = [(10, Tr.raw (.slice ad2 i cap2)), (109, .int i)] ∧ cc = [Chunk.own ad2 cap2 2 30 (M.map Rdg.row)])
          ⟨_, _, _, Ent.trans (Ent.nil 2 30) (Ent.mkP goSub goPm), 0, [], none, 0, rfl, ⟨by omega, rfl, by simp⟩, rfl, rfl⟩ ?_
        rintro _ _ _ ⟨i, M, ad2, cap2, rfl, ⟨hi, hMl, hMb⟩, rfl, rfl⟩
        have hMM : (M.map Rdg.row).length = i := by rw [List.length_map, hMl]
        by_cases hin : i < k
        · obtain ⟨o, ho⟩ := at_lt (l := O) (k := i) (by omega)
          have hob := hOb o (List.mem_of_getElem? ho)
          have r3 := intRows_at ho
          obtain ⟨d, hd⟩ := at_lt (l := L) (k := o.toNat) (by omega)
          have hdb := hLb d (List.mem_of_getElem? hd)
          have r2 : (L.map Rdg.row)[o.toNat]? = some [.int d.t, .ints d.vs] := rows_at hd
          have hOr := intRows_len O
          clear ho
          repeat' (first | refine goH ?_ | refine goV ?_ | refine goB (fun b => ?_) | refine goC (fun ad cap => ?_) | refine goG ?_ | (refine Ops.k_guard ?_; first | (refine Ops.guard_dec rfl rfl (fun hc => ?_) (fun hc => ?_) <;> try (exfalso; omega)) | refine Ops.guard_split rfl rfl (fun hc => ?_) (fun hc => ?_)) | refine goI ?_ | (refine Cw.k_cond ?_; first | (refine Cw.cond_dec rfl (fun hc => ?_) (fun hc => ?_) <;> try (exfalso; omega)) | refine Cw.cond_bool rfl (fun hc => ?_) (fun hc => ?_)) | refine goR ?_ | refine goP ?_ | apply PSeq.cons | apply PSeq.yes rfl rfl rfl | exact goW | fail)
          erw [rdgMap_snoc M d.t d.vs]
          have hMM2 : ((M ++ [(⟨d.t, d.vs⟩ : Rdg)]).map Rdg.row).length = i + 1 := by simp [hMl]
          rw [hMM2]
          exact ⟨_, _, _, (Ent.mk goSub goTk), ⟨i + 1, _, _, _, rfl, ⟨by omega, by simp [hMl], (fun r hr => by rcases List.mem_append.1 hr with h | h; exact hMb r h; rw [List.mem_singleton.1 h]; exact hdb)⟩, rfl, rfl⟩, by omega⟩
        · have hOr := intRows_len O
          repeat' (first | refine goH ?_ | refine goV ?_ | refine goB (fun b => ?_) | refine goC (fun ad cap => ?_) | refine goG ?_ | (refine Ops.k_guard ?_; first | (refine Ops.guard_dec rfl rfl (fun hc => ?_) (fun hc => ?_) <;> try (exfalso; omega)) | refine Ops.guard_split rfl rfl (fun hc => ?_) (fun hc => ?_)) | refine goI ?_ | (refine Cw.k_cond ?_; first | (refine Cw.cond_dec rfl (fun hc => ?_) (fun hc => ?_) <;> try (exfalso; omega)) | refine Cw.cond_bool rfl (fun hc => ?_) (fun hc => ?_)) | refine goR ?_ | refine goP ?_ | apply PSeq.cons | apply PSeq.yes rfl rfl rfl | exact goW | fail)
          rw [← hMM]
          refine Fin.ret (Ent.trans (Ent.settle (s := 4) rfl goPk rfl) (Ent.strm_only goPk (by omega))) (Outs.sole rfl goOe) ⟨rfl, M, rfl, by omega, hMb⟩
end Lg
end
section
set_option linter.all false
set_option maxRecDepth 100000
set_option maxHeartbeats 8000000
namespace Lg
open Go Go.Proofs

/-- slices.Insert of one element into a slice of one's own -/
theorem insert_rdg {n j : Nat} {ad : Option Addr} {cap : Nat} (rows : List (List Tr)) (row : List Tr) (hn : n = rows.length) (hj : j ≤ n) (hl : n ≤ 1000000) :
    Spec Try.prog 60 [Tr.raw (.slice ad n cap), .int j, .sl 2 [row]] [Chunk.own ad cap 2 30 rows] (fun r cs => ∃ ad' cap', r = Tr.raw (.slice ad' (n + 1) cap') ∧ cs = [Chunk.own ad' cap' 2 30 (rows.take j ++ row :: rows.drop j)]) := by
  have hov : ∀ (args : Array Value) (w : World), (callFunc 69 args).run Try.prog w = ((Extern.SlicesOverlaps.overlaps #[32, 32] #[4] args).run Try.prog w).andThen fun v w' => .ok (.value v) w' := fun args w => run_callFunc_extern Try.func69 (by kernel_rfl) (by kernel_rfl) (by kernel_rfl) (e := Extern.SlicesOverlaps.overlaps #[32, 32] #[4]) (by kernel_rfl) args w
  have hl1 : (((([row] : List (List Tr)).length : Nat)) : Int) = 1 := rfl
  refine Spec.body Try.func60 rfl rfl (Try.ntmps60) rfl fun w0 own0 M => ?_
  refine Cw.own_cap (List.Perm.refl _) fun hc1 hc2 => ?_
  have hc3 : (cap : Int) ≤ 9223372036854775807 := by unfold maxLen at hc2; omega
  clear hc2
  by_cases hjn : j = n
  · repeat' (first | refine goH ?_ | (refine Ops.k_slice ?_; first | (refine Ops.sliceR_any rfl rfl (by omega) rfl ?_)) | refine goV ?_ | refine goC (fun ad cap => ?_) | refine goI ?_ | (refine Cw.k_cond ?_; first | (refine Cw.cond_dec rfl (fun hc => ?_) (fun hc => ?_) <;> try (exfalso; omega)) | refine Cw.cond_bool rfl (fun hc => ?_) (fun hc => ?_)) | refine goR ?_ | refine goP ?_ | apply PSeq.cons | apply PSeq.yes rfl rfl rfl | exact goW | fail)
    rw [show (rows ++ [row]).length = n + 1 by rw [List.length_append, hn]; rfl]
    exact Fin.ret Ent.refl (Outs.one rfl rfl) ⟨_, _, rfl, by rw [hjn, hn, List.take_length, List.drop_length]⟩
  refine Cw.own_form (List.Perm.refl _) (by omega) ?_
  rintro g rfl _ _
  repeat' (first | refine goH ?_ | ((fail_if_success refine Ops.k_slice ?_); refine goV ?_) | ((fail_if_success refine Ops.k_slice ?_); refine goC (fun ad cap => ?_)) | refine goI ?_ | (refine Cw.k_cond ?_; first | (refine Cw.cond_dec rfl (fun hc => ?_) (fun hc => ?_) <;> try (exfalso; omega)) | refine Cw.cond_bool rfl (fun hc => ?_) (fun hc => ?_)) | refine goR ?_ | refine goP ?_ | apply PSeq.cons | apply PSeq.yes rfl rfl rfl | exact goW | fail)
  refine Ops.k_slice ?_
  refine Ops.sliceR_any rfl rfl (by omega) rfl ?_
  by_cases hroom : n + 1 ≤ cap
  have hshift : (rows.take (j + 1) ++ rows.drop j).set j row = rows.take j ++ row :: rows.drop j := by
    have hjl : j < rows.length := by omega
    have e : rows.take (j + 1) = rows.take j ++ [rows[j]] := (List.take_append_getElem hjl).symm
    rw [e, List.append_assoc, List.set_append_right _ _ (by rw [List.length_take]; omega), List.length_take, show j - min j rows.length = 0 by omega]
    rfl
  · repeat' (first | refine goH ?_ | (refine Ops.k_slice ?_; first | (refine Ops.sliceR_h rfl rfl (by omega) rfl ?_) | (refine Ops.sliceR_l rfl rfl (by omega) (by omega) rfl ?_)) | (refine Ops.k_c_copy ?_; first | (refine Ops.copy_shift (j := j) rfl rfl (List.Perm.refl _) (by omega) (by omega) (by omega) (by omega) (by omega) (by omega) rfl ?_) | (refine Ops.copy_one (j := j) rfl rfl (List.Perm.refl _) (by omega) (by simp only [List.length_append, List.length_take, List.length_drop]; omega) (by simp only [List.length_append, List.length_take, List.length_drop]; omega) (by omega) rfl ?_)) | refine goV ?_ | refine goC (fun ad cap => ?_) | (refine Ops.k_c_cap ?_; first | (refine Ops.val' rfl (OpV.cap Try.underlying32 rfl) ?_)) | refine goI ?_ | (refine Cw.k_cond ?_; first | (refine Cw.cond_dec rfl (fun hc => ?_) (fun hc => ?_) <;> try (exfalso; omega)) | refine Cw.cond_bool rfl (fun hc => ?_) (fun hc => ?_)) | (refine Ops.overlaps_no hov rfl rfl (List.Perm.refl _) rfl ?_) | (apply OpV.w; apply OpV.k_slice; exact OpV.sliceR_l rfl rfl (by omega) (by omega)) | refine goR ?_ | refine goP ?_ | apply PSeq.cons | apply PSeq.yes rfl rfl rfl | exact goW | fail)
    rw [hshift]
    exact Fin.ret Ent.refl (Outs.one rfl rfl) ⟨_, _, congrArg (fun m => Tr.raw (.slice (some ⟨g, 0, none⟩) m cap)) (by omega), rfl⟩
  · repeat' (first | refine goH ?_ | (refine Ops.k_slice ?_; first | (refine Ops.sliceR_h rfl rfl (by omega) rfl ?_)) | (refine Ops.k_c_append ?_; first | (refine Ops.append_zeros_own (j := j) (m := n + 1 - j) Try.underlying3 rfl rfl (by omega) (List.Perm.refl _) (by omega) (by omega) (by omega) (by omega) (by omega) rfl (fun ad' cap' => ?_))) | ((fail_if_success refine Ops.k_c_copy ?_); refine goV ?_) | ((fail_if_success refine Ops.k_c_copy ?_); refine goC (fun ad cap => ?_)) | (refine Ops.k_c_cap ?_; first | (refine Ops.val' rfl (OpV.cap Try.underlying32 rfl) ?_)) | refine goI ?_ | (refine Cw.k_cond ?_; first | (refine Cw.cond_dec rfl (fun hc => ?_) (fun hc => ?_) <;> try (exfalso; omega)) | refine Cw.cond_bool rfl (fun hc => ?_) (fun hc => ?_)) | refine goR ?_ | refine goP ?_ | apply PSeq.cons | apply PSeq.yes rfl rfl rfl | exact goW | fail)
    generalize hr2 : rows.take j ++ List.replicate (n + 1 - j) (List.map Tr.raw [Value.int .i64 0, Value.slice none 0 0]) = rows2
    have hl2 : rows2.length = n + 1 := by rw [← hr2, List.length_append, List.length_take, List.length_replicate]; omega
    have hl3 : (rows2.set j row).length = n + 1 := by rw [List.length_set]; exact hl2
    have hgrow : (rows2.set j row).take (j + 1) ++ rows.drop j = rows.take j ++ row :: rows.drop j := by
      have htl : (rows.take j).length = j := by rw [List.length_take]; omega
      rw [← hr2, List.set_append_right _ _ (by omega), htl, Nat.sub_self, show n + 1 - j = (n - j) + 1 by omega, List.replicate_succ, List.set_cons_zero, List.take_append, htl, show j + 1 - j = 1 by omega, List.take_of_length_le (by omega)]
      simp
    refine Ops.own_form (List.Perm.refl _) (by omega) ?_
    rintro g2 rfl hq1 hq2
    repeat' (first | refine goH ?_ | (refine Ops.k_slice ?_; first | (refine Ops.sliceR_l rfl rfl (by omega) (by omega) rfl ?_)) | (refine Ops.k_c_copy ?_; first | (refine Ops.copy_one (j := j) rfl rfl (List.Perm.refl _) (by omega) (by omega) (by omega) (by omega) rfl ?_) | (refine Ops.copy_end (j := j + 1) (l := j) rfl rfl (List.Perm.refl _) (by omega) (by omega) (by omega) (by omega) (by omega) (by omega) (by omega) rfl ?_)) | refine goV ?_ | refine goC (fun ad cap => ?_) | refine goI ?_ | (refine Cw.k_cond ?_; first | (refine Cw.cond_dec rfl (fun hc => ?_) (fun hc => ?_) <;> try (exfalso; omega)) | refine Cw.cond_bool rfl (fun hc => ?_) (fun hc => ?_)) | (apply OpV.w; apply OpV.k_slice; exact OpV.sliceR_l rfl rfl (by omega) (by omega)) | refine goR ?_ | refine goP ?_ | apply PSeq.cons | apply PSeq.yes rfl rfl rfl | exact goW | fail)
    rw [hgrow]
    exact Fin.ret (Ent.take (Take.cons pick0 Take.nil)) (Outs.one rfl rfl) ⟨_, _, congrArg (fun m => Tr.raw (.slice (some ⟨g2, 0, none⟩) m cap')) (by omega), rfl⟩

end Lg
end
section
set_option linter.all false
set_option maxRecDepth 100000
set_option maxHeartbeats 8000000
namespace Lg
open Go Go.Proofs

/-! ### logs: where a moment stands -/
abbrev SrtL (S : List Rdg) : Prop := S.Pairwise (fun a b => a.t < b.t)
structure Split (S : List Rdg) (a : Int) (i : Nat) (b : Bool) : Prop where
  le : i ≤ S.length
  lo : ∀ r ∈ S.take i, r.t < a
  hi : ∀ r ∈ S.drop i, a ≤ r.t
  is : b = true ↔ ∃ r, S[i]? = some r ∧ r.t = a
theorem srt_take {S : List Rdg} {k : Nat} {x : Rdg} (h : SrtL S) (hx : S[k]? = some x) : ∀ r ∈ S.take (k + 1), r.t ≤ x.t := by
  intro r hr
  rw [take_at hx] at hr
  have e : S = S.take k ++ x :: S.drop (k + 1) := by rw [← drop_at hx, List.take_append_drop]
  unfold SrtL at h
  rw [e, List.pairwise_append] at h
  rcases List.mem_append.1 hr with h1 | h1
  · have := h.2.2 r h1 x (by simp)
    omega
  · rw [List.mem_singleton.1 h1]
    exact Int.le_refl _
theorem srt_drop {S : List Rdg} {k : Nat} {x : Rdg} (h : SrtL S) (hx : S[k]? = some x) : ∀ r ∈ S.drop k, x.t ≤ r.t := by
  intro r hr
  have e : S = S.take k ++ x :: S.drop (k + 1) := by rw [← drop_at hx, List.take_append_drop]
  rw [drop_at hx] at hr
  unfold SrtL at h
  rw [e, List.pairwise_append] at h
  rcases List.mem_cons.1 hr with rfl | h1
  · exact Int.le_refl _
  · have := (List.pairwise_cons.1 h.2.1).1 r h1
    omega
theorem find1_fn (x : Rdg) (a : Int) : PFn Try.prog 68 [.rdg x, .int a] (· = .int (cmpI x.t a)) := by
  have hc := compare_fn x.t a
  generalize cmpI x.t a = r at *
  refine PFn.mk (Spec.body Try.func68 rfl rfl (Try.ntmps68) rfl fun w0 own0 M => ?_)
  repeat' (first | refine goH ?_ | refine goV ?_ | refine goB (fun b => ?_) | refine goI ?_ | (refine Cw.k_cond ?_; first | (refine Cw.cond_dec rfl (fun hc => ?_) (fun hc => ?_) <;> try (exfalso; omega)) | refine Cw.cond_bool rfl (fun hc => ?_) (fun hc => ?_)) | (refine Ops.k_calla ?_; first | (refine Ops.k_callf 48 ?_; refine Ops.callV hc (Evs.cons rfl (Evs.cons rfl Evs.nil)) rfl ?_)) | fail)
  exact Fin.ret (Ent.take goTk) (Outs.one rfl rfl) ⟨rfl, rfl⟩
theorem cmpI_sgn (a b : Int) : (a < b → cmpI a b = -1) ∧ (a = b → cmpI a b = 0) ∧ (b < a → cmpI a b = 1) := by
  unfold cmpI
  refine ⟨fun h => if_pos h, fun h => ?_, fun h => ?_⟩
  · rw [if_neg (by omega), if_neg (by omega)]
  · rw [if_neg (by omega), if_pos h]
theorem bsearch_fn {ad : Option Addr} {cap n : Nat} (S : List Rdg) (a : Int) (hS : SrtL S) (hl : S.length ≤ 1000) (hn : n = S.length) : Spec Try.prog 67 [Tr.raw (.slice ad n cap), .int a, Tr.raw (.func (.func 68) #[] #[])] [Chunk.own ad cap 2 30 (S.map Rdg.row)] (fun r cs => ∃ (i : Nat) (b : Bool), r = .tup [.int i, .bool b] ∧ Split S a i b ∧ cs = [Chunk.own ad cap 2 30 (S.map Rdg.row)]) := by
  have hSR : (S.map Rdg.row).length = n := by rw [List.length_map, hn]
  refine Spec.body Try.func67 rfl rfl (Try.ntmps67) rfl fun w0 own0 M => ?_
  repeat' (first | refine goH ?_ | refine goV ?_ | refine goG ?_ | (refine Ops.k_guard ?_; first | (refine Ops.guard_dec rfl rfl (fun hc => ?_) (fun hc => ?_) <;> try (exfalso; omega)) | refine Ops.guard_split rfl rfl (fun hc => ?_) (fun hc => ?_)) | refine goI ?_ | (refine Cw.k_cond ?_; first | (refine Cw.cond_dec rfl (fun hc => ?_) (fun hc => ?_) <;> try (exfalso; omega)) | refine Cw.cond_bool rfl (fun hc => ?_) (fun hc => ?_)) | fail)
  refine Cw.loopI [(0, _), (1, _), (2, _), (8, _)] _ (fun q e cc => ∃ (i j : Nat), q = j - i ∧ (i ≤ j ∧ j ≤ n ∧ (∀ r ∈ S.take i, r.t < a) ∧ ∀ r ∈ S.drop j, a ≤ r.t) ∧ e = [(9, .int i), (10, .int j)] ∧ cc = [])
    ⟨_, _, _, (Ent.mkP goSub goPm), 0, n, rfl, ⟨by omega, by omega, by simp, by rw [hn, List.drop_length]; simp⟩, rfl, rfl⟩ ?_
  rintro _ _ _ ⟨i, j, rfl, ⟨hij, hjn, hlo, hhi⟩, rfl, rfl⟩
  by_cases hlt : i < j
  · obtain ⟨x, hx⟩ := at_lt (l := S) (k := (i + j) / 2) (by omega)
    have r1 : (S.map Rdg.row)[(((i : Int) + (j : Int)) / 2).toNat]? = some [.int x.t, .ints x.vs] := rows_at (by rw [show (((i : Int) + (j : Int)) / 2).toNat = (i + j) / 2 by omega]; exact hx)
    have kE := (find1_fn x a).lend
    obtain ⟨c1, c2, c3⟩ := cmpI_sgn x.t a
    by_cases hxa : x.t < a
    · have hlo2 : ∀ r ∈ S.take ((i + j) / 2 + 1), r.t < a := fun r hr => by have := srt_take hS hx r hr; omega
      rw [c1 hxa] at kE
      clear c1 c2 c3 hx hlo
      repeat' (first | refine goH ?_ | (refine Ops.k_convert ?_; first | (refine Ops.convN Try.underlying3 Try.underlying93 rfl (wrap_u64 (by omega)) rfl ?_) | (refine Ops.convN Try.underlying93 Try.underlying3 rfl (wrap_i64 (by omega)) rfl ?_)) | refine goV ?_ | refine goG ?_ | (refine Ops.k_guard ?_; first | (refine Ops.guard_dec rfl rfl (fun hc => ?_) (fun hc => ?_) <;> try (exfalso; omega)) | refine Ops.guard_split rfl rfl (fun hc => ?_) (fun hc => ?_)) | refine goI ?_ | (refine Cw.k_cond ?_; first | (refine Cw.cond_dec rfl (fun hc => ?_) (fun hc => ?_) <;> try (exfalso; omega)) | refine Cw.cond_bool rfl (fun hc => ?_) (fun hc => ?_)) | (refine Ops.k_b_shr ?_; refine Ops.shr1 rfl rfl rfl ?_) | (refine Ops.k_calla ?_; first | refine Ops.callS_fn (caps := []) (args := [.rdg x, .int a]) rfl kE (Evs.cons rfl (Evs.cons rfl Evs.nil)) (List.Perm.refl _) rfl ?_) | fail)
      rw [show ((i : Int) + (j : Int)) / 2 = (((i + j) / 2 : Nat) : Int) by omega]
      exact ⟨_, _, _, (Ent.mk goSub goTk), ⟨(i + j) / 2 + 1, j, rfl, ⟨by omega, by omega, hlo2, hhi⟩, rfl, rfl⟩, by omega⟩
    · have hhi2 : ∀ r ∈ S.drop ((i + j) / 2), a ≤ r.t := fun r hr => by have := srt_drop hS hx r hr; omega
      obtain ⟨c, hc⟩ : ∃ c, c = cmpI x.t a := ⟨_, rfl⟩
      have hc0 : 0 ≤ c := by rw [hc]; by_cases h : x.t = a; rw [c2 h]; omega; rw [c3 (by omega)]; omega
      rw [← hc] at kE
      clear c1 c2 c3 hx hhi hc
      repeat' (first | refine goH ?_ | (refine Ops.k_convert ?_; first | (refine Ops.convN Try.underlying3 Try.underlying93 rfl (wrap_u64 (by omega)) rfl ?_) | (refine Ops.convN Try.underlying93 Try.underlying3 rfl (wrap_i64 (by omega)) rfl ?_)) | refine goV ?_ | refine goG ?_ | (refine Ops.k_guard ?_; first | (refine Ops.guard_dec rfl rfl (fun hc => ?_) (fun hc => ?_) <;> try (exfalso; omega)) | refine Ops.guard_split rfl rfl (fun hc => ?_) (fun hc => ?_)) | refine goI ?_ | (refine Cw.k_cond ?_; first | (refine Cw.cond_dec rfl (fun hc => ?_) (fun hc => ?_) <;> try (exfalso; omega)) | refine Cw.cond_bool rfl (fun hc => ?_) (fun hc => ?_)) | (refine Ops.k_b_shr ?_; refine Ops.shr1 rfl rfl rfl ?_) | (refine Ops.k_calla ?_; first | refine Ops.callS_fn (caps := []) (args := [.rdg x, .int a]) rfl kE (Evs.cons rfl (Evs.cons rfl Evs.nil)) (List.Perm.refl _) rfl ?_) | fail)
      rw [show ((i : Int) + (j : Int)) / 2 = (((i + j) / 2 : Nat) : Int) by omega]
      exact ⟨_, _, _, (Ent.mk goSub goTk), ⟨i, (i + j) / 2, rfl, ⟨by omega, by omega, hlo, hhi2⟩, rfl, rfl⟩, by omega⟩
  · have hje : j = i := by omega
    subst hje
    by_cases hjl : j < n
    · obtain ⟨x, hx⟩ := at_lt (l := S) (k := j) (by omega)
      have r1 : (S.map Rdg.row)[j]? = some [.int x.t, .ints x.vs] := rows_at hx
      have kE := (find1_fn x a).lend
      obtain ⟨c1, c2, c3⟩ := cmpI_sgn x.t a
      have hxa : a ≤ x.t := hhi x (by rw [drop_at hx]; simp)
      by_cases hxe : x.t = a
      · rw [c2 hxe] at kE
        have hsp : Split S a j true := ⟨by omega, hlo, hhi, ⟨fun _ => ⟨x, hx, hxe⟩, fun _ => rfl⟩⟩
        clear c1 c2 c3 hlo hhi hx
        repeat' (first | refine goH ?_ | refine goV ?_ | refine goG ?_ | (refine Ops.k_guard ?_; first | (refine Ops.guard_dec rfl rfl (fun hc => ?_) (fun hc => ?_) <;> try (exfalso; omega)) | refine Ops.guard_split rfl rfl (fun hc => ?_) (fun hc => ?_)) | refine goI ?_ | (refine Cw.k_cond ?_; first | (refine Cw.cond_dec rfl (fun hc => ?_) (fun hc => ?_) <;> try (exfalso; omega)) | refine Cw.cond_bool rfl (fun hc => ?_) (fun hc => ?_)) | (refine Ops.k_calla ?_; first | refine Ops.callS_fn (caps := []) (args := [.rdg x, .int a]) rfl kE (Evs.cons rfl (Evs.cons rfl Evs.nil)) (List.Perm.refl _) rfl ?_) | fail)
        exact Fin.ret Ent.refl (Outs.two rfl rfl rfl) ⟨j, true, rfl, hsp, rfl⟩
      · rw [c3 (by omega)] at kE
        have hsp : Split S a j false := ⟨by omega, hlo, hhi, ⟨fun h => (by cases h), fun ⟨r, h1, h2⟩ => by rw [hx] at h1; cases h1; exact absurd h2 hxe⟩⟩
        clear c1 c2 c3 hlo hhi hx
        repeat' (first | refine goH ?_ | refine goV ?_ | refine goG ?_ | (refine Ops.k_guard ?_; first | (refine Ops.guard_dec rfl rfl (fun hc => ?_) (fun hc => ?_) <;> try (exfalso; omega)) | refine Ops.guard_split rfl rfl (fun hc => ?_) (fun hc => ?_)) | refine goI ?_ | (refine Cw.k_cond ?_; first | (refine Cw.cond_dec rfl (fun hc => ?_) (fun hc => ?_) <;> try (exfalso; omega)) | refine Cw.cond_bool rfl (fun hc => ?_) (fun hc => ?_)) | (refine Ops.k_calla ?_; first | refine Ops.callS_fn (caps := []) (args := [.rdg x, .int a]) rfl kE (Evs.cons rfl (Evs.cons rfl Evs.nil)) (List.Perm.refl _) rfl ?_) | fail)
        exact Fin.ret Ent.refl (Outs.two rfl rfl rfl) ⟨j, false, rfl, hsp, rfl⟩
    · have hsp : Split S a j false := ⟨by omega, hlo, hhi, ⟨fun h => (by cases h), fun ⟨r, h1, h2⟩ => by have := (List.getElem?_eq_some_iff.1 h1).1; omega⟩⟩
      clear hlo hhi
      repeat' (first | refine goH ?_ | refine goV ?_ | refine goG ?_ | (refine Ops.k_guard ?_; first | (refine Ops.guard_dec rfl rfl (fun hc => ?_) (fun hc => ?_) <;> try (exfalso; omega)) | refine Ops.guard_split rfl rfl (fun hc => ?_) (fun hc => ?_)) | refine goI ?_ | (refine Cw.k_cond ?_; first | (refine Cw.cond_dec rfl (fun hc => ?_) (fun hc => ?_) <;> try (exfalso; omega)) | refine Cw.cond_bool rfl (fun hc => ?_) (fun hc => ?_)) | fail)
      exact Fin.ret Ent.refl (Outs.two rfl rfl rfl) ⟨j, false, rfl, hsp, rfl⟩
end Lg
end
section
set_option linter.all false
set_option maxRecDepth 100000
set_option maxHeartbeats 8000000
namespace Lg
open Go Go.Proofs

/-! ### logs: a reading is put -/
def fdT (l : List Rdg) (a : Int) : Option Rdg := l.find? (fun x => decide (x.t = a))
def putO (e0 : Int) (l : List Rdg) (r : Rdg) : Bool × Int := if e0 ≠ 0 then (false, e0) else match fdT l r.t with
  | some o => (false, if o.vs = r.vs then 0 else 13)
  | none => (true, 0)
def insS (S : List Rdg) (r : Rdg) : List Rdg := S.filter (fun x => decide (x.t < r.t)) ++ r :: S.filter (fun x => decide (r.t < x.t))
def putS (e0 : Int) (S : List Rdg) (r : Rdg) : List Rdg := if (putO e0 S r).1 = true then insS S r else S
def putU (e0 : Int) (U : List Rdg) (r : Rdg) : List Rdg := if (putO e0 U r).1 = true then U ++ [r] else U
theorem putO_bad {e0 : Int} (h : e0 ≠ 0) (l : List Rdg) (r : Rdg) : putO e0 l r = (false, e0) := if_pos h
theorem putO_some {l : List Rdg} {r o : Rdg} (h : fdT l r.t = some o) : putO 0 l r = (false, if o.vs = r.vs then 0 else 13) := by
  unfold putO
  rw [if_neg (by decide), h]
theorem putO_none {l : List Rdg} {r : Rdg} (h : fdT l r.t = none) : putO 0 l r = (true, 0) := by
  unfold putO
  rw [if_neg (by decide), h]
theorem putS_no {e0 : Int} {S : List Rdg} {r : Rdg} {x : Int} (h : putO e0 S r = (false, x)) : putS e0 S r = S := by
  unfold putS
  rw [h]
  rfl
theorem putS_yes {e0 : Int} {S : List Rdg} {r : Rdg} {x : Int} (h : putO e0 S r = (true, x)) : putS e0 S r = insS S r := by
  unfold putS
  rw [h]
  rfl
theorem putU_no {e0 : Int} {S : List Rdg} {r : Rdg} {x : Int} (h : putO e0 S r = (false, x)) : putU e0 S r = S := by
  unfold putU
  rw [h]
  rfl
theorem putU_yes {e0 : Int} {S : List Rdg} {r : Rdg} {x : Int} (h : putO e0 S r = (true, x)) : putU e0 S r = S ++ [r] := by
  unfold putU
  rw [h]
  rfl
theorem split_some {S : List Rdg} {a : Int} {i : Nat} (h : Split S a i true) : ∃ o, S[i]? = some o ∧ o.t = a ∧ fdT S a = some o := by
  obtain ⟨o, h1, h2⟩ := h.is.1 rfl
  refine ⟨o, h1, h2, ?_⟩
  unfold fdT
  have e : S = S.take i ++ o :: S.drop (i + 1) := by rw [← drop_at h1, List.take_append_drop]
  rw [e, List.find?_append, List.find?_eq_none.2 (fun r hr => by have := h.lo r hr; simp; omega)]
  simp [h2]
theorem split_none {S : List Rdg} {a : Int} {i : Nat} (hS : SrtL S) (h : Split S a i false) : fdT S a = none ∧ S.take i = S.filter (fun x => decide (x.t < a)) ∧ S.drop i = S.filter (fun x => decide (a < x.t)) := by
  have hd : ∀ r ∈ S.drop i, a < r.t := by
    intro r hr
    by_cases hi : i < S.length
    · obtain ⟨o, ho⟩ := at_lt hi
      have h1 := h.hi o (by rw [drop_at ho]; simp)
      have h2 : o.t ≠ a := fun e => by have := h.is.2 ⟨o, ho, e⟩; cases this
      have := srt_drop hS ho r hr
      omega
    · rw [List.drop_of_length_le (by omega)] at hr
      cases hr
  have e := (List.take_append_drop i S).symm
  refine ⟨?_, ?_, ?_⟩
  · unfold fdT
    refine List.find?_eq_none.2 fun r hr => ?_
    rw [e] at hr
    rcases List.mem_append.1 hr with h1 | h1
    · have := h.lo r h1; simp; omega
    · have := hd r h1; simp; omega
  · conv => rhs; rw [e]
    rw [List.filter_append, List.filter_eq_self.2 (fun r hr => by have := h.lo r hr; simpa using this), List.filter_eq_nil_iff.2 (fun r hr => by have := hd r hr; simp; omega), List.append_nil]
  · conv => rhs; rw [e]
    rw [List.filter_append, List.filter_eq_nil_iff.2 (fun r hr => by have := h.lo r hr; simp; omega), List.filter_eq_self.2 (fun r hr => by have := hd r hr; simpa using this), List.nil_append]
theorem split_ins {S : List Rdg} {r : Rdg} {i : Nat} (hS : SrtL S) (h : Split S r.t i false) : (S.map Rdg.row).take i ++ [.int r.t, .ints r.vs] :: (S.map Rdg.row).drop i = (insS S r).map Rdg.row := by
  obtain ⟨_, h1, h2⟩ := split_none hS h
  rw [← List.map_take, ← List.map_drop, h1, h2]
  unfold insS
  rw [List.map_append, List.map_cons]
  rfl
abbrev logX (b : Nat) (c t f : Int) (ad : Option Addr) (n cap : Nat) : Chunk := Chunk.box b 84 [.int c, .int t, .int f, Tr.raw (.slice ad n cap)]
abbrev logY (b : Nat) (c t f : Int) (ad : Option Addr) (n cap : Nat) : Chunk := Chunk.box b 86 [.int c, .int t, .int f, Tr.raw (.slice ad n cap)]
abbrev ownR (ad : Option Addr) (cap : Nat) (S : List Rdg) : Chunk := Chunk.own ad cap 2 30 (S.map Rdg.row)
theorem newLogX_fn (c t f : Int) (h : mtrE c t f = 0) : Spec Try.prog 24 [.mtr c t f] [] (fun r cs => ∃ b, r = .tup [.ptr b, .int 0] ∧ cs = [logX b c t f none 0 0]) := by
  have k := checkMeter_fn c t f
  rw [h] at k
  refine Spec.body Try.func24 rfl rfl (Try.ntmps24) rfl fun w0 own0 M => ?_
  repeat' (first | refine goH ?_ | refine goV ?_ | refine goB (fun b => ?_) | refine goI ?_ | (refine Cw.k_cond ?_; first | (refine Cw.cond_dec rfl (fun hc => ?_) (fun hc => ?_) <;> try (exfalso; omega)) | refine Cw.cond_bool rfl (fun hc => ?_) (fun hc => ?_)) | (refine Ops.k_calla ?_; first | (refine Ops.k_callf 8 ?_; refine Ops.callV k (Evs.cons rfl Evs.nil) rfl ?_)) | fail)
  exact Fin.ret (Ent.take (Take.cons goPk Take.nil)) (Outs.two rfl rfl rfl) ⟨_, rfl, rfl⟩
theorem newLogX_bad (c t f : Int) (h : mtrE c t f ≠ 0) : PFn Try.prog 24 [.mtr c t f] (· = .tup [Tr.raw (.pointer none), .int (mtrE c t f)]) := by
  have k := checkMeter_fn c t f
  generalize mtrE c t f = e at *
  refine PFn.mk (Spec.body Try.func24 rfl rfl (Try.ntmps24) rfl fun w0 own0 M => ?_)
  repeat' (first | refine goH ?_ | refine goV ?_ | refine goB (fun b => ?_) | refine goI ?_ | (refine Cw.k_cond ?_; first | (refine Cw.cond_dec rfl (fun hc => ?_) (fun hc => ?_) <;> try (exfalso; omega)) | refine Cw.cond_bool rfl (fun hc => ?_) (fun hc => ?_)) | (refine Ops.k_calla ?_; first | (refine Ops.k_callf 8 ?_; refine Ops.callV k (Evs.cons rfl Evs.nil) rfl ?_)) | fail)
  exact Fin.ret (Ent.take goTk) (Outs.two rfl rfl rfl) ⟨rfl, rfl⟩
theorem newLogY_fn (c t f : Int) : Spec Try.prog 26 [.mtr c t f] [] (fun r cs => ∃ b, r = .ptr b ∧ cs = [logY b c t f none 0 0]) := by
  refine Spec.body Try.func26 rfl rfl (Try.ntmps26) rfl fun w0 own0 M => ?_
  repeat' (first | refine goH ?_ | refine goV ?_ | refine goB (fun b => ?_) | refine goI ?_ | (refine Cw.k_cond ?_; first | (refine Cw.cond_dec rfl (fun hc => ?_) (fun hc => ?_) <;> try (exfalso; omega)) | refine Cw.cond_bool rfl (fun hc => ?_) (fun hc => ?_)) | fail)
  exact Fin.ret (Ent.take (Take.cons goPk Take.nil)) (Outs.one rfl rfl) ⟨_, rfl, rfl⟩
theorem findX_fn {b : Nat} {c t f : Int} {ad : Option Addr} {cap n : Nat} (S : List Rdg) (a : Int) (hS : SrtL S) (hl : S.length ≤ 1000) (hn : n = S.length) : Spec Try.prog 59 [.ptr b, .int a] [logX b c t f ad n cap, ownR ad cap S] (fun r cs => ∃ (i : Nat) (q : Bool), r = .tup [.int i, .bool q] ∧ Split S a i q ∧ cs = [logX b c t f ad n cap, ownR ad cap S]) := by
  have k := bsearch_fn (ad := ad) (cap := cap) S a hS hl hn
  refine Spec.body Try.func59 rfl rfl (Try.ntmps59) rfl fun w0 own0 M => ?_
  repeat' (first | refine goH ?_ | refine goV ?_ | refine goI ?_ | (refine Cw.k_cond ?_; first | (refine Cw.cond_dec rfl (fun hc => ?_) (fun hc => ?_) <;> try (exfalso; omega)) | refine Cw.cond_bool rfl (fun hc => ?_) (fun hc => ?_)) | (refine Ops.k_calla ?_; first | (refine Ops.k_callf 67 ?_; (refine Ops.call k (Evs.cons rfl (Evs.cons rfl (Evs.cons rfl Evs.nil))) goPm rfl ?_; rintro r cs' ⟨i, q, rfl, hsp, rfl⟩))) | fail)
  exact Fin.ret (Ent.take (Take.cons goPk (Take.cons goPk Take.nil))) (Outs.two rfl rfl rfl) ⟨_, _, rfl, hsp, rfl⟩
attribute [local irreducible] intRows mtrE rdgE putO insS
theorem putX_fn {bx : Nat} {c t f : Int} {ad : Option Addr} {cap n : Nat} (S : List Rdg) (r : Rdg) (hS : SrtL S) (hl : S.length ≤ 1000) (hn : n = S.length) (ht : -1000000000000 ≤ t ∧ t ≤ 1000000000000) (hv : r.vs.length ≤ 1000) (hSv : ∀ x ∈ S, x.vs.length ≤ 1000) :
    Spec Try.prog 30 [.ptr bx, .rdg r] [logX bx c t f ad n cap, ownR ad cap S] (fun y cs => ∃ (ad' : Option Addr) (cap' : Nat), y = .tup [.bool (putO (rdgE c t f r) S r).1, .int (putO (rdgE c t f r) S r).2] ∧ cs = [logX bx c t f ad' (putS (rdgE c t f r) S r).length cap', ownR ad' cap' (putS (rdgE c t f r) S r)]) := by
  have k1 := checkReading_fn c t f r ht (by omega)
  have hSR : (S.map Rdg.row).length = n := by rw [List.length_map, hn]
  by_cases h0 : rdgE c t f r ≠ 0
  · have e1 := putO_bad h0 S r
    rw [putS_no e1, e1, ← hn]
    clear e1
    generalize rdgE c t f r = e0 at *
    refine Spec.body Try.func30 rfl rfl (Try.ntmps30) rfl fun w0 own0 M => ?_
    repeat' (first | refine goH ?_ | refine goV ?_ | refine goB (fun b => ?_) | refine goI ?_ | (refine Cw.k_cond ?_; first | (refine Cw.cond_dec rfl (fun hc => ?_) (fun hc => ?_) <;> try (exfalso; omega)) | refine Cw.cond_bool rfl (fun hc => ?_) (fun hc => ?_)) | (refine Ops.k_calla ?_; first | (refine Ops.k_callf 10 ?_; refine Ops.callV k1 (Evs.cons rfl (Evs.cons rfl Evs.nil)) rfl ?_)) | (apply OpW.k_call; first | (apply OpW.k_callf 10; exact OpW.callV k1 (Evs.cons rfl (Evs.cons rfl Evs.nil)))) | refine goR ?_ | refine goP ?_ | apply PSeq.cons | apply PSeq.yes rfl rfl rfl | exact goW | fail)
    exact Fin.ret (Ent.take (Take.cons goPk (Take.cons goPk Take.nil))) (Outs.two rfl rfl rfl) ⟨_, _, rfl, rfl⟩
  · have h00 : rdgE c t f r = 0 := by omega
    rw [h00] at k1 ⊢
    clear h0 h00
    have k2 := findX_fn (b := bx) (c := c) (t := t) (f := f) (ad := ad) (cap := cap) S r.t hS hl hn
    refine Spec.body Try.func30 rfl rfl (Try.ntmps30) rfl fun w0 own0 M => ?_
    repeat' (first | refine goH ?_ | refine goV ?_ | refine goB (fun b => ?_) | refine goI ?_ | (refine Cw.k_cond ?_; first | (refine Cw.cond_dec rfl (fun hc => ?_) (fun hc => ?_) <;> try (exfalso; omega)) | refine Cw.cond_bool rfl (fun hc => ?_) (fun hc => ?_)) | (refine Ops.k_calla ?_; first | (refine Ops.k_callf 10 ?_; refine Ops.callV k1 (Evs.cons rfl (Evs.cons rfl Evs.nil)) rfl ?_)) | (apply OpW.k_call; first | (apply OpW.k_callf 10; exact OpW.callV k1 (Evs.cons rfl (Evs.cons rfl Evs.nil)))) | refine goR ?_ | refine goP ?_ | apply PSeq.cons | apply PSeq.yes rfl rfl rfl | exact goW | fail)
    refine Ops.k_calla ?_
    refine Ops.call k2 (Evs.cons rfl (Evs.cons rfl Evs.nil)) goPm rfl ?_
    rintro y cs' ⟨i, q, rfl, hsp, rfl⟩
    cases q
    · obtain ⟨h1, _, _⟩ := split_none hS hsp
      have hil := hsp.le
      have hins := split_ins hS hsp
      have hlen : (insS S r).length = n + 1 := by
        rw [← List.length_map (f := Rdg.row), ← hins, List.length_append, List.length_cons, List.length_take, List.length_drop, hSR]
        omega
      have e1 := putO_none h1
      rw [putS_yes e1, e1, hlen]
      have kCl := (clone_int (intRows r.vs) (intRows_k _) (by rw [intRows_len]; omega)).val
      have kI := insert_rdg (n := n) (j := i) (ad := ad) (cap := cap) (S.map Rdg.row) [.int r.t, .ints r.vs] hSR.symm (by omega) (by omega)
      rw [hins] at kI
      clear e1 h1 hsp hins k1 k2
      repeat' (first | refine goH ?_ | refine goV ?_ | refine goB (fun b => ?_) | refine goI ?_ | (refine Cw.k_cond ?_; first | (refine Cw.cond_dec rfl (fun hc => ?_) (fun hc => ?_) <;> try (exfalso; omega)) | refine Cw.cond_bool rfl (fun hc => ?_) (fun hc => ?_)) | fail)
      refine Cw.region_seqF (m := 13) [0] rfl (by decide +kernel) rfl (fun a w d => FlRun.move rfl rfl rfl rfl FlRun.nil) ?_
      repeat' (first | refine goH ?_ | refine goV ?_ | refine goB (fun b => ?_) | refine goI ?_ | (refine Cw.k_cond ?_; first | (refine Cw.cond_dec rfl (fun hc => ?_) (fun hc => ?_) <;> try (exfalso; omega)) | refine Cw.cond_bool rfl (fun hc => ?_) (fun hc => ?_)) | refine NoP.norm ?_ | (refine Ops.k_calla ?_; first | (refine Ops.k_callf 36 ?_; refine Ops.callV kCl (Evs.cons rfl Evs.nil) rfl ?_) | (refine Ops.k_callf 60 ?_; (refine Ops.call kI (Evs.cons rfl (Evs.cons rfl (Evs.cons rfl Evs.nil))) goPm rfl ?_; rintro y cs' ⟨ad', cap', rfl, rfl⟩))) | (apply OpW.k_call; first | (apply OpW.k_callf 36; exact OpW.callV kCl (Evs.cons rfl Evs.nil))) | refine goR ?_ | refine goP ?_ | apply PSeq.cons | apply PSeq.yes rfl rfl rfl | exact goW | fail)
      exact Fin.ret (Ent.take (Take.cons goPk (Take.cons goPk Take.nil))) (Outs.two rfl rfl rfl) ⟨_, _, rfl, rfl⟩
    · obtain ⟨o, h1, h2, h3⟩ := split_some hsp
      have e1 := putO_some h3
      rw [putS_no e1, e1, ← hn]
      have hov := hSv o (List.mem_of_getElem? h1)
      have r1 : (S.map Rdg.row)[((i : Nat) : Int).toNat]? = some [.int o.t, .ints o.vs] := rows_at (by rw [Int.toNat_natCast]; exact h1)
      have hil : i < n := by have := (List.getElem?_eq_some_iff.1 h1).1; omega
      have kE := equalInts_fn o.vs r.vs (by omega) (by omega)
      clear e1 h1 hsp k1 k2 h3
      by_cases hvs : o.vs = r.vs
      · rw [decide_eq_true hvs] at kE
        rw [if_pos hvs]
        repeat' (first | refine goH ?_ | refine goV ?_ | refine goB (fun b => ?_) | refine goI ?_ | (refine Cw.k_cond ?_; first | (refine Cw.cond_dec rfl (fun hc => ?_) (fun hc => ?_) <;> try (exfalso; omega)) | refine Cw.cond_bool rfl (fun hc => ?_) (fun hc => ?_)) | (refine Ops.k_calla ?_; first | (refine Ops.k_callf 21 ?_; refine Ops.callV kE (Evs.cons rfl (Evs.cons rfl Evs.nil)) rfl ?_)) | (apply OpW.k_call; first | (apply OpW.k_callf 21; exact OpW.callV kE (Evs.cons rfl (Evs.cons rfl Evs.nil)))) | refine goR ?_ | refine goP ?_ | apply PSeq.cons | apply PSeq.yes rfl rfl rfl | exact goW | fail)
        exact Fin.ret (Ent.take (Take.cons goPk (Take.cons goPk Take.nil))) (Outs.two rfl rfl rfl) ⟨_, _, rfl, rfl⟩
      · rw [decide_eq_false hvs] at kE
        rw [if_neg hvs]
        repeat' (first | refine goH ?_ | refine goV ?_ | refine goB (fun b => ?_) | refine goI ?_ | (refine Cw.k_cond ?_; first | (refine Cw.cond_dec rfl (fun hc => ?_) (fun hc => ?_) <;> try (exfalso; omega)) | refine Cw.cond_bool rfl (fun hc => ?_) (fun hc => ?_)) | (refine Ops.k_calla ?_; first | (refine Ops.k_callf 21 ?_; refine Ops.callV kE (Evs.cons rfl (Evs.cons rfl Evs.nil)) rfl ?_)) | (apply OpW.k_call; first | (apply OpW.k_callf 21; exact OpW.callV kE (Evs.cons rfl (Evs.cons rfl Evs.nil)))) | refine goR ?_ | refine goP ?_ | apply PSeq.cons | apply PSeq.yes rfl rfl rfl | exact goW | fail)
        exact Fin.ret (Ent.take (Take.cons goPk (Take.cons goPk Take.nil))) (Outs.two rfl rfl rfl) ⟨_, _, rfl, rfl⟩
end Lg
end
section
set_option linter.all false
set_option maxRecDepth 100000
set_option maxHeartbeats 8000000
namespace Lg
open Go Go.Proofs

theorem fdT_yes {U : List Rdg} {k : Nat} {o : Rdg} {a : Int} (h : U[k]? = some o) (ho : o.t = a) : fdT (U.drop k) a = some o := by
  unfold fdT
  rw [drop_at h]
  simp [ho]
theorem fdT_no {U : List Rdg} {k : Nat} {o : Rdg} {a : Int} (h : U[k]? = some o) (ho : o.t ≠ a) : fdT (U.drop k) a = fdT (U.drop (k + 1)) a := by
  unfold fdT
  rw [drop_at h]
  simp [ho]
theorem fdT_end {U : List Rdg} {k : Nat} {a : Int} (h : U.length ≤ k) : fdT (U.drop k) a = none := by
  unfold fdT
  rw [List.drop_of_length_le h]
  rfl
attribute [local irreducible] intRows mtrE rdgE putO fdT
theorem putY_fn {bx : Nat} {c t f : Int} {ad : Option Addr} {cap n : Nat} (U : List Rdg) (r : Rdg) (hl : U.length ≤ 1000) (hn : n = U.length) (ht : -1000000000000 ≤ t ∧ t ≤ 1000000000000) (hv : r.vs.length ≤ 1000) (hUv : ∀ x ∈ U, x.vs.length ≤ 1000) :
    Spec Try.prog 31 [.ptr bx, .rdg r] [logY bx c t f ad n cap, ownR ad cap U] (fun y cs => ∃ (ad' : Option Addr) (cap' : Nat), y = .tup [.bool (putO (rdgE c t f r) U r).1, .int (putO (rdgE c t f r) U r).2] ∧ cs = [logY bx c t f ad' (putU (rdgE c t f r) U r).length cap', ownR ad' cap' (putU (rdgE c t f r) U r)]) := by
  have k1 := readingFault_fn c t f r ht (by omega)
  have hUR : (U.map Rdg.row).length = n := by rw [List.length_map, hn]
  by_cases h0 : rdgE c t f r ≠ 0
  · have e1 := putO_bad h0 U r
    rw [putU_no e1, e1, ← hn]
    clear e1
    generalize rdgE c t f r = e0 at *
    refine Spec.body Try.func31 rfl rfl (Try.ntmps31) rfl fun w0 own0 M => ?_
    repeat' (first | refine goH ?_ | refine goV ?_ | refine goB (fun b => ?_) | refine goC (fun ad cap => ?_) | refine goI ?_ | (refine Cw.k_cond ?_; first | (refine Cw.cond_dec rfl (fun hc => ?_) (fun hc => ?_) <;> try (exfalso; omega)) | refine Cw.cond_bool rfl (fun hc => ?_) (fun hc => ?_)) | (refine Ops.k_calla ?_; first | (refine Ops.k_callf 11 ?_; refine Ops.callV k1 (Evs.cons rfl (Evs.cons rfl Evs.nil)) rfl ?_)) | (apply OpW.k_call; first | (apply OpW.k_callf 11; exact OpW.callV k1 (Evs.cons rfl (Evs.cons rfl Evs.nil)))) | refine goR ?_ | refine goP ?_ | apply PSeq.cons | apply PSeq.yes rfl rfl rfl | exact goW | fail)
    exact Fin.ret (Ent.take (Take.cons goPk (Take.cons goPk Take.nil))) (Outs.two rfl rfl rfl) ⟨_, _, rfl, rfl⟩
  have h00 : rdgE c t f r = 0 := by omega
  rw [h00] at k1 ⊢
  clear h0 h00
  have hsome : ∀ o, fdT U r.t = some o → putO 0 U r = (false, if o.vs = r.vs then 0 else 13) := fun o h => putO_some h
  have hnone : fdT U r.t = none → putO 0 U r = (true, 0) := fun h => putO_none h
  refine Spec.body Try.func31 rfl rfl (Try.ntmps31) rfl fun w0 own0 M => ?_
  repeat' (first | refine goH ?_ | refine goV ?_ | refine goB (fun b => ?_) | refine goC (fun ad cap => ?_) | refine goI ?_ | (refine Cw.k_cond ?_; first | (refine Cw.cond_dec rfl (fun hc => ?_) (fun hc => ?_) <;> try (exfalso; omega)) | refine Cw.cond_bool rfl (fun hc => ?_) (fun hc => ?_)) | (refine Ops.k_calla ?_; first | (refine Ops.k_callf 11 ?_; refine Ops.callV k1 (Evs.cons rfl (Evs.cons rfl Evs.nil)) rfl ?_)) | (apply OpW.k_call; first | (apply OpW.k_callf 11; exact OpW.callV k1 (Evs.cons rfl (Evs.cons rfl Evs.nil)))) | refine goR ?_ | refine goP ?_ | apply PSeq.cons | apply PSeq.yes rfl rfl rfl | exact goW | fail)
  refine Cw.loopI [(0, _), (3, _), (21, _), (22, _)] _ (fun q e cc => ∃ (k : Nat), q = n - k ∧ (k ≤ n ∧ fdT U r.t = fdT (U.drop k) r.t) ∧ e = [(23, .int k)] ∧ cc = []) ⟨_, _, _, (Ent.mkP goSub goPm), 0, rfl, ⟨by omega, by rw [List.drop_zero]⟩, rfl, rfl⟩ ?_
  rintro _ _ _ ⟨k, rfl, ⟨hk, hV⟩, rfl, rfl⟩
  by_cases hkn : k < n
  · obtain ⟨o, ho⟩ := at_lt (l := U) (k := k) (by omega)
    have r1 : (U.map Rdg.row)[k]? = some [.int o.t, .ints o.vs] := rows_at ho
    have hov := hUv o (List.mem_of_getElem? ho)
    have kE := equalInts_fn o.vs r.vs (by omega) (by omega)
    by_cases hot : o.t = r.t
    · have e1 := hsome o (hV.trans (fdT_yes ho hot))
      rw [putU_no e1, e1, ← hn]
      clear hV ho e1 hsome hnone
      by_cases hvs : o.vs = r.vs
      · rw [decide_eq_true hvs] at kE
        rw [if_pos hvs]
        repeat' (first | refine goH ?_ | refine goV ?_ | refine goB (fun b => ?_) | refine goC (fun ad cap => ?_) | refine goI ?_ | (refine Cw.k_cond ?_; first | (refine Cw.cond_dec rfl (fun hc => ?_) (fun hc => ?_) <;> try (exfalso; omega)) | refine Cw.cond_bool rfl (fun hc => ?_) (fun hc => ?_)) | (refine Ops.k_calla ?_; first | (refine Ops.k_callf 21 ?_; refine Ops.callV kE (Evs.cons rfl (Evs.cons rfl Evs.nil)) rfl ?_)) | (apply OpW.k_call; first | (apply OpW.k_callf 21; exact OpW.callV kE (Evs.cons rfl (Evs.cons rfl Evs.nil)))) | refine goR ?_ | refine goP ?_ | apply PSeq.cons | apply PSeq.yes rfl rfl rfl | exact goW | fail)
        exact Fin.ret (Ent.take (Take.cons goPk (Take.cons goPk Take.nil))) (Outs.two rfl rfl rfl) ⟨_, _, rfl, rfl⟩
      · rw [decide_eq_false hvs] at kE
        rw [if_neg hvs]
        repeat' (first | refine goH ?_ | refine goV ?_ | refine goB (fun b => ?_) | refine goC (fun ad cap => ?_) | refine goI ?_ | (refine Cw.k_cond ?_; first | (refine Cw.cond_dec rfl (fun hc => ?_) (fun hc => ?_) <;> try (exfalso; omega)) | refine Cw.cond_bool rfl (fun hc => ?_) (fun hc => ?_)) | (refine Ops.k_calla ?_; first | (refine Ops.k_callf 21 ?_; refine Ops.callV kE (Evs.cons rfl (Evs.cons rfl Evs.nil)) rfl ?_)) | (apply OpW.k_call; first | (apply OpW.k_callf 21; exact OpW.callV kE (Evs.cons rfl (Evs.cons rfl Evs.nil)))) | refine goR ?_ | refine goP ?_ | apply PSeq.cons | apply PSeq.yes rfl rfl rfl | exact goW | fail)
        exact Fin.ret (Ent.take (Take.cons goPk (Take.cons goPk Take.nil))) (Outs.two rfl rfl rfl) ⟨_, _, rfl, rfl⟩
    · have hV2 := hV.trans (fdT_no ho hot)
      clear hV ho
      repeat' (first | refine goH ?_ | refine goV ?_ | refine goB (fun b => ?_) | refine goC (fun ad cap => ?_) | refine goI ?_ | (refine Cw.k_cond ?_; first | (refine Cw.cond_dec rfl (fun hc => ?_) (fun hc => ?_) <;> try (exfalso; omega)) | refine Cw.cond_bool rfl (fun hc => ?_) (fun hc => ?_)) | refine goR ?_ | refine goP ?_ | apply PSeq.cons | apply PSeq.yes rfl rfl rfl | exact goW | fail)
      exact ⟨_, _, _, (Ent.mk goSub goTk), ⟨k + 1, rfl, ⟨by omega, hV2⟩, rfl, rfl⟩, by omega⟩
  · have e1 := hnone (hV.trans (fdT_end (by omega)))
    have kCl := (clone_int (intRows r.vs) (intRows_k _) (by rw [intRows_len]; omega)).val
    rw [putU_yes e1, e1]
    have hlen : (U ++ [r]).length = n + 1 := by rw [List.length_append, ← hn]; rfl
    rw [hlen]
    clear hV e1 hsome hnone
    repeat' (first | refine goH ?_ | refine goV ?_ | refine goB (fun b => ?_) | refine goC (fun ad cap => ?_) | refine goI ?_ | (refine Cw.k_cond ?_; first | (refine Cw.cond_dec rfl (fun hc => ?_) (fun hc => ?_) <;> try (exfalso; omega)) | refine Cw.cond_bool rfl (fun hc => ?_) (fun hc => ?_)) | fail)
    refine Cw.region_seqF (m := 12) [0] rfl (by decide +kernel) rfl (fun a w d => FlRun.move rfl rfl rfl rfl FlRun.nil) ?_
    repeat' (first | refine goH ?_ | refine goV ?_ | refine goB (fun b => ?_) | refine goC (fun ad cap => ?_) | refine goI ?_ | (refine Cw.k_cond ?_; first | (refine Cw.cond_dec rfl (fun hc => ?_) (fun hc => ?_) <;> try (exfalso; omega)) | refine Cw.cond_bool rfl (fun hc => ?_) (fun hc => ?_)) | refine NoP.norm ?_ | (refine Ops.k_calla ?_; first | (refine Ops.k_callf 36 ?_; refine Ops.callV kCl (Evs.cons rfl Evs.nil) rfl ?_)) | (apply OpW.k_call; first | (apply OpW.k_callf 36; exact OpW.callV kCl (Evs.cons rfl Evs.nil))) | refine goR ?_ | refine goP ?_ | apply PSeq.cons | apply PSeq.yes rfl rfl rfl | exact goW | fail)
    have hl2 : (U.map Rdg.row ++ [[Tr.int r.t, Tr.ints r.vs]]).length = n + 1 := by rw [List.length_append, hUR]; rfl
    erw [hl2]
    rw [rdgRows_snoc]
    exact Fin.ret (Ent.take (Take.cons goPk (Take.cons goPk Take.nil))) (Outs.two rfl rfl rfl) ⟨_, _, rfl, rfl⟩
end Lg
end
