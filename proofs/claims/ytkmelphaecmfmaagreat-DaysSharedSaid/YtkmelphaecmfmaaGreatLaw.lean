/- A part of the proof of a law of this seat: it adds no condition. By an AI agent. -/
import Derived.Test.YtkmelphaecmfmaaGreatFrame
import Derived.Test.YtkmelphaecmfmaaGreatClO
section
set_option linter.all false
set_option maxRecDepth 100000
set_option maxHeartbeats 8000000
namespace Lg
open Go Go.Proofs

def RdB (r : Rdg) : Prop := r.vs.length ≤ 1000
theorem rdgMap_snoc (l : List Rdg) (t : Int) (vs : List Int) : l.map Rdg.row ++ [[Tr.int t, Tr.ints vs]] = (l ++ [(⟨t, vs⟩ : Rdg)]).map Rdg.row := by rw [List.map_append]; rfl
attribute [local irreducible] intRows
theorem readings_gen (c t f : Int) (hb : (-1000000000000 ≤ t ∧ t ≤ 1000000000000) ∧ (-1000000000000 ≤ c ∧ c ≤ 1000000000000) ∧ (-1000000000000 ≤ f ∧ f ≤ 1000000000000)) : Gen Tryz.prog 25 11 [.mtr c t f] 1000 (fun r => ∃ L : List Rdg, r = .sl 2 (L.map Rdg.row) ∧ L.length ≤ 12 ∧ ∀ r ∈ L, RdB r) := by
  unfold Gen
  intro bs xs N hN
  have k1 := meterFault_fn c t f
  have kG := reading_gen c t f hb.1
  obtain ⟨e0, he0⟩ : ∃ e, e = mtrE c t f := ⟨_, rfl⟩
  have hok := fun h => mtrE_ok (c := c) (t := t) (f := f) h
  rw [← he0] at k1 hok
  clear he0
  refine Spec.body Tryz.func11 rfl rfl (Tryz.ntmps11) rfl fun w0 own0 M => ?_
  repeat' (first | refine goH ?_ | refine goV ?_ | refine goB (fun b => ?_) | refine goC (fun ad cap => ?_) | refine goG ?_ | (refine Ops.k_guard ?_; first | (refine Ops.guard_dec rfl rfl (fun hc => ?_) (fun hc => ?_) <;> try (exfalso; omega)) | refine Ops.guard_split rfl rfl (fun hc => ?_) (fun hc => ?_)) | refine goI ?_ | (refine Cw.k_cond ?_; first | (refine Cw.cond_dec rfl (fun hc => ?_) (fun hc => ?_) <;> try (exfalso; omega)) | refine Cw.cond_bool rfl (fun hc => ?_) (fun hc => ?_)) | (refine Ops.k_calla ?_; first | (refine Ops.k_callf 37 ?_; refine Ops.callV k1 (Evs.cons rfl Evs.nil) rfl ?_) | (refine Ops.k_callf 27 ?_; (refine Ops.callG (flip_gen _ (by omega)) (Evs.cons rfl (Evs.cons rfl Evs.nil)) goPk (by omega) rfl ?_; rintro r ⟨u, rfl⟩)) | (refine Ops.k_callf 26 ?_; (refine Ops.callG (next_gen _ (by omega)) (Evs.cons rfl (Evs.cons rfl Evs.nil)) goPk (by omega) rfl ?_; rintro r ⟨a, rfl, hva⟩; unfold InRange at hva))) | (apply OpW.k_call; first | (apply OpW.k_callf 37; exact OpW.callV k1 (Evs.cons rfl Evs.nil))) | refine goR ?_ | refine goP ?_ | apply PSeq.cons | apply PSeq.yes rfl rfl rfl | exact goW | fail)
  · rename Nat => b3
    refine Cw.loopI [(0, _), (3, _), (21, _)] _ (fun q e cc => ∃ (k : Nat) (L : List Rdg) (ad : Option Addr) (cap m : Nat), q = 4 - k ∧ (k ≤ 4 ∧ L.length = k ∧ (∀ r ∈ L, RdB r) ∧ m ≤ N + 10 + 20 * k) ∧ e = [(5, Tr.raw (.slice ad k cap)), (22, .int k)] ∧ cc = [Chunk.own ad cap 2 77 (L.map Rdg.row), Chunk.strm 25 bs (intRows xs) m])
      ⟨_, _, _, Ent.trans (Ent.nil 2 77) (Ent.mkP goSub goPm), 0, [], none, 0, _, rfl, ⟨by omega, rfl, by simp, by omega⟩, rfl, rfl⟩ ?_
    rintro _ _ _ ⟨k, L, ad, cap, m, rfl, ⟨hk, hLl, hLb, hm⟩, rfl, rfl⟩
    have hLL : (L.map Rdg.row).length = k := by rw [List.length_map, hLl]
    by_cases hka : (k : Int) < a
    · repeat' (first | refine goH ?_ | refine goV ?_ | refine goB (fun b => ?_) | refine goC (fun ad cap => ?_) | refine goG ?_ | (refine Ops.k_guard ?_; first | (refine Ops.guard_dec rfl rfl (fun hc => ?_) (fun hc => ?_) <;> try (exfalso; omega)) | refine Ops.guard_split rfl rfl (fun hc => ?_) (fun hc => ?_)) | refine goI ?_ | (refine Cw.k_cond ?_; first | (refine Cw.cond_dec rfl (fun hc => ?_) (fun hc => ?_) <;> try (exfalso; omega)) | refine Cw.cond_bool rfl (fun hc => ?_) (fun hc => ?_)) | (refine Ops.k_calla ?_; first | (refine Ops.k_callf 38 ?_; (refine Ops.callG kG (Evs.cons rfl (Evs.cons rfl Evs.nil)) goPk (by omega) rfl ?_; rintro r ⟨d, rfl, hd⟩))) | refine goR ?_ | refine goP ?_ | apply PSeq.cons | apply PSeq.yes rfl rfl rfl | exact goW | fail)
      erw [rdgMap_snoc L d.t d.vs]
      have hLL2 : ((L ++ [(⟨d.t, d.vs⟩ : Rdg)]).map Rdg.row).length = k + 1 := by simp [hLl]
      rw [hLL2]
      exact ⟨_, _, _, (Ent.mk goSub goTk), ⟨k + 1, _, _, _, _, rfl, ⟨by omega, by simp [hLl], (fun r hr => by rcases List.mem_append.1 hr with h | h; exact hLb r h; rw [List.mem_singleton.1 h]; exact Nat.le_trans hd (by omega)), by omega⟩, rfl, rfl⟩, by omega⟩
    · repeat' (first | refine goH ?_ | refine goV ?_ | refine goB (fun b => ?_) | refine goC (fun ad cap => ?_) | refine goG ?_ | (refine Ops.k_guard ?_; first | (refine Ops.guard_dec rfl rfl (fun hc => ?_) (fun hc => ?_) <;> try (exfalso; omega)) | refine Ops.guard_split rfl rfl (fun hc => ?_) (fun hc => ?_)) | refine goI ?_ | (refine Cw.k_cond ?_; first | (refine Cw.cond_dec rfl (fun hc => ?_) (fun hc => ?_) <;> try (exfalso; omega)) | refine Cw.cond_bool rfl (fun hc => ?_) (fun hc => ?_)) | refine goR ?_ | refine goP ?_ | apply PSeq.cons | apply PSeq.yes rfl rfl rfl | exact goW | fail)
      rw [← hLL]
      refine Fin.ret (Ent.trans (Ent.settle (s := 4) rfl goPk rfl) (Ent.strm_only goPk (by omega))) (Outs.sole rfl goOe) ⟨rfl, L, rfl, by omega, hLb⟩
  · rename Nat => b3
    refine Cw.loopI [(0, _), (3, _), (21, _)] _ (fun q e cc => ∃ (k : Nat) (L : List Rdg) (ad : Option Addr) (cap m : Nat), q = 4 - k ∧ (k ≤ 4 ∧ L.length = k ∧ (∀ r ∈ L, RdB r) ∧ m ≤ N + 10 + 20 * k) ∧ e = [(5, Tr.raw (.slice ad k cap)), (22, .int k)] ∧ cc = [Chunk.own ad cap 2 77 (L.map Rdg.row), Chunk.strm 25 bs (intRows xs) m])
      ⟨_, _, _, Ent.trans (Ent.nil 2 77) (Ent.mkP goSub goPm), 0, [], none, 0, _, rfl, ⟨by omega, rfl, by simp, by omega⟩, rfl, rfl⟩ ?_
    rintro _ _ _ ⟨k, L, ad, cap, m, rfl, ⟨hk, hLl, hLb, hm⟩, rfl, rfl⟩
    have hLL : (L.map Rdg.row).length = k := by rw [List.length_map, hLl]
    by_cases hka : (k : Int) < a
    · repeat' (first | refine goH ?_ | refine goV ?_ | refine goB (fun b => ?_) | refine goC (fun ad cap => ?_) | refine goG ?_ | (refine Ops.k_guard ?_; first | (refine Ops.guard_dec rfl rfl (fun hc => ?_) (fun hc => ?_) <;> try (exfalso; omega)) | refine Ops.guard_split rfl rfl (fun hc => ?_) (fun hc => ?_)) | refine goI ?_ | (refine Cw.k_cond ?_; first | (refine Cw.cond_dec rfl (fun hc => ?_) (fun hc => ?_) <;> try (exfalso; omega)) | refine Cw.cond_bool rfl (fun hc => ?_) (fun hc => ?_)) | (refine Ops.k_calla ?_; first | (refine Ops.k_callf 38 ?_; (refine Ops.callG kG (Evs.cons rfl (Evs.cons rfl Evs.nil)) goPk (by omega) rfl ?_; rintro r ⟨d, rfl, hd⟩))) | refine goR ?_ | refine goP ?_ | apply PSeq.cons | apply PSeq.yes rfl rfl rfl | exact goW | fail)
      erw [rdgMap_snoc L d.t d.vs]
      have hLL2 : ((L ++ [(⟨d.t, d.vs⟩ : Rdg)]).map Rdg.row).length = k + 1 := by simp [hLl]
      rw [hLL2]
      exact ⟨_, _, _, (Ent.mk goSub goTk), ⟨k + 1, _, _, _, _, rfl, ⟨by omega, by simp [hLl], (fun r hr => by rcases List.mem_append.1 hr with h | h; exact hLb r h; rw [List.mem_singleton.1 h]; exact Nat.le_trans hd (by omega)), by omega⟩, rfl, rfl⟩, by omega⟩
    · repeat' (first | refine goH ?_ | refine goV ?_ | refine goB (fun b => ?_) | refine goC (fun ad cap => ?_) | refine goG ?_ | (refine Ops.k_guard ?_; first | (refine Ops.guard_dec rfl rfl (fun hc => ?_) (fun hc => ?_) <;> try (exfalso; omega)) | refine Ops.guard_split rfl rfl (fun hc => ?_) (fun hc => ?_)) | refine goI ?_ | (refine Cw.k_cond ?_; first | (refine Cw.cond_dec rfl (fun hc => ?_) (fun hc => ?_) <;> try (exfalso; omega)) | refine Cw.cond_bool rfl (fun hc => ?_) (fun hc => ?_)) | refine goR ?_ | refine goP ?_ | apply PSeq.cons | apply PSeq.yes rfl rfl rfl | exact goW | fail)
      rw [← hLL]
      refine Fin.ret (Ent.trans (Ent.settle (s := 4) rfl goPk rfl) (Ent.strm_only goPk (by omega))) (Outs.sole rfl goOe) ⟨rfl, L, rfl, by omega, hLb⟩
  · obtain ⟨⟨hc1, hc60⟩, ⟨ht1, ht2⟩, hf1, hf2⟩ := hok (by omega)
    clear hok kG k1
    rename_i x0 hx0
    obtain ⟨n, hn⟩ : ∃ n : Nat, c.toNat = n := ⟨_, rfl⟩
    have hnn : 1 ≤ n ∧ n ≤ 60 := by omega
    rw [show List.map Tr.raw [Value.int .i64 0] = [Tr.int 0] from rfl, hn, intRows_rep]
    refine Cw.loopI [(0, _), (3, _), (6, _), (38, _)] _ (fun q e cc => ∃ (k : Nat) (L : List Rdg) (ad8 : Option Addr) (cap8 m : Nat) (x : Int) (cs : List Int), q = 6 - k ∧ (k ≤ 6 ∧ L.length = k ∧ (∀ r ∈ L, RdB r) ∧ (intRows cs).length = n ∧ cs.length = n ∧ (∀ z ∈ cs, 0 ≤ z ∧ z < t) ∧ (0 ≤ x ∧ x ≤ 2000 + 4000 * k) ∧ m ≤ N + 10 + 100 * k) ∧ e = [(7, .int x), (8, Tr.raw (.slice ad8 k cap8)), (39, .int k)] ∧ cc = [Chunk.own ad cap 1 3 (intRows cs), Chunk.own ad8 cap8 2 77 (L.map Rdg.row), Chunk.strm 25 bs (intRows xs) m])
      ⟨_, _, _, Ent.trans (Ent.nil 2 77) (Ent.mkP goSub goPm), 0, [], none, 0, N + 1 + 1 + 1, x0, List.replicate n 0, rfl, ⟨by omega, rfl, by simp, by rw [intRows_len, List.length_replicate], List.length_replicate, by intro z hz; rw [List.eq_of_mem_replicate hz]; omega, by omega, by omega⟩, rfl, rfl⟩ ?_
    rintro _ _ _ ⟨k, L, ad8, cap8, m, x, cs, rfl, ⟨hk, hLl, hLb, hcl, hcn, hcb, hx, hm⟩, rfl, rfl⟩
    have hLL : (L.map Rdg.row).length = k := by rw [List.length_map, hLl]
    by_cases hka : (k : Int) < a
    · repeat' (first | refine goH ?_ | refine goV ?_ | refine goB (fun b => ?_) | refine goC (fun ad cap => ?_) | refine goG ?_ | (refine Ops.k_guard ?_; first | (refine Ops.guard_dec rfl rfl (fun hc => ?_) (fun hc => ?_) <;> try (exfalso; omega)) | refine Ops.guard_split rfl rfl (fun hc => ?_) (fun hc => ?_)) | refine goI ?_ | (refine Cw.k_cond ?_; first | (refine Cw.cond_dec rfl (fun hc => ?_) (fun hc => ?_) <;> try (exfalso; omega)) | refine Cw.cond_bool rfl (fun hc => ?_) (fun hc => ?_)) | refine goR ?_ | refine goP ?_ | apply PSeq.cons | apply PSeq.yes rfl rfl rfl | exact goW | fail)
      refine Cw.loopI [(0, _), (3, _), (6, _), (7, _), (8, _), (38, _), (39, _), (42, _)] _ (fun q e cc => ∃ (j : Nat) (cs : List Int) (m2 : Nat), q = n - j ∧ (j ≤ n ∧ (intRows cs).length = n ∧ cs.length = n ∧ (∀ z ∈ cs, 0 ≤ z ∧ z < t) ∧ m2 ≤ m + j) ∧ e = [(43, .int j)] ∧ cc = [Chunk.own ad cap 1 3 (intRows cs), Chunk.strm 25 bs (intRows xs) m2])
        ⟨_, _, _, (Ent.mkP goSub goPm), 0, cs, m, rfl, ⟨by omega, hcl, hcn, hcb, by omega⟩, rfl, rfl⟩ ?_
      clear hcl hcn hcb
      rintro _ _ _ ⟨j, cs, m2, rfl, ⟨hj, hcl, hcn, hcb, hm2⟩, rfl, rfl⟩
      by_cases hjn : j < n
      · obtain ⟨y, hy⟩ := at_lt (l := cs) (k := j) (by omega)
        have r1 := intRows_at hy
        have hyb := hcb y (List.mem_of_getElem? hy)
        repeat' (first | refine goH ?_ | refine goV ?_ | refine goB (fun b => ?_) | refine goC (fun ad cap => ?_) | refine goG ?_ | (refine Ops.k_guard ?_; first | (refine Ops.guard_dec rfl rfl (fun hc => ?_) (fun hc => ?_) <;> try (exfalso; omega)) | refine Ops.guard_split rfl rfl (fun hc => ?_) (fun hc => ?_)) | refine goI ?_ | (refine Cw.k_cond ?_; first | (refine Cw.cond_dec rfl (fun hc => ?_) (fun hc => ?_) <;> try (exfalso; omega)) | refine Cw.cond_bool rfl (fun hc => ?_) (fun hc => ?_)) | fail)
        first | refine Cw.region_YP (fun ξ S => Chunk.strm 25 bs (intRows xs) (m2 + b2n (S 13)) :: Chunk.own ad cap 1 3 (stg (S 19) (intRows cs) ((intRows cs).set ((j : Nat) : Int).toNat [.int ((y + vInt (ξ 13)).tmod t)])) :: Chunk.box b 35 [.int c, .int t, .int f] :: Chunk.own ad8 cap8 2 77 (L.map Rdg.row) :: []) rfl (by decide +kernel) rfl ((fun (ξ : Nat → Value) (S : Nat → Bool) => Chunk.strm 25 bs (intRows xs) (m2 + b2n (S 13)) :: Chunk.own ad cap 1 3 (stg (S 19) (intRows cs) ((intRows cs).set ((j : Nat) : Int).toNat [.int ((y + vInt (ξ 13)).tmod t)])) :: Chunk.box b 35 [.int c, .int t, .int f] :: Chunk.own ad8 cap8 2 77 (L.map Rdg.row) :: []) (fun _ => undef) (fun _ => false)) (by simp only [upd_same, updD_same, upd_ne, updD_ne, ne_eq, Nat.reduceEqDiff, not_false_eq_true, stg_t, stg_f, vAd_s, vCap_s, blk_p, List.cons_append, List.nil_append, b2n_t, b2n_f]; exact goXm) (fun _ => rfl) ?_ | fail
        apply YSeq.w (by intro _ _ _; rfl)
        · intro ξ S h1 h2 h3 h4
          have hN0_19 := closed_false h1 h3 (k := 19) rfl (by decide)
          try simp only [upd_same, updD_same, upd_ne, updD_ne, ne_eq, Nat.reduceEqDiff, not_false_eq_true, stg_t, stg_f, vAd_s, vCap_s, blk_p, List.cons_append, List.nil_append, b2n_t, b2n_f, hN0_19]
          exact goW
        · intro ξ v; rfl
        · intro ξ k v S h3 hn hk
          first
          | rfl
        apply YSeq.w (by intro _ _ _; rfl)
        · intro ξ S h1 h2 h3 h4
          have hN1_19 := closed_false h1 h3 (k := 19) rfl (by decide)
          try simp only [upd_same, updD_same, upd_ne, updD_ne, ne_eq, Nat.reduceEqDiff, not_false_eq_true, stg_t, stg_f, vAd_s, vCap_s, blk_p, List.cons_append, List.nil_append, b2n_t, b2n_f, hN1_19]
          exact goW
        · intro ξ v; rfl
        · intro ξ k v S h3 hn hk
          first
          | rfl
        apply YSeq.w (by intro _ _ _; rfl)
        · intro ξ S h1 h2 h3 h4
          have hN2_19 := closed_false h1 h3 (k := 19) rfl (by decide)
          try simp only [upd_same, updD_same, upd_ne, updD_ne, ne_eq, Nat.reduceEqDiff, not_false_eq_true, stg_t, stg_f, vAd_s, vCap_s, blk_p, List.cons_append, List.nil_append, b2n_t, b2n_f, hN2_19]
          exact goW
        · intro ξ v; rfl
        · intro ξ k v S h3 hn hk
          first
          | rfl
        apply YSeq.w (by intro _ _ _; rfl)
        · intro ξ S h1 h2 h3 h4
          have hN3_19 := closed_false h1 h3 (k := 19) rfl (by decide)
          try simp only [upd_same, updD_same, upd_ne, updD_ne, ne_eq, Nat.reduceEqDiff, not_false_eq_true, stg_t, stg_f, vAd_s, vCap_s, blk_p, List.cons_append, List.nil_append, b2n_t, b2n_f, hN3_19]
          exact goW
        · intro ξ v; rfl
        · intro ξ k v S h3 hn hk
          first
          | rfl
        apply YSeq.w (by intro _ _ _; rfl)
        · intro ξ S h1 h2 h3 h4
          have hN4_19 := closed_false h1 h3 (k := 19) rfl (by decide)
          try simp only [upd_same, updD_same, upd_ne, updD_ne, ne_eq, Nat.reduceEqDiff, not_false_eq_true, stg_t, stg_f, vAd_s, vCap_s, blk_p, List.cons_append, List.nil_append, b2n_t, b2n_f, hN4_19]
          exact goW
        · intro ξ v; rfl
        · intro ξ k v S h3 hn hk
          first
          | rfl
        apply YSeq.w (by intro _ _ _; rfl)
        · intro ξ S h1 h2 h3 h4
          have hN5_19 := closed_false h1 h3 (k := 19) rfl (by decide)
          try simp only [upd_same, updD_same, upd_ne, updD_ne, ne_eq, Nat.reduceEqDiff, not_false_eq_true, stg_t, stg_f, vAd_s, vCap_s, blk_p, List.cons_append, List.nil_append, b2n_t, b2n_f, hN5_19]
          exact goW
        · intro ξ v; rfl
        · intro ξ k v S h3 hn hk
          first
          | rfl
        apply YSeq.w (by intro _ _ _; rfl)
        · intro ξ S h1 h2 h3 h4
          have hN6_13 := closed_false h1 h3 (k := 13) rfl (by decide)
          have hN6_19 := closed_false h1 h3 (k := 19) rfl (by decide)
          try simp only [upd_same, updD_same, upd_ne, updD_ne, ne_eq, Nat.reduceEqDiff, not_false_eq_true, stg_t, stg_f, vAd_s, vCap_s, blk_p, List.cons_append, List.nil_append, b2n_t, b2n_f, hN6_13, hN6_19]
          exact goW
        · intro ξ v; rfl
        · intro ξ k v S h3 hn hk
          first
          | rfl
        apply YSeq.w (by intro _ _ _; rfl)
        · intro ξ S h1 h2 h3 h4
          have hN7_8 := closed_false h1 h3 (k := 8) rfl (by decide)
          have hN7_12 := closed_false hN7_8 h3 (k := 12) rfl (by decide)
          have hN7_13 := closed_false hN7_12 h3 (k := 13) rfl (by decide)
          have hN7_19 := closed_false h1 h3 (k := 19) rfl (by decide)
          try simp only [upd_same, updD_same, upd_ne, updD_ne, ne_eq, Nat.reduceEqDiff, not_false_eq_true, stg_t, stg_f, vAd_s, vCap_s, blk_p, List.cons_append, List.nil_append, b2n_t, b2n_f, hN7_13, hN7_19]
          exact goW
        · intro ξ v; rfl
        · intro ξ k v S h3 hn hk
          first
          | rfl
        apply YSeq.w (by intro _ _ _; rfl)
        · intro ξ S h1 h2 h3 h4
          have hN8_12 := closed_false h1 h3 (k := 12) rfl (by decide)
          have hN8_13 := closed_false hN8_12 h3 (k := 13) rfl (by decide)
          have hN8_19 := closed_false h1 h3 (k := 19) rfl (by decide)
          try simp only [upd_same, updD_same, upd_ne, updD_ne, ne_eq, Nat.reduceEqDiff, not_false_eq_true, stg_t, stg_f, vAd_s, vCap_s, blk_p, List.cons_append, List.nil_append, b2n_t, b2n_f, hN8_13, hN8_19]
          exact goW
        · intro ξ v; rfl
        · intro ξ k v S h3 hn hk
          first
          | rfl
        apply YSeq.w (by intro _ _ _; rfl)
        · intro ξ S h1 h2 h3 h4
          have hN9_10 := closed_false h1 h3 (k := 10) rfl (by decide)
          have hN9_11 := closed_false hN9_10 h3 (k := 11) rfl (by decide)
          have hN9_12 := closed_false hN9_11 h3 (k := 12) rfl (by decide)
          have hN9_13 := closed_false hN9_12 h3 (k := 13) rfl (by decide)
          have hN9_19 := closed_false h1 h3 (k := 19) rfl (by decide)
          try simp only [upd_same, updD_same, upd_ne, updD_ne, ne_eq, Nat.reduceEqDiff, not_false_eq_true, stg_t, stg_f, vAd_s, vCap_s, blk_p, List.cons_append, List.nil_append, b2n_t, b2n_f, hN9_13, hN9_19]
          exact goW
        · intro ξ v; rfl
        · intro ξ k v S h3 hn hk
          first
          | rfl
        apply YSeq.w (by intro _ _ _; rfl)
        · intro ξ S h1 h2 h3 h4
          have hN10_11 := closed_false h1 h3 (k := 11) rfl (by decide)
          have hN10_12 := closed_false hN10_11 h3 (k := 12) rfl (by decide)
          have hN10_13 := closed_false hN10_12 h3 (k := 13) rfl (by decide)
          have hN10_19 := closed_false h1 h3 (k := 19) rfl (by decide)
          try simp only [upd_same, updD_same, upd_ne, updD_ne, ne_eq, Nat.reduceEqDiff, not_false_eq_true, stg_t, stg_f, vAd_s, vCap_s, blk_p, List.cons_append, List.nil_append, b2n_t, b2n_f, hN10_13, hN10_19]
          exact goW
        · intro ξ v; rfl
        · intro ξ k v S h3 hn hk
          first
          | rfl
        apply YSeq.w (by intro _ _ _; rfl)
        · intro ξ S h1 h2 h3 h4
          have hN11_12 := closed_false h1 h3 (k := 12) rfl (by decide)
          have hN11_13 := closed_false hN11_12 h3 (k := 13) rfl (by decide)
          have hN11_19 := closed_false h1 h3 (k := 19) rfl (by decide)
          try simp only [upd_same, updD_same, upd_ne, updD_ne, ne_eq, Nat.reduceEqDiff, not_false_eq_true, stg_t, stg_f, vAd_s, vCap_s, blk_p, List.cons_append, List.nil_append, b2n_t, b2n_f, hN11_13, hN11_19]
          exact goW
        · intro ξ v; rfl
        · intro ξ k v S h3 hn hk
          first
          | rfl
        apply YSeq.w (by intro _ _ _; rfl)
        · intro ξ S h1 h2 h3 h4
          have hN12_13 := closed_false h1 h3 (k := 13) rfl (by decide)
          have hN12_19 := closed_false h1 h3 (k := 19) rfl (by decide)
          try simp only [upd_same, updD_same, upd_ne, updD_ne, ne_eq, Nat.reduceEqDiff, not_false_eq_true, stg_t, stg_f, vAd_s, vCap_s, blk_p, List.cons_append, List.nil_append, b2n_t, b2n_f, hN12_13, hN12_19]
          exact goW
        · intro ξ v; rfl
        · intro ξ k v S h3 hn hk
          first
          | rfl
        apply YSeq.callI (pick_gen (l := [0, 1, 3, f, 2 * f, 40]) (by repeat' (first | exact IsInts.nil | apply IsInts.cons)) (by simp)) (fun _ => (Evs.cons rfl (Evs.cons rfl Evs.nil)))
        · intro ξ S h1 h3
          have hN13_19 := closed_false h1 h3 (k := 19) rfl (by decide)
          have hq13 := b2n_le (S 13)
          simp only [upd_same, updD_same, upd_ne, updD_ne, ne_eq, Nat.reduceEqDiff, not_false_eq_true, stg_t, stg_f, vAd_s, vCap_s, blk_p, List.cons_append, List.nil_append, b2n_t, b2n_f, h1, hN13_19]
          refine ⟨_, _, ?_, goXp, fun v => ?_⟩
          · omega
          · refine List.Perm.trans goXp (perm_strm ?_)
            omega
        apply YSeq.w (by intro _ _ _; rfl)
        · intro ξ S h1 h2 h3 h4
          have hY14_13 : S 13 = true := h2 13 (by decide)
          have hN14_19 := closed_false h1 h3 (k := 19) rfl (by decide)
          have hR59 := pf_int (pick_gen (l := [0, 1, 3, f, 2 * f, 40]) (by repeat' (first | exact IsInts.nil | apply IsInts.cons)) (by simp)) (h4 13 hY14_13)
          try simp only [InRange] at hR59
          have hRn59 := hR59
          try simp only [Nat.zero_add, Nat.reduceAdd] at hRn59
          have hq : 0 ≤ vInt (ξ 13) ∧ vInt (ξ 13) ≤ 2000000 := (by have h := hR59; simp at h; omega)
          try simp only [upd_same, updD_same, upd_ne, updD_ne, ne_eq, Nat.reduceEqDiff, not_false_eq_true, stg_t, stg_f, vAd_s, vCap_s, blk_p, List.cons_append, List.nil_append, b2n_t, b2n_f, hY14_13, hN14_19]
          exact goW
        · intro ξ v; rfl
        · intro ξ k v S h3 hn hk
          first
          | rfl
          | skip
            have hY14_13 : S 13 = true := h3 14 _ rfl hn 13 (by decide)
            simp only [upd_S hY14_13 hk]
        apply YSeq.w (by intro _ _ _; rfl)
        · intro ξ S h1 h2 h3 h4
          have hN15_19 := closed_false h1 h3 (k := 19) rfl (by decide)
          try simp only [upd_same, updD_same, upd_ne, updD_ne, ne_eq, Nat.reduceEqDiff, not_false_eq_true, stg_t, stg_f, vAd_s, vCap_s, blk_p, List.cons_append, List.nil_append, b2n_t, b2n_f, hN15_19]
          exact goW
        · intro ξ v; rfl
        · intro ξ k v S h3 hn hk
          first
          | rfl
        apply YSeq.w (by intro _ _ _; rfl)
        · intro ξ S h1 h2 h3 h4
          have hN16_19 := closed_false h1 h3 (k := 19) rfl (by decide)
          try simp only [upd_same, updD_same, upd_ne, updD_ne, ne_eq, Nat.reduceEqDiff, not_false_eq_true, stg_t, stg_f, vAd_s, vCap_s, blk_p, List.cons_append, List.nil_append, b2n_t, b2n_f, hN16_19]
          exact goW
        · intro ξ v; rfl
        · intro ξ k v S h3 hn hk
          first
          | rfl
        apply YSeq.w (by intro _ _ _; rfl)
        · intro ξ S h1 h2 h3 h4
          have hY17_14 : S 14 = true := h2 14 (by decide)
          have hY17_13 : S 13 = true := h3 14 _ rfl hY17_14 13 (by decide)
          have hN17_19 := closed_false h1 h3 (k := 19) rfl (by decide)
          have hR59 := pf_int (pick_gen (l := [0, 1, 3, f, 2 * f, 40]) (by repeat' (first | exact IsInts.nil | apply IsInts.cons)) (by simp)) (h4 13 hY17_13)
          try simp only [InRange] at hR59
          have hRn59 := hR59
          try simp only [Nat.zero_add, Nat.reduceAdd] at hRn59
          have hq : 0 ≤ vInt (ξ 13) ∧ vInt (ξ 13) ≤ 2000000 := (by have h := hR59; simp at h; omega)
          try simp only [upd_same, updD_same, upd_ne, updD_ne, ne_eq, Nat.reduceEqDiff, not_false_eq_true, stg_t, stg_f, vAd_s, vCap_s, blk_p, List.cons_append, List.nil_append, b2n_t, b2n_f, hY17_13, hN17_19]
          exact goW
        · intro ξ v; rfl
        · intro ξ k v S h3 hn hk
          first
          | rfl
          | skip
            have hY17_14 : S 14 = true := h3 17 _ rfl hn 14 (by decide)
            have hY17_13 : S 13 = true := h3 14 _ rfl hY17_14 13 (by decide)
            simp only [upd_S hY17_13 hk]
        apply YSeq.w (by intro _ _ _; rfl)
        · intro ξ S h1 h2 h3 h4
          have hY18_13 : S 13 = true := h2 13 (by decide)
          have hN18_19 := closed_false h1 h3 (k := 19) rfl (by decide)
          have hR59 := pf_int (pick_gen (l := [0, 1, 3, f, 2 * f, 40]) (by repeat' (first | exact IsInts.nil | apply IsInts.cons)) (by simp)) (h4 13 hY18_13)
          try simp only [InRange] at hR59
          have hRn59 := hR59
          try simp only [Nat.zero_add, Nat.reduceAdd] at hRn59
          try simp only [upd_same, updD_same, upd_ne, updD_ne, ne_eq, Nat.reduceEqDiff, not_false_eq_true, stg_t, stg_f, vAd_s, vCap_s, blk_p, List.cons_append, List.nil_append, b2n_t, b2n_f, hY18_13, hN18_19]
          exact goW
        · intro ξ v; rfl
        · intro ξ k v S h3 hn hk
          first
          | rfl
          | skip
            have hY18_13 : S 13 = true := h3 18 _ rfl hn 13 (by decide)
            simp only [upd_S hY18_13 hk]
        apply YSeq.storeO
        · intro ξ S h1 h2 h3 h4
          have hY19_13 : S 13 = true := h2 13 (by decide)
          have hR59 := pf_int (pick_gen (l := [0, 1, 3, f, 2 * f, 40]) (by repeat' (first | exact IsInts.nil | apply IsInts.cons)) (by simp)) (h4 13 hY19_13)
          try simp only [InRange] at hR59
          have hRn59 := hR59
          try simp only [Nat.zero_add, Nat.reduceAdd] at hRn59
          simp only [upd_same, updD_same, upd_ne, updD_ne, ne_eq, Nat.reduceEqDiff, not_false_eq_true, stg_t, stg_f, vAd_s, vCap_s, blk_p, List.cons_append, List.nil_append, b2n_t, b2n_f, hY19_13, h1]
          refine ⟨_, _, _, _, _, _, _, _, _, _, rfl, rfl, inferInstance, goXp, (by first | rfl | assumption | (simp [*]; done)), (by decide), ?_⟩
          exact goXm
        refine YSeq.nil fun ξ hf => ?_
        have hR59 := pf_int (pick_gen (l := [0, 1, 3, f, 2 * f, 40]) (by repeat' (first | exact IsInts.nil | apply IsInts.cons)) (by simp)) (hf 13)
        try simp only [InRange] at hR59
        refine ⟨[(0, _), (3, _), (6, _), (7, _), (8, _), (38, _), (39, _), (42, _), (43, _)], _, Ent.trans (Ent.eqc rfl (by first | (simp only [upd_same, updD_same, upd_ne, updD_ne, ne_eq, Nat.reduceEqDiff, not_false_eq_true, stg_t, stg_f, vAd_s, vCap_s, blk_p, List.cons_append, List.nil_append, b2n_t, b2n_f, ownV, slV, ptV] <;> rfl) | rfl)) (Ent.sub goSub), ?_⟩
        clear hf
        generalize vInt (ξ 13) = x59 at hR59 ⊢
        have hx0 : 0 ≤ y + x59 := by simp at hR59; omega
        rw [Int.toNat_natCast, int_set, Int.tmod_eq_emod_of_nonneg hx0]
        have hl2 : (cs.set j ((y + x59) % t)).length = n := by simp [hcn]
        have hb2 : ∀ z ∈ cs.set j ((y + x59) % t), 0 ≤ z ∧ z < t := by
          intro z hz
          rcases List.mem_or_eq_of_mem_set hz with h | h
          · exact hcb z h
          · rw [h]
            exact ⟨Int.emod_nonneg _ (by omega), Int.emod_lt_of_pos _ (by omega)⟩
        repeat' (first | refine goH ?_ | refine goV ?_ | refine goB (fun b => ?_) | refine goC (fun ad cap => ?_) | refine goG ?_ | (refine Ops.k_guard ?_; first | (refine Ops.guard_dec rfl rfl (fun hc => ?_) (fun hc => ?_) <;> try (exfalso; omega)) | refine Ops.guard_split rfl rfl (fun hc => ?_) (fun hc => ?_)) | refine goI ?_ | (refine Cw.k_cond ?_; first | (refine Cw.cond_dec rfl (fun hc => ?_) (fun hc => ?_) <;> try (exfalso; omega)) | refine Cw.cond_bool rfl (fun hc => ?_) (fun hc => ?_)) | refine goR ?_ | refine goP ?_ | apply PSeq.cons | apply PSeq.yes rfl rfl rfl | exact goW | fail)
        exact ⟨_, _, _, (Ent.mk goSub goTk), ⟨j + 1, _, _, rfl, ⟨by omega, by rw [intRows_len]; exact hl2, hl2, hb2, by omega⟩, rfl, rfl⟩, by omega⟩
      · repeat' (first | refine goH ?_ | ((fail_if_success refine Ops.k_c_call ?_); refine goV ?_) | ((fail_if_success refine Ops.k_c_call ?_); refine goB (fun b => ?_)) | ((fail_if_success refine Ops.k_c_call ?_); refine goC (fun ad cap => ?_)) | refine goG ?_ | (refine Ops.k_guard ?_; first | (refine Ops.guard_dec rfl rfl (fun hc => ?_) (fun hc => ?_) <;> try (exfalso; omega)) | refine Ops.guard_split rfl rfl (fun hc => ?_) (fun hc => ?_)) | refine goI ?_ | (refine Cw.k_cond ?_; first | (refine Cw.cond_dec rfl (fun hc => ?_) (fun hc => ?_) <;> try (exfalso; omega)) | refine Cw.cond_bool rfl (fun hc => ?_) (fun hc => ?_)) | (refine Ops.k_calla ?_; first | (refine Ops.k_callf 27 ?_; (refine Ops.callG (flip_gen _ (by omega)) (Evs.cons rfl (Evs.cons rfl Evs.nil)) goPk (by omega) rfl ?_; rintro r ⟨u, rfl⟩)) | (refine Ops.k_callf 26 ?_; (refine Ops.callG (next_gen _ (by omega)) (Evs.cons rfl (Evs.cons rfl Evs.nil)) goPk (by omega) rfl ?_; rintro r ⟨v, rfl, hv⟩; unfold InRange at hv; obtain ⟨y, hy⟩ := at_lt (l := cs) (k := v.toNat) (by omega); have r1 := intRows_at hy))) | refine goR ?_ | refine goP ?_ | apply PSeq.cons | apply PSeq.yes rfl rfl rfl | exact goW | fail)
        · erw [int_set]
          obtain ⟨C, hC⟩ : ∃ C, C = cs.set v.toNat 0 := ⟨_, rfl⟩
          have hCn : C.length = n := by rw [hC, List.length_set]; exact hcn
          have hCr : (intRows C).length = n := (intRows_len C).trans hCn
          have hCb : ∀ z ∈ C, 0 ≤ z ∧ z < t := by
            intro z hz
            rw [hC] at hz
            rcases List.mem_or_eq_of_mem_set hz with h | h
            · exact hcb z h
            · rw [h]; omega
          rw [← hC]
          clear hC hcl hcn hcb r1 hy hv
          have kC := cloneO_int (ad := ad) (cap := cap) (intRows C) (intRows_k _) hCr.symm (by omega)
          repeat' (first | refine goH ?_ | refine goV ?_ | refine goB (fun b => ?_) | refine goC (fun ad cap => ?_) | refine goG ?_ | (refine Ops.k_guard ?_; first | (refine Ops.guard_dec rfl rfl (fun hc => ?_) (fun hc => ?_) <;> try (exfalso; omega)) | refine Ops.guard_split rfl rfl (fun hc => ?_) (fun hc => ?_)) | refine goI ?_ | (refine Cw.k_cond ?_; first | (refine Cw.cond_dec rfl (fun hc => ?_) (fun hc => ?_) <;> try (exfalso; omega)) | refine Cw.cond_bool rfl (fun hc => ?_) (fun hc => ?_)) | (refine Ops.k_calla ?_; first | (refine Ops.k_callf 39 ?_; (refine Ops.call kC (Evs.cons rfl Evs.nil) goPm rfl ?_; rintro r cs' ⟨rfl, rfl⟩)) | (refine Ops.k_callf 4 ?_; (refine Ops.callG (pick_gen (by repeat' (first | exact IsInts.nil | apply IsInts.cons)) (by simp)) (Evs.cons rfl (Evs.cons rfl Evs.nil)) goPk (by omega) rfl ?_; rintro r ⟨d, rfl, hd⟩; have hdb : 0 ≤ d ∧ d ≤ 4000 := (by simp at hd; omega); clear hd))) | refine goR ?_ | refine goP ?_ | apply PSeq.cons | apply PSeq.yes rfl rfl rfl | exact goW | fail)
          erw [rdgMap_snoc L x C]
          have hLL2 : ((L ++ [(⟨x, C⟩ : Rdg)]).map Rdg.row).length = k + 1 := by simp [hLl]
          rw [hLL2]
          exact ⟨_, _, _, (Ent.mk goSub goTk), ⟨k + 1, L ++ [(⟨x, C⟩ : Rdg)], _, _, _, _, C, rfl, ⟨by omega, by simp [hLl], (fun r hr => by rcases List.mem_append.1 hr with h | h; exact hLb r h; rw [List.mem_singleton.1 h]; exact (show C.length ≤ 1000 by omega)), hCr, hCn, hCb, by omega, by omega⟩, rfl, rfl⟩, by omega⟩
        · have kC := cloneO_int (ad := ad) (cap := cap) (intRows cs) (intRows_k _) hcl.symm (by omega)
          repeat' (first | refine goH ?_ | refine goV ?_ | refine goB (fun b => ?_) | refine goC (fun ad cap => ?_) | refine goG ?_ | (refine Ops.k_guard ?_; first | (refine Ops.guard_dec rfl rfl (fun hc => ?_) (fun hc => ?_) <;> try (exfalso; omega)) | refine Ops.guard_split rfl rfl (fun hc => ?_) (fun hc => ?_)) | refine goI ?_ | (refine Cw.k_cond ?_; first | (refine Cw.cond_dec rfl (fun hc => ?_) (fun hc => ?_) <;> try (exfalso; omega)) | refine Cw.cond_bool rfl (fun hc => ?_) (fun hc => ?_)) | (refine Ops.k_calla ?_; first | (refine Ops.k_callf 39 ?_; (refine Ops.call kC (Evs.cons rfl Evs.nil) goPm rfl ?_; rintro r cs' ⟨rfl, rfl⟩)) | (refine Ops.k_callf 4 ?_; (refine Ops.callG (pick_gen (by repeat' (first | exact IsInts.nil | apply IsInts.cons)) (by simp)) (Evs.cons rfl (Evs.cons rfl Evs.nil)) goPk (by omega) rfl ?_; rintro r ⟨d, rfl, hd⟩; have hdb : 0 ≤ d ∧ d ≤ 4000 := (by simp at hd; omega); clear hd))) | refine goR ?_ | refine goP ?_ | apply PSeq.cons | apply PSeq.yes rfl rfl rfl | exact goW | fail)
          erw [rdgMap_snoc L x cs]
          have hLL2 : ((L ++ [(⟨x, cs⟩ : Rdg)]).map Rdg.row).length = k + 1 := by simp [hLl]
          rw [hLL2]
          exact ⟨_, _, _, (Ent.mk goSub goTk), ⟨k + 1, L ++ [(⟨x, cs⟩ : Rdg)], _, _, _, _, cs, rfl, ⟨by omega, by simp [hLl], (fun r hr => by rcases List.mem_append.1 hr with h | h; exact hLb r h; rw [List.mem_singleton.1 h]; exact (show cs.length ≤ 1000 by omega)), hcl, hcn, hcb, by omega, by omega⟩, rfl, rfl⟩, by omega⟩
    · clear hcl hcn hcb
      repeat' (first | refine goH ?_ | ((fail_if_success refine Ops.k_c_append ?_); refine goV ?_) | ((fail_if_success refine Ops.k_c_append ?_); refine goB (fun b => ?_)) | ((fail_if_success refine Ops.k_c_append ?_); refine goC (fun ad cap => ?_)) | refine goG ?_ | (refine Ops.k_guard ?_; first | (refine Ops.guard_dec rfl rfl (fun hc => ?_) (fun hc => ?_) <;> try (exfalso; omega)) | refine Ops.guard_split rfl rfl (fun hc => ?_) (fun hc => ?_)) | refine goI ?_ | (refine Cw.k_cond ?_; first | (refine Cw.cond_dec rfl (fun hc => ?_) (fun hc => ?_) <;> try (exfalso; omega)) | refine Cw.cond_bool rfl (fun hc => ?_) (fun hc => ?_)) | (refine Ops.k_calla ?_; first | (refine Ops.k_callf 27 ?_; (refine Ops.callG (flip_gen _ (by omega)) (Evs.cons rfl (Evs.cons rfl Evs.nil)) goPk (by omega) rfl ?_; rintro r ⟨u2, rfl⟩)) | (refine Ops.k_callf 26 ?_; (refine Ops.callG (next_gen _ (by omega)) (Evs.cons rfl (Evs.cons rfl Evs.nil)) goPk (by omega) rfl ?_; rintro r ⟨v, rfl, hv⟩; unfold InRange at hv; obtain ⟨y, hy⟩ := at_lt (l := L) (k := v.toNat) (by omega); have r1 : (L.map Rdg.row)[v.toNat]? = some [.int y.t, .ints y.vs] := rows_at hy))) | refine goR ?_ | refine goP ?_ | apply PSeq.cons | apply PSeq.yes rfl rfl rfl | exact goW | fail)
      · repeat' (first | refine goH ?_ | refine goV ?_ | refine goB (fun b => ?_) | refine goC (fun ad cap => ?_) | refine goG ?_ | (refine Ops.k_guard ?_; first | (refine Ops.guard_dec rfl rfl (fun hc => ?_) (fun hc => ?_) <;> try (exfalso; omega)) | refine Ops.guard_split rfl rfl (fun hc => ?_) (fun hc => ?_)) | refine goI ?_ | (refine Cw.k_cond ?_; first | (refine Cw.cond_dec rfl (fun hc => ?_) (fun hc => ?_) <;> try (exfalso; omega)) | refine Cw.cond_bool rfl (fun hc => ?_) (fun hc => ?_)) | refine goP ?_ | apply PSeq.cons | apply PSeq.yes rfl rfl rfl | exact goW | fail)
        erw [rdgMap_snoc L y.t y.vs]
        have hyb := hLb y (List.mem_of_getElem? hy)
        obtain ⟨L2, hL2⟩ : ∃ L2, L2 = L ++ [(⟨y.t, y.vs⟩ : Rdg)] := ⟨_, rfl⟩
        have hL2b : ∀ r ∈ L2, RdB r := fun r hr => by
          rw [hL2] at hr
          rcases List.mem_append.1 hr with h | h
          · exact hLb r h
          · rw [List.mem_singleton.1 h]; exact hyb
        have hLL2 : (L2.map Rdg.row).length = k + 1 := by rw [hL2]; simp [hLl]
        rw [← hL2, hLL2]
        have kO := order_gen (k + 1) (by omega)
        clear hL2 r1 hy
        repeat' (first | refine goH ?_ | refine goV ?_ | refine goB (fun b => ?_) | refine goC (fun ad cap => ?_) | refine goG ?_ | (refine Ops.k_guard ?_; first | (refine Ops.guard_dec rfl rfl (fun hc => ?_) (fun hc => ?_) <;> try (exfalso; omega)) | refine Ops.guard_split rfl rfl (fun hc => ?_) (fun hc => ?_)) | refine goI ?_ | (refine Cw.k_cond ?_; first | (refine Cw.cond_dec rfl (fun hc => ?_) (fun hc => ?_) <;> try (exfalso; omega)) | refine Cw.cond_bool rfl (fun hc => ?_) (fun hc => ?_)) | (refine Ops.k_calla ?_; first | (refine Ops.k_callf 40 ?_; (refine Ops.callG kO (Evs.cons rfl (Evs.cons rfl Evs.nil)) goPk (by omega) rfl ?_; rintro r ⟨O, rfl, hO, hOb⟩))) | refine goR ?_ | refine goP ?_ | apply PSeq.cons | apply PSeq.yes rfl rfl rfl | exact goW | fail)
        have hLr : (L2.map Rdg.row).length = (k + 1) := hLL2
        have hLl3 : L2.length = (k + 1) := by rw [← hLr, List.length_map]
        refine Cw.loopI [(8, _), (107, _), (108, _)] _ (fun q e cc => ∃ (i : Nat) (M : List Rdg) (ad2 : Option Addr) (cap2 : Nat), q = (k + 1) - i ∧ (i ≤ (k + 1) ∧ M.length = i ∧ ∀ r ∈ M, RdB r) ∧ e = [(10, Tr.raw (.slice ad2 i cap2)), (109, .int i)] ∧ cc = [Chunk.own ad2 cap2 2 77 (M.map Rdg.row)])
          ⟨_, _, _, Ent.trans (Ent.nil 2 77) (Ent.mkP goSub goPm), 0, [], none, 0, rfl, ⟨by omega, rfl, by simp⟩, rfl, rfl⟩ ?_
        rintro _ _ _ ⟨i, M, ad2, cap2, rfl, ⟨hi, hMl, hMb⟩, rfl, rfl⟩
        have hMM : (M.map Rdg.row).length = i := by rw [List.length_map, hMl]
        by_cases hin : i < (k + 1)
        · obtain ⟨o, ho⟩ := at_lt (l := O) (k := i) (by omega)
          have hob := hOb o (List.mem_of_getElem? ho)
          have r3 := intRows_at ho
          obtain ⟨d, hd⟩ := at_lt (l := L2) (k := o.toNat) (by omega)
          have hdb := hL2b d (List.mem_of_getElem? hd)
          have r2 : (L2.map Rdg.row)[o.toNat]? = some [.int d.t, .ints d.vs] := rows_at hd
          have hOr := intRows_len O
          clear ho
          repeat' (first | refine goH ?_ | refine goV ?_ | refine goB (fun b => ?_) | refine goC (fun ad cap => ?_) | refine goG ?_ | (refine Ops.k_guard ?_; first | (refine Ops.guard_dec rfl rfl (fun hc => ?_) (fun hc => ?_) <;> try (exfalso; omega)) | refine Ops.guard_split rfl rfl (fun hc => ?_) (fun hc => ?_)) | refine goI ?_ | (refine Cw.k_cond ?_; first | (refine Cw.cond_dec rfl (fun hc => ?_) (fun hc => ?_) <;> try (exfalso; omega)) | refine Cw.cond_bool rfl (fun hc => ?_) (fun hc => ?_)) | refine goR ?_ | refine goP ?_ | apply PSeq.cons | apply PSeq.yes rfl rfl rfl | exact goW | fail)
          erw [rdgMap_snoc M d.t d.vs]
          have hMM2 : ((M ++ [(⟨d.t, d.vs⟩ : Rdg)]).map Rdg.row).length = i + 1 := by simp [hMl]
          rw [hMM2]
          exact ⟨_, _, _, (Ent.mk goSub goTk), ⟨i + 1, _, _, _, rfl, ⟨by omega, by simp [hMl], (fun r hr => by rcases List.mem_append.1 hr with h | h; exact hMb r h; rw [List.mem_singleton.1 h]; exact hdb)⟩, rfl, rfl⟩, by omega⟩
        · have hOr := intRows_len O
          repeat' (first | refine goH ?_ | refine goV ?_ | refine goB (fun b => ?_) | refine goC (fun ad cap => ?_) | refine goG ?_ | (refine Ops.k_guard ?_; first | (refine Ops.guard_dec rfl rfl (fun hc => ?_) (fun hc => ?_) <;> try (exfalso; omega)) | refine Ops.guard_split rfl rfl (fun hc => ?_) (fun hc => ?_)) | refine goI ?_ | (refine Cw.k_cond ?_; first | (refine Cw.cond_dec rfl (fun hc => ?_) (fun hc => ?_) <;> try (exfalso; omega)) | refine Cw.cond_bool rfl (fun hc => ?_) (fun hc => ?_)) | refine goR ?_ | refine goP ?_ | apply PSeq.cons | apply PSeq.yes rfl rfl rfl | exact goW | fail)
          rw [← hMM]
          refine Fin.ret (Ent.trans (Ent.settle (s := 4) rfl goPk rfl) (Ent.strm_only goPk (by omega))) (Outs.sole rfl goOe) ⟨rfl, M, rfl, by omega, hMb⟩
      · have kO := order_gen k (by omega)
        repeat' (first | refine goH ?_ | refine goV ?_ | refine goB (fun b => ?_) | refine goC (fun ad cap => ?_) | refine goG ?_ | (refine Ops.k_guard ?_; first | (refine Ops.guard_dec rfl rfl (fun hc => ?_) (fun hc => ?_) <;> try (exfalso; omega)) | refine Ops.guard_split rfl rfl (fun hc => ?_) (fun hc => ?_)) | refine goI ?_ | (refine Cw.k_cond ?_; first | (refine Cw.cond_dec rfl (fun hc => ?_) (fun hc => ?_) <;> try (exfalso; omega)) | refine Cw.cond_bool rfl (fun hc => ?_) (fun hc => ?_)) | (refine Ops.k_calla ?_; first | (refine Ops.k_callf 40 ?_; (refine Ops.callG kO (Evs.cons rfl (Evs.cons rfl Evs.nil)) goPk (by omega) rfl ?_; rintro r ⟨O, rfl, hO, hOb⟩))) | refine goR ?_ | refine goP ?_ | apply PSeq.cons | apply PSeq.yes rfl rfl rfl | exact goW | fail)
        have hLr : (L.map Rdg.row).length = k := hLL
        have hLl3 : L.length = k := by rw [← hLr, List.length_map]
        refine Cw.loopI [(8, _), (107, _), (108, _)] _ (fun q e cc => ∃ (i : Nat) (M : List Rdg) (ad2 : Option Addr) (cap2 : Nat), q = k - i ∧ (i ≤ k ∧ M.length = i ∧ ∀ r ∈ M, RdB r) ∧ e = [(10, Tr.raw (.slice ad2 i cap2)), (109, .int i)] ∧ cc = [Chunk.own ad2 cap2 2 77 (M.map Rdg.row)])
          ⟨_, _, _, Ent.trans (Ent.nil 2 77) (Ent.mkP goSub goPm), 0, [], none, 0, rfl, ⟨by omega, rfl, by simp⟩, rfl, rfl⟩ ?_
        rintro _ _ _ ⟨i, M, ad2, cap2, rfl, ⟨hi, hMl, hMb⟩, rfl, rfl⟩
        have hMM : (M.map Rdg.row).length = i := by rw [List.length_map, hMl]
        by_cases hin : i < k
        · exfalso; omega
        · have hOr := intRows_len O
          repeat' (first | refine goH ?_ | refine goV ?_ | refine goB (fun b => ?_) | refine goC (fun ad cap => ?_) | refine goG ?_ | (refine Ops.k_guard ?_; first | (refine Ops.guard_dec rfl rfl (fun hc => ?_) (fun hc => ?_) <;> try (exfalso; omega)) | refine Ops.guard_split rfl rfl (fun hc => ?_) (fun hc => ?_)) | refine goI ?_ | (refine Cw.k_cond ?_; first | (refine Cw.cond_dec rfl (fun hc => ?_) (fun hc => ?_) <;> try (exfalso; omega)) | refine Cw.cond_bool rfl (fun hc => ?_) (fun hc => ?_)) | refine goR ?_ | refine goP ?_ | apply PSeq.cons | apply PSeq.yes rfl rfl rfl | exact goW | fail)
          rw [← hMM]
          refine Fin.ret (Ent.trans (Ent.settle (s := 4) rfl goPk rfl) (Ent.strm_only goPk (by omega))) (Outs.sole rfl goOe) ⟨rfl, M, rfl, by omega, hMb⟩
      · have kO := order_gen k (by omega)
        repeat' (first | refine goH ?_ | refine goV ?_ | refine goB (fun b => ?_) | refine goC (fun ad cap => ?_) | refine goG ?_ | (refine Ops.k_guard ?_; first | (refine Ops.guard_dec rfl rfl (fun hc => ?_) (fun hc => ?_) <;> try (exfalso; omega)) | refine Ops.guard_split rfl rfl (fun hc => ?_) (fun hc => ?_)) | refine goI ?_ | (refine Cw.k_cond ?_; first | (refine Cw.cond_dec rfl (fun hc => ?_) (fun hc => ?_) <;> try (exfalso; omega)) | refine Cw.cond_bool rfl (fun hc => ?_) (fun hc => ?_)) | (refine Ops.k_calla ?_; first | (refine Ops.k_callf 40 ?_; (refine Ops.callG kO (Evs.cons rfl (Evs.cons rfl Evs.nil)) goPk (by omega) rfl ?_; rintro r ⟨O, rfl, hO, hOb⟩))) | refine goR ?_ | refine goP ?_ | apply PSeq.cons | apply PSeq.yes rfl rfl rfl | exact goW | fail)
        have hLr : (L.map Rdg.row).length = k := hLL
        have hLl3 : L.length = k := by rw [← hLr, List.length_map]
        refine Cw.loopI [(8, _), (107, _), (108, _)] _ (fun q e cc => ∃ (i : Nat) (M : List Rdg) (ad2 : Option Addr) (cap2 : Nat), q = k - i ∧ (i ≤ k ∧ M.length = i ∧ ∀ r ∈ M, RdB r) ∧ e = [(10, Tr.raw (.slice ad2 i cap2)), (109, .int i)] ∧ cc = [Chunk.own ad2 cap2 2 77 (M.map Rdg.row)])
          ⟨_, _, _, Ent.trans (Ent.nil 2 77) (Ent.mkP goSub goPm), 0, [], none, 0, rfl, ⟨by omega, rfl, by simp⟩, rfl, rfl⟩ ?_
        rintro _ _ _ ⟨i, M, ad2, cap2, rfl, ⟨hi, hMl, hMb⟩, rfl, rfl⟩
        have hMM : (M.map Rdg.row).length = i := by rw [List.length_map, hMl]
        by_cases hin : i < k
        · obtain ⟨o, ho⟩ := at_lt (l := O) (k := i) (by omega)
          have hob := hOb o (List.mem_of_getElem? ho)
          have r3 := intRows_at ho
          obtain ⟨d, hd⟩ := at_lt (l := L) (k := o.toNat) (by omega)
          have hdb := hLb d (List.mem_of_getElem? hd)
          have r2 : (L.map Rdg.row)[o.toNat]? = some [.int d.t, .ints d.vs] := rows_at hd
          have hOr := intRows_len O
          clear ho
          repeat' (first | refine goH ?_ | refine goV ?_ | refine goB (fun b => ?_) | refine goC (fun ad cap => ?_) | refine goG ?_ | (refine Ops.k_guard ?_; first | (refine Ops.guard_dec rfl rfl (fun hc => ?_) (fun hc => ?_) <;> try (exfalso; omega)) | refine Ops.guard_split rfl rfl (fun hc => ?_) (fun hc => ?_)) | refine goI ?_ | (refine Cw.k_cond ?_; first | (refine Cw.cond_dec rfl (fun hc => ?_) (fun hc => ?_) <;> try (exfalso; omega)) | refine Cw.cond_bool rfl (fun hc => ?_) (fun hc => ?_)) | refine goR ?_ | refine goP ?_ | apply PSeq.cons | apply PSeq.yes rfl rfl rfl | exact goW | fail)
          erw [rdgMap_snoc M d.t d.vs]
          have hMM2 : ((M ++ [(⟨d.t, d.vs⟩ : Rdg)]).map Rdg.row).length = i + 1 := by simp [hMl]
          rw [hMM2]
          exact ⟨_, _, _, (Ent.mk goSub goTk), ⟨i + 1, _, _, _, rfl, ⟨by omega, by simp [hMl], (fun r hr => by rcases List.mem_append.1 hr with h | h; exact hMb r h; rw [List.mem_singleton.1 h]; exact hdb)⟩, rfl, rfl⟩, by omega⟩
        · have hOr := intRows_len O
          repeat' (first | refine goH ?_ | refine goV ?_ | refine goB (fun b => ?_) | refine goC (fun ad cap => ?_) | refine goG ?_ | (refine Ops.k_guard ?_; first | (refine Ops.guard_dec rfl rfl (fun hc => ?_) (fun hc => ?_) <;> try (exfalso; omega)) | refine Ops.guard_split rfl rfl (fun hc => ?_) (fun hc => ?_)) | refine goI ?_ | (refine Cw.k_cond ?_; first | (refine Cw.cond_dec rfl (fun hc => ?_) (fun hc => ?_) <;> try (exfalso; omega)) | refine Cw.cond_bool rfl (fun hc => ?_) (fun hc => ?_)) | refine goR ?_ | refine goP ?_ | apply PSeq.cons | apply PSeq.yes rfl rfl rfl | exact goW | fail)
          rw [← hMM]
          refine Fin.ret (Ent.trans (Ent.settle (s := 4) rfl goPk rfl) (Ent.strm_only goPk (by omega))) (Outs.sole rfl goOe) ⟨rfl, M, rfl, by omega, hMb⟩
end Lg
end
section
set_option linter.all false
namespace Lg
open Go Go.Proofs

theorem Ops.shut0 {P : Program} {Γ : Ctx} {env : Env} {cs : List Chunk} {Q : Post} {R : Array Oper} {l : List Oper} {ty b : Nat} {cells : List Tr} {rows : List (List Tr)} (h : cells = [Tr.sl 1 rows, Tr.int ((0 : Nat) : Int)]) (k : Ops P Γ R l env (Chunk.strm ty b rows 0 :: cs) Q) : Ops P Γ R l env (Chunk.box b ty cells :: cs) Q := by
  subst h
  exact Ops.ent (Ent.shut_strm (m := 0) (Nat.le_refl 0)) k
end Lg
end
