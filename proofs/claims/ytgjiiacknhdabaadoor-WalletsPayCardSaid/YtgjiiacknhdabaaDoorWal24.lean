/- A part of the proof of a law of this seat: it adds no condition. By an AI agent. -/
import Derived.Test.YtgjiiacknhdabaaDoorWal21
section
set_option linter.all false
set_option maxRecDepth 100000
set_option maxHeartbeats 8000000
namespace Lg
open Go Go.Proofs

attribute [local irreducible] intRows intsR strRows valsW rowsW idxS rgt at2 set2
theorem give_ok (w : Wal) (h0 : walE w = 0) (a a2 : ByteArray) (c : Int) : PFn Tryd.prog 23 [.wal w, .str a, .str a2, .int c] (· = resW (gvW w a a2 c) (gvE w a a2 c false)) := by
  have h := wok_E h0
  have n12 := h.n1
  have kO := owned_fn w h.bd
  have kX := out_fn c 1 1000000000
  have hcs := idxS_cases w.sites a
  have hct := idxS_cases w.sites a2
  have he : gvE w a a2 c false = if idxS w.sites a < 0 ∨ idxS w.sites a2 < 0 then 8 else if false = false ∧ idxS w.sites a = idxS w.sites a2 then 6 else if c < 1 ∨ 1000000000 < c then 1
    else if false = false ∧ rgt w (idxS w.sites a).toNat < c then 16 else if at2 w.rights (idxS w.sites a).toNat (idxS w.sites a2).toNat + c > 1000000000 then 12 else 0 := rfl
  have hW : gvW w a a2 c = ⟨w.sites, set2 w.rights (idxS w.sites a).toNat (idxS w.sites a2).toNat (at2 w.rights (idxS w.sites a).toNat (idxS w.sites a2).toNat + c), w.used⟩ := rfl
  have kP0 := places2_none (a := a) (b := a2) h.bd h0
  have kP1 : ∀ i j : Nat, idxS w.sites a = i → idxS w.sites a2 = j → _ := fun i j hi hj => places2_ok (a := a) (b := a2) h.bd h0 hi hj
  have hsame : a = a2 → idxS w.sites a = idxS w.sites a2 := fun e => by rw [e]
  generalize idxS w.sites a = i at *
  generalize idxS w.sites a2 = j at *
  generalize gvW w a a2 c = W at *
  generalize gvE w a a2 c false = E at *
  refine PFn.mk (Spec.body Tryd.func23 rfl rfl (Tryd.ntmps23) rfl fun w0 own0 M => ?_)
  rcases hcs with rfl | ⟨i, rfl, hia, hi⟩
  · rw [if_pos (by omega)] at he
    subst he
    rw [resW_bad (by decide)]
    have kP := kP0 (by omega)
    clear kP0 kP1 hct hsame
    repeat' (first | refine goH ?_ | refine goV ?_ | refine goB (fun b => ?_) | refine goI ?_ | (refine Cw.k_cond ?_; first | (refine Cw.cond_dec rfl (fun hc => ?_) (fun hc => ?_) <;> try (exfalso; omega)) | refine Cw.cond_bool rfl (fun hc => ?_) (fun hc => ?_)) | (refine Ops.k_calla ?_; first | (refine Ops.k_callf 56 ?_; refine Ops.callV kP (Evs.cons rfl (Evs.cons rfl Evs.nil)) rfl ?_)) | (apply OpW.k_call; first | (apply OpW.k_callf 56; exact OpW.callV kP (Evs.cons rfl (Evs.cons rfl Evs.nil)))) | refine goR ?_ | refine goP ?_ | apply PSeq.cons | apply PSeq.yes rfl rfl rfl | exact goW | fail)
    refine Fin.ret (Ent.trans (Ent.imp_box goPk impW0) (Ent.trans (Ent.setbox (s := 8) rfl goPk) (Ent.take goTk))) (Outs.many rfl (OutL.cons goOe (OutL.cons goOe OutL.nil)) rfl) ⟨rfl, rfl⟩
  rcases hct with rfl | ⟨j, rfl, hja, hj⟩
  · rw [if_pos (by omega)] at he
    subst he
    rw [resW_bad (by decide)]
    have kP := kP0 (by omega)
    clear kP0 kP1 hsame
    repeat' (first | refine goH ?_ | refine goV ?_ | refine goB (fun b => ?_) | refine goI ?_ | (refine Cw.k_cond ?_; first | (refine Cw.cond_dec rfl (fun hc => ?_) (fun hc => ?_) <;> try (exfalso; omega)) | refine Cw.cond_bool rfl (fun hc => ?_) (fun hc => ?_)) | (refine Ops.k_calla ?_; first | (refine Ops.k_callf 56 ?_; refine Ops.callV kP (Evs.cons rfl (Evs.cons rfl Evs.nil)) rfl ?_)) | (apply OpW.k_call; first | (apply OpW.k_callf 56; exact OpW.callV kP (Evs.cons rfl (Evs.cons rfl Evs.nil)))) | refine goR ?_ | refine goP ?_ | apply PSeq.cons | apply PSeq.yes rfl rfl rfl | exact goW | fail)
    refine Fin.ret (Ent.trans (Ent.imp_box goPk impW0) (Ent.trans (Ent.setbox (s := 8) rfl goPk) (Ent.take goTk))) (Outs.many rfl (OutL.cons goOe (OutL.cons goOe OutL.nil)) rfl) ⟨rfl, rfl⟩
  rw [if_neg (by omega)] at he
  rw [Int.toNat_natCast, Int.toNat_natCast] at he hW
  have kP := kP1 i j rfl rfl
  clear kP0 kP1
  by_cases q1 : a = a2
  · rw [if_pos ⟨rfl, hsame q1⟩] at he
    subst he
    rw [resW_bad (by decide)]
    subst q1
    clear hsame
    repeat' (first | refine goH ?_ | refine goV ?_ | refine goB (fun b => ?_) | refine goI ?_ | (refine Cw.k_cond ?_; first | (refine Cw.cond_dec rfl (fun hc => ?_) (fun hc => ?_) <;> try (exfalso; omega)) | refine Cw.cond_bool rfl (fun hc => ?_) (fun hc => ?_)) | (refine Ops.k_calla ?_; first | refine Ops.callV kP (Evs.cons rfl (Evs.cons rfl Evs.nil)) rfl ?_) | (apply OpW.k_call; first | exact OpW.callV kP (Evs.cons rfl (Evs.cons rfl Evs.nil))) | refine goR ?_ | refine goP ?_ | apply PSeq.cons | apply PSeq.yes rfl rfl rfl | exact goW | fail)
    all_goals first | (refine Fin.ret (Ent.trans (Ent.imp_box goPk impW0) (Ent.trans (Ent.setbox (s := 8) rfl goPk) (Ent.take goTk))) (Outs.many rfl (OutL.cons goOe (OutL.cons goOe OutL.nil)) rfl) ⟨rfl, rfl⟩) | exact absurd rfl hc
  have q1' : ¬ ((i : Int) = j) := by
    intro e
    have : i = j := by omega
    subst this
    rw [hia] at hja
    exact q1 (Option.some.inj hja)
  rw [if_neg (by simp [q1'])] at he
  clear hsame hia hja
  have kR := rightsD_fn w h i hi
  obtain ⟨l, x, e1, e2, e3, b1, b2⟩ := h.at2 hi hj
  rw [e3] at he hW
  have hl2 : Unit → l.length = w.sites.length := fun _ => h.rr l (List.mem_of_getElem? e1)
  have hlr := (intRows_len l).trans (hl2 ())
  have hUl := (intRows_len w.used).trans h.u
  by_cases q2 : c < 1 ∨ 1000000000 < c
  · rw [if_pos q2] at he
    subst he
    rw [resW_bad (by decide)]
    have hX : outB c 1 1000000000 = true := decide_eq_true q2
    rw [hX] at kX
    repeat' (first | refine goH ?_ | refine goV ?_ | refine goB (fun b => ?_) | refine goI ?_ | (refine Cw.k_cond ?_; first | (refine Cw.cond_dec rfl (fun hc => ?_) (fun hc => ?_) <;> try (exfalso; omega)) | refine Cw.cond_bool rfl (fun hc => ?_) (fun hc => ?_)) | (refine Ops.k_calla ?_; first | refine Ops.callV kP (Evs.cons rfl (Evs.cons rfl Evs.nil)) rfl ?_ | (refine Ops.k_callf 54 ?_; refine Ops.callV kX (Evs.cons rfl (Evs.cons rfl (Evs.cons rfl Evs.nil))) rfl ?_)) | (apply OpW.k_call; first | exact OpW.callV kP (Evs.cons rfl (Evs.cons rfl Evs.nil)) | (apply OpW.k_callf 54; exact OpW.callV kX (Evs.cons rfl (Evs.cons rfl (Evs.cons rfl Evs.nil))))) | refine goR ?_ | refine goP ?_ | apply PSeq.cons | apply PSeq.yes rfl rfl rfl | exact goW | fail)
    all_goals first | (refine Fin.ret (Ent.trans (Ent.imp_box goPk impW0) (Ent.trans (Ent.setbox (s := 8) rfl goPk) (Ent.take goTk))) (Outs.many rfl (OutL.cons goOe (OutL.cons goOe OutL.nil)) rfl) ⟨rfl, rfl⟩) | exact absurd (by assumption) q1
  rw [if_neg q2] at he
  have q2' : 1 ≤ c ∧ c ≤ 1000000000 := by omega
  have hX : outB c 1 1000000000 = false := decide_eq_false q2
  rw [hX] at kX
  clear q2 hX
  by_cases q3 : rgt w i < c
  · rw [if_pos ⟨rfl, q3⟩] at he
    subst he
    rw [resW_bad (by decide)]
    repeat' (first | refine goH ?_ | refine goV ?_ | refine goB (fun b => ?_) | refine goI ?_ | (refine Cw.k_cond ?_; first | (refine Cw.cond_dec rfl (fun hc => ?_) (fun hc => ?_) <;> try (exfalso; omega)) | refine Cw.cond_bool rfl (fun hc => ?_) (fun hc => ?_)) | (refine Ops.k_calla ?_; first | refine Ops.callV kP (Evs.cons rfl (Evs.cons rfl Evs.nil)) rfl ?_ | (refine Ops.k_callf 55 ?_; refine Ops.callV kR (Evs.cons rfl (Evs.cons rfl Evs.nil)) rfl ?_) | (refine Ops.k_callf 54 ?_; refine Ops.callV kX (Evs.cons rfl (Evs.cons rfl (Evs.cons rfl Evs.nil))) rfl ?_)) | (apply OpW.k_call; first | exact OpW.callV kP (Evs.cons rfl (Evs.cons rfl Evs.nil)) | (apply OpW.k_callf 55; exact OpW.callV kR (Evs.cons rfl (Evs.cons rfl Evs.nil))) | (apply OpW.k_callf 54; exact OpW.callV kX (Evs.cons rfl (Evs.cons rfl (Evs.cons rfl Evs.nil))))) | refine goR ?_ | refine goP ?_ | apply PSeq.cons | apply PSeq.yes rfl rfl rfl | exact goW | fail)
    all_goals first | (refine Fin.ret (Ent.trans (Ent.imp_box goPk impW0) (Ent.trans (Ent.setbox (s := 8) rfl goPk) (Ent.take goTk))) (Outs.many rfl (OutL.cons goOe (OutL.cons goOe OutL.nil)) rfl) ⟨rfl, rfl⟩) | exact absurd (by assumption) q1
  rw [if_neg (fun h => q3 h.2)] at he
  have hs2 : ∀ v, set2 w.rights i j v = w.rights.set i (l.set j v) := by intro v; unfold set2; rw [List.getD_eq_getElem?_getD, e1, Option.getD_some]
  repeat' (first | refine goH ?_ | refine goV ?_ | refine goB (fun b => ?_) | refine goI ?_ | (refine Cw.k_cond ?_; first | (refine Cw.cond_dec rfl (fun hc => ?_) (fun hc => ?_) <;> try (exfalso; omega)) | refine Cw.cond_bool rfl (fun hc => ?_) (fun hc => ?_)) | (refine Ops.k_calla ?_; first | refine Ops.callV kP (Evs.cons rfl (Evs.cons rfl Evs.nil)) rfl ?_ | (refine Ops.k_callf 55 ?_; refine Ops.callV kR (Evs.cons rfl (Evs.cons rfl Evs.nil)) rfl ?_) | (refine Ops.k_callf 54 ?_; refine Ops.callV kX (Evs.cons rfl (Evs.cons rfl (Evs.cons rfl Evs.nil))) rfl ?_)) | (apply OpW.k_call; first | exact OpW.callV kP (Evs.cons rfl (Evs.cons rfl Evs.nil)) | (apply OpW.k_callf 55; exact OpW.callV kR (Evs.cons rfl (Evs.cons rfl Evs.nil))) | (apply OpW.k_callf 54; exact OpW.callV kX (Evs.cons rfl (Evs.cons rfl (Evs.cons rfl Evs.nil))))) | refine goR ?_ | refine goP ?_ | apply PSeq.cons | apply PSeq.yes rfl rfl rfl | exact goW | fail)
  refine Ops.k_calla ?_
  refine Ops.call kO (Evs.cons rfl Evs.nil) goPm rfl ?_
  rintro r cs' ⟨adR, capR, L, adU, capU, rfl, hv, rfl⟩
  have hLl : (rowsW L).length = w.sites.length := (by rw [rowsW_len, ← valsW_len, hv]; exact h.r)
  rw [walV_n hLl hUl]
  obtain ⟨p, hp, hpx, hpr⟩ := pullW h e1 hv
  refine Ops.ent (ent_pullW (E := 3) hp (by exact goPk)) ?_
  rw [hpx]
  obtain ⟨e, ys, r0, r1, r2, hM, hD, hcase⟩ := more_done adR adU w.sites.length capR capU w.sites p.ad p.cap l j x c e2 ⟨b1, b2⟩ q2'
  repeat' (first | refine goH ?_ | refine goV ?_ | refine goB (fun b => ?_) | refine goI ?_ | (refine Cw.k_cond ?_; first | (refine Cw.cond_dec rfl (fun hc => ?_) (fun hc => ?_) <;> try (exfalso; omega)) | refine Cw.cond_bool rfl (fun hc => ?_) (fun hc => ?_)) | fail)
  rename_i b4
  first | refine Cw.region_YP (fun ξ S => Chunk.own p.ad p.cap 1 3 (stg (S 13) (intRows l) (intRows ys)) :: Chunk.box b4 31 [.strs w.sites, Tr.raw (.slice adR w.sites.length capR), Tr.raw (.slice adU w.sites.length capU)] :: Chunk.box b 31 (stg (S 17) [Tr.raw (.slice none 0 0), Tr.raw (.slice none 0 0), Tr.raw (.slice none 0 0)] [r0, r1, r2]) :: restW 3 L i :: Chunk.own adU capU 1 3 (intRows w.used) :: Chunk.own adR capR 1 22 (rowsW L) :: []) rfl (by decide +kernel) rfl ((fun (ξ : Nat → Value) (S : Nat → Bool) => Chunk.own p.ad p.cap 1 3 (stg (S 13) (intRows l) (intRows ys)) :: Chunk.box b4 31 [.strs w.sites, Tr.raw (.slice adR w.sites.length capR), Tr.raw (.slice adU w.sites.length capU)] :: Chunk.box b 31 (stg (S 17) [Tr.raw (.slice none 0 0), Tr.raw (.slice none 0 0), Tr.raw (.slice none 0 0)] [r0, r1, r2]) :: restW 3 L i :: Chunk.own adU capU 1 3 (intRows w.used) :: Chunk.own adR capR 1 22 (rowsW L) :: []) (fun _ => undef) (fun _ => false)) (by simp only [upd_same, updD_same, upd_ne, updD_ne, ne_eq, Nat.reduceEqDiff, not_false_eq_true, stg_t, stg_f, vAd_s, vCap_s, blk_p, List.cons_append, List.nil_append, b2n_t, b2n_f]; exact goXm) (fun _ => rfl) ?_ | fail
  apply YSeq.w (by intro _ _ _; rfl)
  · intro ξ S h1 h2 h3 h4
    have hN0_17 := closed_false h1 h3 (k := 17) rfl (by decide)
    try simp only [upd_same, updD_same, upd_ne, updD_ne, ne_eq, Nat.reduceEqDiff, not_false_eq_true, stg_t, stg_f, vAd_s, vCap_s, blk_p, List.cons_append, List.nil_append, b2n_t, b2n_f, hN0_17]
    exact goW
  · intro ξ v; rfl
  · intro ξ k v S h3 hn hk
    first
    | rfl
  apply YSeq.w (by intro _ _ _; rfl)
  · intro ξ S h1 h2 h3 h4
    have hN1_2 := closed_false h1 h3 (k := 2) rfl (by decide)
    have hN1_6 := closed_false hN1_2 h3 (k := 6) rfl (by decide)
    have hN1_7 := closed_false hN1_6 h3 (k := 7) rfl (by decide)
    have hN1_11 := closed_false hN1_7 h3 (k := 11) rfl (by decide)
    have hN1_13 := closed_false hN1_11 h3 (k := 13) rfl (by decide)
    have hN1_17 := closed_false h1 h3 (k := 17) rfl (by decide)
    try simp only [upd_same, updD_same, upd_ne, updD_ne, ne_eq, Nat.reduceEqDiff, not_false_eq_true, stg_t, stg_f, vAd_s, vCap_s, blk_p, List.cons_append, List.nil_append, b2n_t, b2n_f, hN1_13, hN1_17]
    exact goW
  · intro ξ v; rfl
  · intro ξ k v S h3 hn hk
    first
    | rfl
  apply YSeq.w (by intro _ _ _; rfl)
  · intro ξ S h1 h2 h3 h4
    have hN2_6 := closed_false h1 h3 (k := 6) rfl (by decide)
    have hN2_7 := closed_false hN2_6 h3 (k := 7) rfl (by decide)
    have hN2_11 := closed_false hN2_7 h3 (k := 11) rfl (by decide)
    have hN2_13 := closed_false hN2_11 h3 (k := 13) rfl (by decide)
    have hN2_17 := closed_false h1 h3 (k := 17) rfl (by decide)
    try simp only [upd_same, updD_same, upd_ne, updD_ne, ne_eq, Nat.reduceEqDiff, not_false_eq_true, stg_t, stg_f, vAd_s, vCap_s, blk_p, List.cons_append, List.nil_append, b2n_t, b2n_f, hN2_13, hN2_17]
    exact goW
  · intro ξ v; rfl
  · intro ξ k v S h3 hn hk
    first
    | rfl
  apply YSeq.w (by intro _ _ _; rfl)
  · intro ξ S h1 h2 h3 h4
    have hN3_4 := closed_false h1 h3 (k := 4) rfl (by decide)
    have hN3_5 := closed_false hN3_4 h3 (k := 5) rfl (by decide)
    have hN3_6 := closed_false hN3_5 h3 (k := 6) rfl (by decide)
    have hN3_7 := closed_false hN3_6 h3 (k := 7) rfl (by decide)
    have hN3_11 := closed_false hN3_7 h3 (k := 11) rfl (by decide)
    have hN3_13 := closed_false hN3_11 h3 (k := 13) rfl (by decide)
    have hN3_17 := closed_false h1 h3 (k := 17) rfl (by decide)
    try simp only [upd_same, updD_same, upd_ne, updD_ne, ne_eq, Nat.reduceEqDiff, not_false_eq_true, stg_t, stg_f, vAd_s, vCap_s, blk_p, List.cons_append, List.nil_append, b2n_t, b2n_f, hN3_13, hN3_17]
    exact goW
  · intro ξ v; rfl
  · intro ξ k v S h3 hn hk
    first
    | rfl
  apply YSeq.w (by intro _ _ _; rfl)
  · intro ξ S h1 h2 h3 h4
    have hN4_5 := closed_false h1 h3 (k := 5) rfl (by decide)
    have hN4_6 := closed_false hN4_5 h3 (k := 6) rfl (by decide)
    have hN4_7 := closed_false hN4_6 h3 (k := 7) rfl (by decide)
    have hN4_11 := closed_false hN4_7 h3 (k := 11) rfl (by decide)
    have hN4_13 := closed_false hN4_11 h3 (k := 13) rfl (by decide)
    have hN4_17 := closed_false h1 h3 (k := 17) rfl (by decide)
    try simp only [upd_same, updD_same, upd_ne, updD_ne, ne_eq, Nat.reduceEqDiff, not_false_eq_true, stg_t, stg_f, vAd_s, vCap_s, blk_p, List.cons_append, List.nil_append, b2n_t, b2n_f, hN4_13, hN4_17]
    exact goW
  · intro ξ v; rfl
  · intro ξ k v S h3 hn hk
    first
    | rfl
  apply YSeq.w (by intro _ _ _; rfl)
  · intro ξ S h1 h2 h3 h4
    have hN5_6 := closed_false h1 h3 (k := 6) rfl (by decide)
    have hN5_7 := closed_false hN5_6 h3 (k := 7) rfl (by decide)
    have hN5_11 := closed_false hN5_7 h3 (k := 11) rfl (by decide)
    have hN5_13 := closed_false hN5_11 h3 (k := 13) rfl (by decide)
    have hN5_17 := closed_false h1 h3 (k := 17) rfl (by decide)
    try simp only [upd_same, updD_same, upd_ne, updD_ne, ne_eq, Nat.reduceEqDiff, not_false_eq_true, stg_t, stg_f, vAd_s, vCap_s, blk_p, List.cons_append, List.nil_append, b2n_t, b2n_f, hN5_13, hN5_17]
    exact goW
  · intro ξ v; rfl
  · intro ξ k v S h3 hn hk
    first
    | rfl
  apply YSeq.w (by intro _ _ _; rfl)
  · intro ξ S h1 h2 h3 h4
    have hN6_7 := closed_false h1 h3 (k := 7) rfl (by decide)
    have hN6_11 := closed_false hN6_7 h3 (k := 11) rfl (by decide)
    have hN6_13 := closed_false hN6_11 h3 (k := 13) rfl (by decide)
    have hN6_17 := closed_false h1 h3 (k := 17) rfl (by decide)
    try simp only [upd_same, updD_same, upd_ne, updD_ne, ne_eq, Nat.reduceEqDiff, not_false_eq_true, stg_t, stg_f, vAd_s, vCap_s, blk_p, List.cons_append, List.nil_append, b2n_t, b2n_f, hN6_13, hN6_17]
    exact goW
  · intro ξ v; rfl
  · intro ξ k v S h3 hn hk
    first
    | rfl
  apply YSeq.w (by intro _ _ _; rfl)
  · intro ξ S h1 h2 h3 h4
    have hN7_11 := closed_false h1 h3 (k := 11) rfl (by decide)
    have hN7_13 := closed_false hN7_11 h3 (k := 13) rfl (by decide)
    have hN7_17 := closed_false h1 h3 (k := 17) rfl (by decide)
    try simp only [upd_same, updD_same, upd_ne, updD_ne, ne_eq, Nat.reduceEqDiff, not_false_eq_true, stg_t, stg_f, vAd_s, vCap_s, blk_p, List.cons_append, List.nil_append, b2n_t, b2n_f, hN7_13, hN7_17]
    exact goW
  · intro ξ v; rfl
  · intro ξ k v S h3 hn hk
    first
    | rfl
  apply YSeq.w (by intro _ _ _; rfl)
  · intro ξ S h1 h2 h3 h4
    have hN8_9 := closed_false h1 h3 (k := 9) rfl (by decide)
    have hN8_10 := closed_false hN8_9 h3 (k := 10) rfl (by decide)
    have hN8_11 := closed_false hN8_10 h3 (k := 11) rfl (by decide)
    have hN8_13 := closed_false hN8_11 h3 (k := 13) rfl (by decide)
    have hN8_17 := closed_false h1 h3 (k := 17) rfl (by decide)
    try simp only [upd_same, updD_same, upd_ne, updD_ne, ne_eq, Nat.reduceEqDiff, not_false_eq_true, stg_t, stg_f, vAd_s, vCap_s, blk_p, List.cons_append, List.nil_append, b2n_t, b2n_f, hN8_13, hN8_17]
    exact goW
  · intro ξ v; rfl
  · intro ξ k v S h3 hn hk
    first
    | rfl
  apply YSeq.w (by intro _ _ _; rfl)
  · intro ξ S h1 h2 h3 h4
    have hN9_10 := closed_false h1 h3 (k := 10) rfl (by decide)
    have hN9_11 := closed_false hN9_10 h3 (k := 11) rfl (by decide)
    have hN9_13 := closed_false hN9_11 h3 (k := 13) rfl (by decide)
    have hN9_17 := closed_false h1 h3 (k := 17) rfl (by decide)
    try simp only [upd_same, updD_same, upd_ne, updD_ne, ne_eq, Nat.reduceEqDiff, not_false_eq_true, stg_t, stg_f, vAd_s, vCap_s, blk_p, List.cons_append, List.nil_append, b2n_t, b2n_f, hN9_13, hN9_17]
    exact goW
  · intro ξ v; rfl
  · intro ξ k v S h3 hn hk
    first
    | rfl
  apply YSeq.w (by intro _ _ _; rfl)
  · intro ξ S h1 h2 h3 h4
    have hN10_11 := closed_false h1 h3 (k := 11) rfl (by decide)
    have hN10_13 := closed_false hN10_11 h3 (k := 13) rfl (by decide)
    have hN10_17 := closed_false h1 h3 (k := 17) rfl (by decide)
    try simp only [upd_same, updD_same, upd_ne, updD_ne, ne_eq, Nat.reduceEqDiff, not_false_eq_true, stg_t, stg_f, vAd_s, vCap_s, blk_p, List.cons_append, List.nil_append, b2n_t, b2n_f, hN10_13, hN10_17]
    exact goW
  · intro ξ v; rfl
  · intro ξ k v S h3 hn hk
    first
    | rfl
  apply YSeq.w (by intro _ _ _; rfl)
  · intro ξ S h1 h2 h3 h4
    have hN11_13 := closed_false h1 h3 (k := 13) rfl (by decide)
    have hN11_17 := closed_false h1 h3 (k := 17) rfl (by decide)
    try simp only [upd_same, updD_same, upd_ne, updD_ne, ne_eq, Nat.reduceEqDiff, not_false_eq_true, stg_t, stg_f, vAd_s, vCap_s, blk_p, List.cons_append, List.nil_append, b2n_t, b2n_f, hN11_13, hN11_17]
    exact goW
  · intro ξ v; rfl
  · intro ξ k v S h3 hn hk
    first
    | rfl
  apply YSeq.w (by intro _ _ _; rfl)
  · intro ξ S h1 h2 h3 h4
    have hN12_13 := closed_false h1 h3 (k := 13) rfl (by decide)
    have hN12_17 := closed_false h1 h3 (k := 17) rfl (by decide)
    try simp only [upd_same, updD_same, upd_ne, updD_ne, ne_eq, Nat.reduceEqDiff, not_false_eq_true, stg_t, stg_f, vAd_s, vCap_s, blk_p, List.cons_append, List.nil_append, b2n_t, b2n_f, hN12_13, hN12_17]
    exact goW
  · intro ξ v; rfl
  · intro ξ k v S h3 hn hk
    first
    | rfl
  apply YSeq.callC
  · intro ξ S h1 h2 h3 h4
    have hN13_17 := closed_false h1 h3 (k := 17) rfl (by decide)
    try simp only [upd_same, updD_same, upd_ne, updD_ne, ne_eq, Nat.reduceEqDiff, not_false_eq_true, stg_t, stg_f, vAd_s, vCap_s, blk_p, List.cons_append, List.nil_append, b2n_t, b2n_f, h1, hN13_17]
    exact ⟨_, _, _, _, hM, (Evs.cons rfl (Evs.cons rfl Evs.nil)), goXp, fun v => (by first | exact goXp | (simp only [upd_same, updD_same, upd_ne, updD_ne, ne_eq, Nat.reduceEqDiff, not_false_eq_true, stg_t, stg_f, vAd_s, vCap_s, blk_p, List.cons_append, List.nil_append, b2n_t, b2n_f]; exact goXp))⟩
  · intro ξ v; rfl
  · intro ξ k v S h3 hn hk
    first
    | rfl
  apply YSeq.callV (by intro _ _ _; rfl)
  · intro ξ S h1 h2 h3 h4
    have hY14_13 : S 13 = true := h2 13 (by decide)
    have hN14_17 := closed_false h1 h3 (k := 17) rfl (by decide)
    try simp only [upd_same, updD_same, upd_ne, updD_ne, ne_eq, Nat.reduceEqDiff, not_false_eq_true, stg_t, stg_f, vAd_s, vCap_s, blk_p, List.cons_append, List.nil_append, b2n_t, b2n_f, hY14_13, hN14_17]
    exact ⟨_, (Evs.cons rfl (Evs.cons rfl Evs.nil)), hD⟩
  · intro ξ v; rfl
  · intro ξ k v S h3 hn hk
    first
    | rfl
  apply YSeq.w (by intro _ _ _; rfl)
  · intro ξ S h1 h2 h3 h4
    have hY15_14 : S 14 = true := h2 14 (by decide)
    have hY15_13 : S 13 = true := h3 14 _ rfl hY15_14 13 (by decide)
    have hN15_17 := closed_false h1 h3 (k := 17) rfl (by decide)
    try simp only [upd_same, updD_same, upd_ne, updD_ne, ne_eq, Nat.reduceEqDiff, not_false_eq_true, stg_t, stg_f, vAd_s, vCap_s, blk_p, List.cons_append, List.nil_append, b2n_t, b2n_f, hY15_13, hN15_17]
    exact goW
  · intro ξ v; rfl
  · intro ξ k v S h3 hn hk
    first
    | rfl
  apply YSeq.w (by intro _ _ _; rfl)
  · intro ξ S h1 h2 h3 h4
    have hY16_14 : S 14 = true := h2 14 (by decide)
    have hY16_13 : S 13 = true := h3 14 _ rfl hY16_14 13 (by decide)
    have hN16_17 := closed_false h1 h3 (k := 17) rfl (by decide)
    try simp only [upd_same, updD_same, upd_ne, updD_ne, ne_eq, Nat.reduceEqDiff, not_false_eq_true, stg_t, stg_f, vAd_s, vCap_s, blk_p, List.cons_append, List.nil_append, b2n_t, b2n_f, hY16_13, hN16_17]
    exact goW
  · intro ξ v; rfl
  · intro ξ k v S h3 hn hk
    first
    | rfl
  apply YSeq.store
  · intro ξ S h1 h2 h3 h4
    have hY17_13 : S 13 = true := h2 13 (by decide)
    simp only [upd_same, updD_same, upd_ne, updD_ne, ne_eq, Nat.reduceEqDiff, not_false_eq_true, stg_t, stg_f, vAd_s, vCap_s, blk_p, List.cons_append, List.nil_append, b2n_t, b2n_f, hY17_13, h1]
    refine ⟨_, _, _, _, _, _, _, rfl, rfl, inferInstance, goXp, rfl, Nat.le_of_ble_eq_true rfl, ?_⟩
    exact goXm
  apply YSeq.w (by intro _ _ _; rfl)
  · intro ξ S h1 h2 h3 h4
    have hY18_13 : S 13 = true := h2 13 (by decide)
    have hY18_17 : S 17 = true := h2 17 (by decide)
    try simp only [upd_same, updD_same, upd_ne, updD_ne, ne_eq, Nat.reduceEqDiff, not_false_eq_true, stg_t, stg_f, vAd_s, vCap_s, blk_p, List.cons_append, List.nil_append, b2n_t, b2n_f, hY18_13, hY18_17]
    exact goW
  · intro ξ v; rfl
  · intro ξ k v S h3 hn hk
    first
    | rfl
  refine YSeq.nil fun ξ hf => ?_
  refine ⟨[(8, _), (9, _)], _, Ent.trans (Ent.eqc rfl (by simp only [upd_same, updD_same, upd_ne, updD_ne, ne_eq, Nat.reduceEqDiff, not_false_eq_true, stg_t, stg_f, vAd_s, vCap_s, blk_p, List.cons_append, List.nil_append, b2n_t, b2n_f, ownV, slV, ptV] <;> rfl)) (Ent.sub goSub), ?_⟩
  clear hf
  rcases hcase with ⟨q4, rfl, rfl, q5⟩ | ⟨q4, rfl, rfl, q5⟩
  · rw [if_pos q4] at he
    subst he
    rw [resW_bad (by decide), q5]
    repeat' (first | refine goH ?_ | refine goV ?_ | refine goB (fun b => ?_) | refine goI ?_ | (refine Cw.k_cond ?_; first | (refine Cw.cond_dec rfl (fun hc => ?_) (fun hc => ?_) <;> try (exfalso; omega)) | refine Cw.cond_bool rfl (fun hc => ?_) (fun hc => ?_)) | refine goR ?_ | refine goP ?_ | apply PSeq.cons | apply PSeq.yes rfl rfl rfl | exact goW | fail)
    refine Fin.ret (Ent.trans (Ent.imp_box goPk impW0) (Ent.trans (Ent.setbox (s := 8) rfl goPk) (Ent.take goTk))) (Outs.many rfl (OutL.cons goOe (OutL.cons goOe OutL.nil)) rfl) ⟨rfl, rfl⟩
  · rw [if_neg q4] at he
    subst he
    rw [resW_ok rfl, q5]
    have hls : (intRows (l.set j (x + c))).length = w.sites.length := by rw [intRows_len, List.length_set]; exact hl2 ()
    have hq : (⟨p.ad, p.cap, l.set j (x + c)⟩ : IL).val = p.val := by unfold IL.val; rw [hls, hpx, hlr]
    have hLs : (rowsW (L.set i ⟨p.ad, p.cap, l.set j (x + c)⟩)).length = w.sites.length := by rw [rowsW_set hp hq]; exact hLl
    repeat' (first | refine goH ?_ | refine goV ?_ | refine goB (fun b => ?_) | refine goI ?_ | (refine Cw.k_cond ?_; first | (refine Cw.cond_dec rfl (fun hc => ?_) (fun hc => ?_) <;> try (exfalso; omega)) | refine Cw.cond_bool rfl (fun hc => ?_) (fun hc => ?_)) | refine goR ?_ | refine goP ?_ | apply PSeq.cons | apply PSeq.yes rfl rfl rfl | exact goW | fail)
    refine Fin.ent (ent_putW (E := 3) (q := ⟨p.ad, p.cap, l.set j (x + c)⟩) hp (by exact goPk) (by exact goPk)) ?_
    rw [← rowsW_set hp hq]
    refine Fin.ret (Ent.trans (Ent.settle_wal (b := b) (by exact Perm.cons' goPk (Perm.cons' goPk (Perm.cons' goPk (Perm.cons' goPk (List.Perm.refl _))))) hLs hUl) (Ent.trans (Ent.setbox (s := 8) rfl goPk) (Ent.take goTk))) (Outs.many rfl (OutL.cons goOe (OutL.cons goOe OutL.nil)) rfl) ⟨rfl, ?_⟩
    rw [hW, hs2, valsW_set, hv]
end Lg
end
section
set_option linter.all false
set_option maxRecDepth 100000
set_option maxHeartbeats 8000000
namespace Lg
open Go Go.Proofs

/-! ### sums -/
def sumN (f : Nat → Int) : Nat → Int
  | 0 => 0
  | k + 1 => sumN f k + f k
theorem sumN_sub (f g : Nat → Int) : ∀ k, sumN (fun i => f i - g i) k = sumN f k - sumN g k
  | 0 => rfl
  | k + 1 => by unfold sumN; rw [sumN_sub f g k]; omega
theorem sumN_add (f g : Nat → Int) : ∀ k, sumN (fun i => f i + g i) k = sumN f k + sumN g k
  | 0 => rfl
  | k + 1 => by unfold sumN; rw [sumN_add f g k]; omega
theorem sumN_zero : ∀ k, sumN (fun _ => 0) k = 0
  | 0 => rfl
  | k + 1 => by unfold sumN; rw [sumN_zero k]; omega
theorem sumN_swap (f : Nat → Nat → Int) (m : Nat) : ∀ k, sumN (fun i => sumN (f i) m) k = sumN (fun j => sumN (fun i => f i j) k) m
  | 0 => by
    show (0 : Int) = sumN (fun _ => (0 : Int)) m
    exact (sumN_zero m).symm
  | k + 1 => by
    have h : (fun j => sumN (fun i => f i j) (k + 1)) = fun j => sumN (fun i => f i j) k + f k j := rfl
    rw [h, sumN_add, ← sumN_swap f m k]
    rfl
theorem rgtN_sum (R : List (List Int)) (u : List Int) (i : Nat) : ∀ k, rgtN R u i k = at2 R i i - u.getD i 0 + sumN (fun j => at2 R j i - at2 R i j) k
  | 0 => by unfold rgtN sumN; omega
  | k + 1 => by
    unfold rgtN sumN
    rw [rgtN_sum R u i k]
    split
    · rename_i h
      subst h
      omega
    · omega
theorem bal_eq (w : Wal) : sumN (rgt w) w.sites.length = sumN (fun i => at2 w.rights i i - w.used.getD i 0) w.sites.length := by
  have h : rgt w = fun i => (at2 w.rights i i - w.used.getD i 0) + sumN (fun j => at2 w.rights j i - at2 w.rights i j) w.sites.length := by
    funext i
    unfold rgt
    rw [rgtN_sum]
  rw [h, sumN_add]
  have h2 : sumN (fun i => sumN (fun j => at2 w.rights j i - at2 w.rights i j) w.sites.length) w.sites.length = 0 := by
    have e : (fun i => sumN (fun j => at2 w.rights j i - at2 w.rights i j) w.sites.length) = fun i => sumN (fun j => at2 w.rights j i) w.sites.length - sumN (fun j => at2 w.rights i j) w.sites.length := by
      funext i
      rw [sumN_sub]
    rw [e, sumN_sub, sumN_swap (fun i j => at2 w.rights j i)]
    omega
  rw [h2]
  omega
theorem rgt_bd {w : Wal} (h : WOk w) {i : Nat} (hi : i < w.sites.length) : -13000000000 ≤ rgt w i ∧ rgt w i ≤ 13000000000 := by
  have := rgtN_bd h hi w.sites.length (Nat.le_refl _)
  have n1 := h.n1
  unfold rgt
  omega
def rtO (w : Wal) (a : ByteArray) : Tr := if idxS w.sites a < 0 then .tup [.int 0, .int 8] else .tup [.int (rgt w (idxS w.sites a).toNat), .int 0]
attribute [local irreducible] intRows intsR strRows valsW rowsW idxS rgt at2 set2
theorem rights_bad (w : Wal) (hw : WBd w) (h : walE w ≠ 0) (a : ByteArray) : PFn Tryd.prog 25 [.wal w, .str a] (· = .tup [.int 0, .int (walE w)]) := by
  have kP := places1_bad hw h a
  generalize walE w = e at *
  refine PFn.mk (Spec.body Tryd.func25 rfl rfl (Tryd.ntmps25) rfl fun w0 own0 M => ?_)
  repeat' (first | refine goH ?_ | refine goV ?_ | refine goB (fun b => ?_) | refine goI ?_ | (refine Cw.k_cond ?_; first | (refine Cw.cond_dec rfl (fun hc => ?_) (fun hc => ?_) <;> try (exfalso; omega)) | refine Cw.cond_bool rfl (fun hc => ?_) (fun hc => ?_)) | (refine Ops.k_calla ?_; first | (refine Ops.k_callf 56 ?_; refine Ops.callV kP (Evs.cons rfl (Evs.cons rfl Evs.nil)) rfl ?_)) | (apply OpW.k_call; first | (apply OpW.k_callf 56; exact OpW.callV kP (Evs.cons rfl (Evs.cons rfl Evs.nil)))) | refine goR ?_ | refine goP ?_ | apply PSeq.cons | apply PSeq.yes rfl rfl rfl | exact goW | fail)
  refine Fin.ret (Ent.take goTk) (Outs.many rfl (OutL.cons goOe (OutL.cons goOe OutL.nil)) rfl) ⟨rfl, rfl⟩
theorem rights_ok (w : Wal) (h0 : walE w = 0) (a : ByteArray) : PFn Tryd.prog 25 [.wal w, .str a] (· = rtO w a) := by
  have h := wok_E h0
  have n12 := h.n1
  have hcs := idxS_cases w.sites a
  have kP0 := places1_none (a := a) h.bd h0
  have kP1 : ∀ i : Nat, idxS w.sites a = i → _ := fun i hi => places1_ok (a := a) h.bd h0 hi
  have hO : rtO w a = if idxS w.sites a < 0 then .tup [.int 0, .int 8] else .tup [.int (rgt w (idxS w.sites a).toNat), .int 0] := rfl
  generalize idxS w.sites a = i at *
  rw [hO]
  refine PFn.mk (Spec.body Tryd.func25 rfl rfl (Tryd.ntmps25) rfl fun w0 own0 M => ?_)
  rcases hcs with rfl | ⟨i, rfl, hia, hi⟩
  · rw [if_pos (by omega)]
    have kP := kP0 (by omega)
    clear kP0 kP1
    repeat' (first | refine goH ?_ | refine goV ?_ | refine goB (fun b => ?_) | refine goI ?_ | (refine Cw.k_cond ?_; first | (refine Cw.cond_dec rfl (fun hc => ?_) (fun hc => ?_) <;> try (exfalso; omega)) | refine Cw.cond_bool rfl (fun hc => ?_) (fun hc => ?_)) | (refine Ops.k_calla ?_; first | (refine Ops.k_callf 56 ?_; refine Ops.callV kP (Evs.cons rfl (Evs.cons rfl Evs.nil)) rfl ?_)) | (apply OpW.k_call; first | (apply OpW.k_callf 56; exact OpW.callV kP (Evs.cons rfl (Evs.cons rfl Evs.nil)))) | refine goR ?_ | refine goP ?_ | apply PSeq.cons | apply PSeq.yes rfl rfl rfl | exact goW | fail)
    refine Fin.ret (Ent.take goTk) (Outs.many rfl (OutL.cons goOe (OutL.cons goOe OutL.nil)) rfl) ⟨rfl, rfl⟩
  · rw [if_neg (by omega), Int.toNat_natCast]
    have kP := kP1 i rfl
    clear kP0 kP1
    have kR := rightsD_fn w h i hi
    repeat' (first | refine goH ?_ | refine goV ?_ | refine goB (fun b => ?_) | refine goI ?_ | (refine Cw.k_cond ?_; first | (refine Cw.cond_dec rfl (fun hc => ?_) (fun hc => ?_) <;> try (exfalso; omega)) | refine Cw.cond_bool rfl (fun hc => ?_) (fun hc => ?_)) | (refine Ops.k_calla ?_; first | refine Ops.callV kP (Evs.cons rfl (Evs.cons rfl Evs.nil)) rfl ?_ | (refine Ops.k_callf 55 ?_; refine Ops.callV kR (Evs.cons rfl (Evs.cons rfl Evs.nil)) rfl ?_)) | (apply OpW.k_call; first | exact OpW.callV kP (Evs.cons rfl (Evs.cons rfl Evs.nil)) | (apply OpW.k_callf 55; exact OpW.callV kR (Evs.cons rfl (Evs.cons rfl Evs.nil)))) | refine goR ?_ | refine goP ?_ | apply PSeq.cons | apply PSeq.yes rfl rfl rfl | exact goW | fail)
    refine Fin.ret (Ent.take goTk) (Outs.many rfl (OutL.cons goOe (OutL.cons goOe OutL.nil)) rfl) ⟨rfl, rfl⟩
theorem rightsOf_fn (w : Wal) (h : WOk w) (a : ByteArray) : PFn Tryd.prog 29 [.wal w, .str a] (· = rtO w a) := by
  have n12 := h.n1
  have hcs := idxS_cases w.sites a
  have kI := index_fn w.sites a (by omega)
  have hO : rtO w a = if idxS w.sites a < 0 then .tup [.int 0, .int 8] else .tup [.int (rgt w (idxS w.sites a).toNat), .int 0] := rfl
  generalize idxS w.sites a = i at *
  rw [hO]
  refine PFn.mk (Spec.body Tryd.func29 rfl rfl (Tryd.ntmps29) rfl fun w0 own0 M => ?_)
  rcases hcs with rfl | ⟨i, rfl, hia, hi⟩
  · rw [if_pos (by omega)]
    repeat' (first | refine goH ?_ | refine goV ?_ | refine goB (fun b => ?_) | refine goI ?_ | (refine Cw.k_cond ?_; first | (refine Cw.cond_dec rfl (fun hc => ?_) (fun hc => ?_) <;> try (exfalso; omega)) | refine Cw.cond_bool rfl (fun hc => ?_) (fun hc => ?_)) | (refine Ops.k_calla ?_; first | (refine Ops.k_callf 58 ?_; refine Ops.callV kI (Evs.cons rfl (Evs.cons rfl Evs.nil)) rfl ?_)) | fail)
    refine Fin.ret (Ent.take goTk) (Outs.many rfl (OutL.cons goOe (OutL.cons goOe OutL.nil)) rfl) ⟨rfl, rfl⟩
  · rw [if_neg (by omega), Int.toNat_natCast]
    have kR := rightsR_fn w h i hi
    repeat' (first | refine goH ?_ | refine goV ?_ | refine goB (fun b => ?_) | refine goI ?_ | (refine Cw.k_cond ?_; first | (refine Cw.cond_dec rfl (fun hc => ?_) (fun hc => ?_) <;> try (exfalso; omega)) | refine Cw.cond_bool rfl (fun hc => ?_) (fun hc => ?_)) | (refine Ops.k_calla ?_; first | (refine Ops.k_callf 58 ?_; refine Ops.callV kI (Evs.cons rfl (Evs.cons rfl Evs.nil)) rfl ?_) | (refine Ops.k_callf 50 ?_; refine Ops.callV kR (Evs.cons rfl (Evs.cons rfl Evs.nil)) rfl ?_)) | fail)
    refine Fin.ret (Ent.take goTk) (Outs.many rfl (OutL.cons goOe (OutL.cons goOe OutL.nil)) rfl) ⟨rfl, rfl⟩
theorem balance_bad (w : Wal) (hw : WBd w) (h : walE w ≠ 0) : PFn Tryd.prog 26 [.wal w] (· = .tup [.int 0, .int (walE w)]) := by
  have kP := checkWallet_fn w hw
  generalize walE w = e at *
  refine PFn.mk (Spec.body Tryd.func26 rfl rfl (Tryd.ntmps26) rfl fun w0 own0 M => ?_)
  repeat' (first | refine goH ?_ | refine goV ?_ | refine goB (fun b => ?_) | refine goI ?_ | (refine Cw.k_cond ?_; first | (refine Cw.cond_dec rfl (fun hc => ?_) (fun hc => ?_) <;> try (exfalso; omega)) | refine Cw.cond_bool rfl (fun hc => ?_) (fun hc => ?_)) | (refine Ops.k_calla ?_; first | (refine Ops.k_callf 21 ?_; refine Ops.callV kP (Evs.cons rfl Evs.nil) rfl ?_)) | fail)
  refine Fin.ret (Ent.take goTk) (Outs.many rfl (OutL.cons goOe (OutL.cons goOe OutL.nil)) rfl) ⟨rfl, rfl⟩
theorem balance_ok (w : Wal) (h0 : walE w = 0) : PFn Tryd.prog 26 [.wal w] (· = .tup [.int (sumN (rgt w) w.sites.length), .int 0]) := by
  have h := wok_E h0
  have n12 := h.n1
  have hS := strRows_len w.sites
  have kP := checkWallet_fn w h.bd
  rw [h0] at kP
  refine PFn.mk (Spec.body Tryd.func26 rfl rfl (Tryd.ntmps26) rfl fun w0 own0 M => ?_)
  repeat' (first | refine goH ?_ | refine goV ?_ | refine goB (fun b => ?_) | refine goI ?_ | (refine Cw.k_cond ?_; first | (refine Cw.cond_dec rfl (fun hc => ?_) (fun hc => ?_) <;> try (exfalso; omega)) | refine Cw.cond_bool rfl (fun hc => ?_) (fun hc => ?_)) | (refine Ops.k_calla ?_; first | (refine Ops.k_callf 21 ?_; refine Ops.callV kP (Evs.cons rfl Evs.nil) rfl ?_)) | fail)
  refine Cw.loopI [(1, _), (14, _)] _ (fun q e cc => ∃ (k : Nat) (v : Int), q = w.sites.length - k ∧ (k ≤ w.sites.length ∧ v = sumN (rgt w) k ∧ -13000000000 * (k : Int) ≤ v ∧ v ≤ 13000000000 * (k : Int)) ∧ e = [(5, .int v), (15, .int k)] ∧ cc = []) ⟨_, _, _, (Ent.mkP goSub goPm), 0, 0, rfl, ⟨by omega, rfl, by omega, by omega⟩, rfl, rfl⟩ ?_
  rintro _ _ _ ⟨k, v, rfl, ⟨hk, hv, hb1, hb2⟩, rfl, rfl⟩
  by_cases hkl : k < w.sites.length
  · have kR := rightsD_fn w h k hkl
    have hb := rgt_bd h hkl
    have hn : v + rgt w k = sumN (rgt w) (k + 1) := by rw [hv]; rfl
    generalize rgt w k = x at *
    clear hv
    repeat' (first | refine goH ?_ | refine goV ?_ | refine goB (fun b => ?_) | refine goI ?_ | (refine Cw.k_cond ?_; first | (refine Cw.cond_dec rfl (fun hc => ?_) (fun hc => ?_) <;> try (exfalso; omega)) | refine Cw.cond_bool rfl (fun hc => ?_) (fun hc => ?_)) | (refine Ops.k_calla ?_; first | (refine Ops.k_callf 55 ?_; refine Ops.callV kR (Evs.cons rfl (Evs.cons rfl Evs.nil)) rfl ?_)) | fail)
    exact ⟨_, _, _, (Ent.mk goSub goTk), ⟨k + 1, _, rfl, ⟨by omega, hn, by omega, by omega⟩, rfl, rfl⟩, by omega⟩
  · have e : k = w.sites.length := by omega
    rw [← e, ← hv]
    clear hv
    repeat' (first | refine goH ?_ | refine goV ?_ | refine goB (fun b => ?_) | refine goI ?_ | (refine Cw.k_cond ?_; first | (refine Cw.cond_dec rfl (fun hc => ?_) (fun hc => ?_) <;> try (exfalso; omega)) | refine Cw.cond_bool rfl (fun hc => ?_) (fun hc => ?_)) | fail)
    refine Fin.ret (Ent.take goTk) (Outs.many rfl (OutL.cons goOe (OutL.cons goOe OutL.nil)) rfl) ⟨rfl, rfl⟩
theorem balanceOf_fn (w : Wal) (h : WOk w) : PFn Tryd.prog 30 [.wal w] (· = .int (sumN (rgt w) w.sites.length)) := by
  rw [bal_eq]
  have n12 := h.n1
  have hS := strRows_len w.sites
  have hR := (intsR_len w.rights).trans h.r
  have hU := (intRows_len w.used).trans h.u
  refine PFn.mk (Spec.body Tryd.func30 rfl rfl (Tryd.ntmps30) rfl fun w0 own0 M => ?_)
  repeat' (first | refine goH ?_ | refine goV ?_ | refine goB (fun b => ?_) | refine goI ?_ | (refine Cw.k_cond ?_; first | (refine Cw.cond_dec rfl (fun hc => ?_) (fun hc => ?_) <;> try (exfalso; omega)) | refine Cw.cond_bool rfl (fun hc => ?_) (fun hc => ?_)) | refine goR ?_ | refine goP ?_ | apply PSeq.cons | apply PSeq.yes rfl rfl rfl | exact goW | fail)
  refine Cw.loopI [(1, _), (7, _)] _ (fun q e cc => ∃ (k : Nat) (v : Int), q = w.sites.length - k ∧ (k ≤ w.sites.length ∧ v = sumN (fun i => at2 w.rights i i - w.used.getD i 0) k ∧ -1000000000 * (k : Int) ≤ v ∧ v ≤ 1000000000 * (k : Int)) ∧ e = [(3, .int v), (8, .int k)] ∧ cc = []) ⟨_, _, _, (Ent.mkP goSub goPm), 0, 0, rfl, ⟨by omega, rfl, by omega, by omega⟩, rfl, rfl⟩ ?_
  rintro _ _ _ ⟨k, v, rfl, ⟨hk, hv, hb1, hb2⟩, rfl, rfl⟩
  by_cases hkl : k < w.sites.length
  · obtain ⟨l, x, e1, e2, e3, b1, b2⟩ := h.at2 hkl hkl
    obtain ⟨y, hy, hyd, hy1, hy2⟩ := h.us hkl
    have r1 := intsR_at e1
    have r2 := intRows_at e2
    have r3 := intRows_at hy
    have hlr := (intRows_len l).trans (h.rr l (List.mem_of_getElem? e1))
    have hn : v + (x - y) = sumN (fun i => at2 w.rights i i - w.used.getD i 0) (k + 1) := by rw [hv, ← e3, ← hyd]; rfl
    clear hv
    repeat' (first | refine goH ?_ | refine goV ?_ | refine goB (fun b => ?_) | refine goI ?_ | (refine Cw.k_cond ?_; first | (refine Cw.cond_dec rfl (fun hc => ?_) (fun hc => ?_) <;> try (exfalso; omega)) | refine Cw.cond_bool rfl (fun hc => ?_) (fun hc => ?_)) | refine goR ?_ | refine goP ?_ | apply PSeq.cons | apply PSeq.yes rfl rfl rfl | exact goW | fail)
    exact ⟨_, _, _, (Ent.mk goSub goTk), ⟨k + 1, _, rfl, ⟨by omega, hn, by omega, by omega⟩, rfl, rfl⟩, by omega⟩
  · have e : k = w.sites.length := by omega
    rw [← e, ← hv]
    clear hv
    repeat' (first | refine goH ?_ | refine goV ?_ | refine goB (fun b => ?_) | refine goI ?_ | (refine Cw.k_cond ?_; first | (refine Cw.cond_dec rfl (fun hc => ?_) (fun hc => ?_) <;> try (exfalso; omega)) | refine Cw.cond_bool rfl (fun hc => ?_) (fun hc => ?_)) | refine goR ?_ | refine goP ?_ | apply PSeq.cons | apply PSeq.yes rfl rfl rfl | exact goW | fail)
    exact Fin.ret (Ent.take goTk) (Outs.one rfl rfl) ⟨rfl, rfl⟩
end Lg
end
section
set_option linter.all false
set_option maxRecDepth 100000
set_option maxHeartbeats 8000000
namespace Lg
open Go Go.Proofs

theorem codeKeys_gen : Gen Tryd.prog 25 18 [] 20 (fun r => ∃ l : List ByteArray, r = .strs l ∧ l.length ≤ 11) := by
  unfold Gen
  intro bs xs N hN
  refine Spec.body Tryd.func18 rfl rfl (Tryd.ntmps18) rfl fun w0 own0 M => ?_
  repeat' (first | refine goH ?_ | refine goV ?_ | refine goC (fun ad cap => ?_) | refine goI ?_ | (refine Cw.k_cond ?_; first | (refine Cw.cond_dec rfl (fun hc => ?_) (fun hc => ?_) <;> try (exfalso; omega)) | refine Cw.cond_bool rfl (fun hc => ?_) (fun hc => ?_)) | (refine Ops.k_calla ?_; first | (refine Ops.k_callf 46 ?_; (refine Ops.callGO (someO_gen 2 (by omega) [⟨#[100, 111, 111, 114]⟩, ⟨#[104, 101, 97, 116]⟩, ⟨#[106, 97, 109]⟩, ⟨#[110, 111, 110, 101]⟩] (by simp)) (Evs.cons rfl (Evs.cons rfl (Evs.cons rfl Evs.nil))) goPk (by omega) rfl (fun ad cap rows hr => ?_); obtain ⟨m, rfl, hm⟩ := hr; have hmr := strRows_len m)) | (refine Ops.k_callf 7 ?_; (refine Ops.callG (flip_gen _ (by omega)) (Evs.cons rfl (Evs.cons rfl Evs.nil)) goPk (by omega) rfl ?_; rintro r ⟨v, rfl⟩)) | (refine Ops.k_callf 35 ?_; (refine Ops.callG (one_gen (l := [⟨#[]⟩, ⟨#[68]⟩]) (by repeat' (first | exact IsStrs.nil | apply IsStrs.cons)) (by simp)) (Evs.cons rfl (Evs.cons rfl Evs.nil)) goPk (by omega) rfl ?_; rintro r ⟨s, rfl, hs⟩; clear hs))) | fail)
  · rw [show strRows m ++ [[Tr.str s]] = strRows (m ++ [s]) by rw [strRows_app]; rfl]
    refine Fin.ret (Ent.trans (Ent.settle (s := 2) rfl goPk rfl) (Ent.strm_only goPk (by omega))) (Outs.sole rfl goOe) ⟨rfl, m ++ [s], rfl, by simp; omega⟩
  · refine Fin.ret (Ent.trans (Ent.settle (s := 2) rfl goPk rfl) (Ent.strm_only goPk (by omega))) (Outs.sole rfl goOe) ⟨rfl, m, rfl, by omega⟩
theorem oneU_gen {rows : List (List Tr)} {l : List ByteArray} (hr : IsStrs rows l) (h : 0 < l.length ∧ l.length ≤ 100000) :
    Gen Tryd.prog 25 16 [.sl 1 rows] 1 (fun r => ∃ v, r = .str v ∧ v ∈ l) := by
  unfold Gen
  intro bs xs N hN
  refine Spec.body Tryd.func16 rfl rfl (Tryd.ntmps16) rfl fun w0 own0 M => ?_
  repeat' (first | refine goH ?_ | refine goV ?_ | refine goI ?_ | (refine Cw.k_cond ?_; first | (refine Cw.cond_dec rfl (fun hc => ?_) (fun hc => ?_) <;> try (exfalso; omega)) | refine Cw.cond_bool rfl (fun hc => ?_) (fun hc => ?_)) | (refine Ops.k_calla ?_; first | (refine Ops.k_callf 35 ?_; (refine Ops.callG (one_gen hr h) (Evs.cons rfl (Evs.cons rfl Evs.nil)) goPk (by omega) rfl ?_; rintro r ⟨v, rfl, hv⟩))) | fail)
  refine Fin.ret (Ent.strm_only goPk (by omega)) (Outs.sole rfl goOe) ⟨rfl, v, rfl, hv⟩
theorem wNil_bd : WBd wNil := ⟨by simp [wNil], by simp [wNil], by simp [wNil], by simp [wNil]⟩
theorem step_bd {w : Wal} {e : Int} (h : e = 0 → WOk w) : WBd (stepT w e) := by
  unfold stepT
  by_cases he : e = 0
  · rw [if_pos he]; exact (h he).bd
  · rw [if_neg he]; exact wNil_bd
theorem emp_two (s : List ByteArray) (hs : s.length ≤ 12) : ∃ (W : Wal) (e : Int), WBd W ∧ PFn Tryd.prog 19 [.strs s] (· = wTup W e) ∧ PFn Tryd.prog 9 [.strs s] (· = wTup W e) :=
  ⟨stepT (empW s) (sitE s), sitE s, step_bd fun _ => empW_ok hs, emptyD_fn s (by omega), emptyR_fn s (by omega)⟩
theorem credit_two {w : Wal} (h0 : walE w = 0) (a : ByteArray) (c : Int) (hc : -1000000000000 ≤ c ∧ c ≤ 1000000000000) : ∃ (W : Wal) (e : Int), WBd W ∧ PFn Tryd.prog 22 [.wal w, .str a, .int c] (· = wTup W e) ∧ PFn Tryd.prog 27 [.wal w, .str a, .str a, .int c, .bool true] (· = wTup W e) :=
  ⟨stepT (gvW w a a c) (gvE w a a c true), gvE w a a c true, step_bd fun h => gvW_ok (wok_E h0) h, credit_ok w h0 a c, given_fn w (wok_E h0) a a c true hc⟩
theorem give_two {w : Wal} (h0 : walE w = 0) (a b : ByteArray) (c : Int) (hc : -1000000000000 ≤ c ∧ c ≤ 1000000000000) : ∃ (W : Wal) (e : Int), WBd W ∧ PFn Tryd.prog 23 [.wal w, .str a, .str b, .int c] (· = wTup W e) ∧ PFn Tryd.prog 27 [.wal w, .str a, .str b, .int c, .bool false] (· = wTup W e) :=
  ⟨stepT (gvW w a b c) (gvE w a b c false), gvE w a b c false, step_bd fun h => gvW_ok (wok_E h0) h, give_ok w h0 a b c, given_fn w (wok_E h0) a b c false hc⟩
theorem spend_two {w : Wal} (h0 : walE w = 0) (a : ByteArray) (c : Int) (hc : -1000000000000 ≤ c ∧ c ≤ 1000000000000) : ∃ (W : Wal) (e : Int), WBd W ∧ PFn Tryd.prog 24 [.wal w, .str a, .int c] (· = wTup W e) ∧ PFn Tryd.prog 28 [.wal w, .str a, .int c] (· = wTup W e) :=
  ⟨stepT (spW w a c) (spE w a c), spE w a c, step_bd fun h => spW_ok (wok_E h0) h, spend_ok w h0 a c, spent_fn w (wok_E h0) a c hc⟩
theorem rights_two {w : Wal} (h0 : walE w = 0) (a : ByteArray) : ∃ (v e : Int), PFn Tryd.prog 25 [.wal w, .str a] (· = .tup [.int v, .int e]) ∧ PFn Tryd.prog 29 [.wal w, .str a] (· = .tup [.int v, .int e]) := by
  have h1 := rights_ok w h0 a
  have h2 := rightsOf_fn w (wok_E h0) a
  unfold rtO at h1 h2
  by_cases h : idxS w.sites a < 0
  · rw [if_pos h] at h1 h2
    exact ⟨_, _, h1, h2⟩
  · rw [if_neg h] at h1 h2
    exact ⟨_, _, h1, h2⟩
abbrev wNilT (e : Int) : Tr := .tup [.agg [.strs [], .sl 1 (intsR []), .ints []], .int e]
theorem credit_badT (w : Wal) (hw : WBd w) (h : walE w ≠ 0) (a : ByteArray) (c : Int) : PFn Tryd.prog 22 [.wal w, .str a, .int c] (· = wNilT (walE w)) := credit_bad w hw h a c
theorem give_badT (w : Wal) (hw : WBd w) (h : walE w ≠ 0) (a b : ByteArray) (c : Int) : PFn Tryd.prog 23 [.wal w, .str a, .str b, .int c] (· = wNilT (walE w)) := give_bad w hw h a b c
theorem spend_badT (w : Wal) (hw : WBd w) (h : walE w ≠ 0) (a : ByteArray) (c : Int) : PFn Tryd.prog 24 [.wal w, .str a, .int c] (· = wNilT (walE w)) := spend_bad w hw h a c
attribute [local irreducible] intRows intsR strRows valsW rowsW wAt
theorem walletsPay_law (xs : List Int) : Spec Tryd.prog 4 [Tr.ints xs] [] (fun r _ => r = Tr.bool true) := by
  refine Spec.body Tryd.func4 rfl rfl (Tryd.ntmps4) rfl fun w0 own0 M => ?_
  repeat' (first | refine goH ?_ | refine goV ?_ | refine goB (fun b => ?_) | refine goG ?_ | (refine Ops.k_guard ?_; first | (refine Ops.guard_dec rfl rfl (fun hc => ?_) (fun hc => ?_) <;> try (exfalso; omega)) | refine Ops.guard_split rfl rfl (fun hc => ?_) (fun hc => ?_)) | refine goI ?_ | (refine Cw.k_cond ?_; first | (refine Cw.cond_dec rfl (fun hc => ?_) (fun hc => ?_) <;> try (exfalso; omega)) | refine Cw.cond_bool rfl (fun hc => ?_) (fun hc => ?_)) | refine Ops.shut0 (ty := 25) rfl ?_ | (refine Ops.k_calla ?_; first | (refine Ops.k_callf 8 ?_; (refine Ops.callG wallet_gen (Evs.cons rfl Evs.nil) goPk (by omega) rfl ?_; rintro r ⟨w, rfl, hw⟩)) | (refine Ops.k_callf 16 ?_; (refine Ops.callG (oneU_gen (l := [⟨#[97]⟩, ⟨#[98]⟩, ⟨#[99]⟩, ⟨#[122]⟩]) (by repeat' (first | exact IsStrs.nil | apply IsStrs.cons)) (by simp)) (Evs.cons rfl (Evs.cons rfl Evs.nil)) goPk (by omega) rfl ?_; rintro r ⟨a, rfl, ha⟩; clear ha)) | (refine Ops.k_callf 17 ?_; (refine Ops.callG (pick_gen (by repeat' (first | exact IsInts.nil | apply IsInts.cons)) (by simp)) (Evs.cons rfl (Evs.cons rfl Evs.nil)) goPk (by omega) rfl ?_; rintro r ⟨c, rfl, hc⟩; have hcb : -1000000000000 ≤ c ∧ c ≤ 1000000000000 := (by simp at hc; omega); clear hc)) | (refine Ops.k_callf 18 ?_; (refine Ops.callG codeKeys_gen (Evs.cons rfl Evs.nil) goPk (by omega) rfl ?_; rintro r ⟨s, rfl, hs⟩))) | fail)
  rename_i a1
  obtain ⟨W1, e1, hW1, k1, k2⟩ := emp_two s (by omega)
  have k3 := sameWallet_fn W1 hW1
  have kF := walletFault_fn w hw
  have kC := checkWallet_fn w hw
  have kD := depots_fn
  by_cases h : walE w ≠ 0
  · have m1 := credit_badT w hw h a1 c
    have m2 := give_badT w hw h a1 a c
    have m3 := spend_badT w hw h a1 c
    have m4 := rights_bad w hw h a1
    have m5 := balance_bad w hw h
    generalize walE w = e at *
    repeat' (first | refine goH ?_ | refine goV ?_ | refine goB (fun b => ?_) | refine goG ?_ | (refine Ops.k_guard ?_; first | (refine Ops.guard_dec rfl rfl (fun hc => ?_) (fun hc => ?_) <;> try (exfalso; omega)) | refine Ops.guard_split rfl rfl (fun hc => ?_) (fun hc => ?_)) | refine goI ?_ | (refine Cw.k_cond ?_; first | (refine Cw.cond_dec rfl (fun hc => ?_) (fun hc => ?_) <;> try (exfalso; omega)) | refine Cw.cond_bool rfl (fun hc => ?_) (fun hc => ?_)) | (refine Ops.k_calla ?_; first | refine Ops.callV k1 (Evs.cons rfl Evs.nil) rfl ?_ | refine Ops.callV k2 (Evs.cons rfl Evs.nil) rfl ?_ | (refine Ops.k_callf 15 ?_; refine Ops.callV k3 (Evs.cons rfl (Evs.cons rfl Evs.nil)) rfl ?_) | (refine Ops.k_callf 20 ?_; refine Ops.callV kF (Evs.cons rfl Evs.nil) rfl ?_) | (refine Ops.k_callf 21 ?_; refine Ops.callV kC (Evs.cons rfl Evs.nil) rfl ?_) | (refine Ops.k_callf 22 ?_; refine Ops.callV m1 (Evs.cons rfl (Evs.cons rfl (Evs.cons rfl Evs.nil))) rfl ?_) | (refine Ops.k_callf 23 ?_; refine Ops.callV m2 (Evs.cons rfl (Evs.cons rfl (Evs.cons rfl (Evs.cons rfl Evs.nil)))) rfl ?_) | (refine Ops.k_callf 24 ?_; refine Ops.callV m3 (Evs.cons rfl (Evs.cons rfl (Evs.cons rfl Evs.nil))) rfl ?_) | (refine Ops.k_callf 25 ?_; refine Ops.callV m4 (Evs.cons rfl (Evs.cons rfl Evs.nil)) rfl ?_) | (refine Ops.k_callf 26 ?_; refine Ops.callV m5 (Evs.cons rfl Evs.nil) rfl ?_) | (refine Ops.k_callf 14 ?_; refine Ops.callV kD Evs.nil rfl ?_)) | fail)
    all_goals first | exact Fin.ret Ent.refl (Outs.one rfl rfl) rfl | (refine Fin.ret Ent.refl (Outs.one rfl rfl) (congrArg Tr.bool ?_); simp; done) | (exfalso; simp_all; done)
  · have h0 : walE w = 0 := by omega
    rw [h0] at kF kC
    obtain ⟨W2, e2, hW2, m1, n1⟩ := credit_two h0 a1 c hcb
    obtain ⟨W3, e3, hW3, m2, n2⟩ := give_two h0 a1 a c hcb
    obtain ⟨W4, e4, hW4, m3, n3⟩ := spend_two h0 a1 c hcb
    obtain ⟨v5, e5, m4, n4⟩ := rights_two h0 a1
    have m5 := balance_ok w h0
    have n5 := balanceOf_fn w (wok_E h0)
    generalize sumN (rgt w) w.sites.length = bal at *
    have q2 := sameWallet_fn W2 hW2
    have q3 := sameWallet_fn W3 hW3
    have q4 := sameWallet_fn W4 hW4
    clear h h0
    repeat' (first | refine goH ?_ | refine goV ?_ | refine goB (fun b => ?_) | refine goG ?_ | (refine Ops.k_guard ?_; first | (refine Ops.guard_dec rfl rfl (fun hc => ?_) (fun hc => ?_) <;> try (exfalso; omega)) | refine Ops.guard_split rfl rfl (fun hc => ?_) (fun hc => ?_)) | refine goI ?_ | (refine Cw.k_cond ?_; first | (refine Cw.cond_dec rfl (fun hc => ?_) (fun hc => ?_) <;> try (exfalso; omega)) | refine Cw.cond_bool rfl (fun hc => ?_) (fun hc => ?_)) | (refine Ops.k_calla ?_; first | refine Ops.callV k1 (Evs.cons rfl Evs.nil) rfl ?_ | refine Ops.callV k2 (Evs.cons rfl Evs.nil) rfl ?_ | (refine Ops.k_callf 15 ?_; refine Ops.callV k3 (Evs.cons rfl (Evs.cons rfl Evs.nil)) rfl ?_) | (refine Ops.k_callf 20 ?_; refine Ops.callV kF (Evs.cons rfl Evs.nil) rfl ?_) | (refine Ops.k_callf 21 ?_; refine Ops.callV kC (Evs.cons rfl Evs.nil) rfl ?_) | (refine Ops.k_callf 22 ?_; refine Ops.callV m1 (Evs.cons rfl (Evs.cons rfl (Evs.cons rfl Evs.nil))) rfl ?_) | (refine Ops.k_callf 23 ?_; refine Ops.callV m2 (Evs.cons rfl (Evs.cons rfl (Evs.cons rfl (Evs.cons rfl Evs.nil)))) rfl ?_) | (refine Ops.k_callf 24 ?_; refine Ops.callV m3 (Evs.cons rfl (Evs.cons rfl (Evs.cons rfl Evs.nil))) rfl ?_) | (refine Ops.k_callf 25 ?_; refine Ops.callV m4 (Evs.cons rfl (Evs.cons rfl Evs.nil)) rfl ?_) | (refine Ops.k_callf 26 ?_; refine Ops.callV m5 (Evs.cons rfl Evs.nil) rfl ?_) | (refine Ops.k_callf 14 ?_; refine Ops.callV kD Evs.nil rfl ?_) | refine Ops.callV n1 (Evs.cons rfl (Evs.cons rfl (Evs.cons rfl (Evs.cons rfl (Evs.cons rfl Evs.nil))))) rfl ?_ | refine Ops.callV n2 (Evs.cons rfl (Evs.cons rfl (Evs.cons rfl (Evs.cons rfl (Evs.cons rfl Evs.nil))))) rfl ?_ | refine Ops.callV n3 (Evs.cons rfl (Evs.cons rfl (Evs.cons rfl Evs.nil))) rfl ?_ | refine Ops.callV n4 (Evs.cons rfl (Evs.cons rfl Evs.nil)) rfl ?_ | (refine Ops.k_callf 30 ?_; refine Ops.callV n5 (Evs.cons rfl Evs.nil) rfl ?_) | (refine Ops.k_callf 15 ?_; refine Ops.callV q2 (Evs.cons rfl (Evs.cons rfl Evs.nil)) rfl ?_) | (refine Ops.k_callf 15 ?_; refine Ops.callV q3 (Evs.cons rfl (Evs.cons rfl Evs.nil)) rfl ?_) | (refine Ops.k_callf 15 ?_; refine Ops.callV q4 (Evs.cons rfl (Evs.cons rfl Evs.nil)) rfl ?_)) | fail)
    all_goals first | exact Fin.ret Ent.refl (Outs.one rfl rfl) rfl | (refine Fin.ret Ent.refl (Outs.one rfl rfl) (congrArg Tr.bool ?_); simp; done) | (exfalso; simp_all; done)
end Lg
end
