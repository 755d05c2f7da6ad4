/- A part of the proof of a law of this seat: it adds no condition. By an AI agent. -/
import Derived.Test.YtfgcjpkkbhnkgaaGreatDoorWal20
section
set_option linter.all false
set_option maxRecDepth 100000
set_option maxHeartbeats 8000000
namespace Lg
open Go Go.Proofs

theorem pullW {w : Wal} (h : WOk w) {i : Nat} {l : List Int} (e1 : w.rights[i]? = some l) {L : List IL} (hv : valsW L = w.rights) : ∃ p, L[i]? = some p ∧ p.xs = l ∧ (rowsW L)[i]? = some [Tr.raw (.slice p.ad w.sites.length p.cap)] := by
 have e := congrArg (fun l => l[i]?) hv
 simp only [e1] at e
 unfold valsW at e
 rw [List.getElem?_map] at e
 cases hp : L[i]? with
 |none => rw [hp] at e; cases e
 |some p =>
  rw [hp] at e
  have e7 : p.xs = l := Option.some.inj e
  refine ⟨p, rfl, e7, ?_⟩
  rw [rowsW_get hp]
  unfold IL.val
  rw [e7, intRows_len, h.rr l (List.mem_of_getElem? e1)]
attribute [local irreducible] intRows intsR strRows valsW rowsW idxS rgt at2 set2
theorem credit_ok (w : Wal) (h0 : walE w = 0) (a : ByteArray) (c : Int) : PFn Tryz.prog 5 [.wal w, .str a, .int c] (· = resW (gvW w a a c) (gvE w a a c true)) := by
 have h := wok_E h0
 have n12 := h.n1
 have kO := owned_fn w h.bd
 have kX := out_fn c 1 1000000000
 have hcs := idxS_cases w.sites a
 have he : gvE w a a c true = if idxS w.sites a < 0 ∨ idxS w.sites a < 0 then 8 else if true = false ∧ idxS w.sites a = idxS w.sites a then 6 else if c < 1 ∨ 1000000000 < c then 1
  else if true = false ∧ rgt w (idxS w.sites a).toNat < c then 16 else if at2 w.rights (idxS w.sites a).toNat (idxS w.sites a).toNat + c > 1000000000 then 12 else 0 := rfl
 have hW : gvW w a a c = ⟨w.sites, set2 w.rights (idxS w.sites a).toNat (idxS w.sites a).toNat (at2 w.rights (idxS w.sites a).toNat (idxS w.sites a).toNat + c), w.used⟩ := rfl
 have kP0 := places1_none (a := a) h.bd h0
 have kP1 : ∀ i : Nat, idxS w.sites a = i → _ := fun i hi => places1_ok (a := a) h.bd h0 hi
 generalize idxS w.sites a = i at *
 generalize gvW w a a c = W at *
 generalize gvE w a a c true = E at *
 refine PFn.mk (Spec.body Tryz.func5 rfl rfl (Tryz.ntmps5) rfl fun w0 own0 M => ?_)
 rcases hcs with rfl | ⟨i, rfl, _, hi⟩
 ·rw [if_pos (by omega)] at he
  subst he
  rw [resW_bad (by decide)]
  have kP := kP0 (by omega)
  clear kP0 kP1
  repeat' (first | refine goH ?_ | refine goV ?_ | refine goB (fun b => ?_) | refine goI ?_ | (refine Cw.k_cond ?_; first | (refine Cw.cond_dec rfl ?_ ?_ <;> intro hc <;> try omega) | refine Cw.cond_bool rfl ?_ ?_ <;> intro hc) | (refine Ops.k_calla ?_; first | (refine Ops.k_callf 18 ?_; refine Ops.callV kP (Evs.cons rfl (Evs.cons rfl Evs.nil)) rfl ?_)) | (apply OpW.k_call; first | (apply OpW.k_callf 18; exact OpW.callV kP (Evs.cons rfl (Evs.cons rfl Evs.nil)))) | refine goR ?_ | refine goP ?_ | apply PSeq.cons | apply PSeq.yes rfl rfl rfl | exact goW | fail)
  refine Fin.ret (Ent.trans (Ent.imp_box goPk impW0) (Ent.trans (Ent.setbox (s := 6) rfl goPk) (Ent.take goTk))) (Outs.many rfl (OutL.cons goOe (OutL.cons goOe OutL.nil)) rfl) ⟨rfl, rfl⟩
 rw [if_neg (by omega), if_neg (by simp)] at he
 rw [Int.toNat_natCast] at he hW
 have kP := kP1 i rfl
 clear kP0 kP1
 obtain ⟨l, x, e1, e2, e3, b1, b2⟩ := h.at2 hi hi
 rw [e3] at he hW
 have hl2 : Unit → l.length = w.sites.length := fun _ => h.rr l (List.mem_of_getElem? e1)
 have hlr := (intRows_len l).trans (hl2 ())
 have hUl := (intRows_len w.used).trans h.u
 by_cases q2 : c < 1 ∨ 1000000000 < c
 ·rw [if_pos q2] at he
  subst he
  rw [resW_bad (by decide)]
  have hX : outB c 1 1000000000 = true := decide_eq_true q2
  rw [hX] at kX
  repeat' (first | refine goH ?_ | refine goV ?_ | refine goB (fun b => ?_) | refine goI ?_ | (refine Cw.k_cond ?_; first | (refine Cw.cond_dec rfl ?_ ?_ <;> intro hc <;> try omega) | refine Cw.cond_bool rfl ?_ ?_ <;> intro hc) | (refine Ops.k_calla ?_; first | refine Ops.callV kP (Evs.cons rfl (Evs.cons rfl Evs.nil)) rfl ?_ | (refine Ops.k_callf 19 ?_; refine Ops.callV kX (Evs.cons rfl (Evs.cons rfl (Evs.cons rfl Evs.nil))) rfl ?_)) | (apply OpW.k_call; first | exact OpW.callV kP (Evs.cons rfl (Evs.cons rfl Evs.nil)) | (apply OpW.k_callf 19; exact OpW.callV kX (Evs.cons rfl (Evs.cons rfl (Evs.cons rfl Evs.nil))))) | refine goR ?_ | refine goP ?_ | apply PSeq.cons | apply PSeq.yes rfl rfl rfl | exact goW | fail)
  all_goals refine Fin.ret (Ent.trans (Ent.imp_box goPk impW0) (Ent.trans (Ent.setbox (s := 6) rfl goPk) (Ent.take goTk))) (Outs.many rfl (OutL.cons goOe (OutL.cons goOe OutL.nil)) rfl) ⟨rfl, rfl⟩
 rw [if_neg q2, if_neg (by simp)] at he
 have q2' : 1 ≤ c ∧ c ≤ 1000000000 := by omega
 have hX : outB c 1 1000000000 = false := decide_eq_false q2
 rw [hX] at kX
 clear q2 hX
 have hs2 : ∀ v, set2 w.rights i i v = w.rights.set i (l.set i v) := by intro v; unfold set2; rw [List.getD_eq_getElem?_getD, e1, Option.getD_some]
 repeat' (first | refine goH ?_ | refine goV ?_ | refine goB (fun b => ?_) | refine goI ?_ | (refine Cw.k_cond ?_; first | (refine Cw.cond_dec rfl ?_ ?_ <;> intro hc <;> try omega) | refine Cw.cond_bool rfl ?_ ?_ <;> intro hc) | (refine Ops.k_calla ?_; first | refine Ops.callV kP (Evs.cons rfl (Evs.cons rfl Evs.nil)) rfl ?_ | (refine Ops.k_callf 19 ?_; refine Ops.callV kX (Evs.cons rfl (Evs.cons rfl (Evs.cons rfl Evs.nil))) rfl ?_)) | (apply OpW.k_call; first | exact OpW.callV kP (Evs.cons rfl (Evs.cons rfl Evs.nil)) | (apply OpW.k_callf 19; exact OpW.callV kX (Evs.cons rfl (Evs.cons rfl (Evs.cons rfl Evs.nil))))) | refine goR ?_ | refine goP ?_ | apply PSeq.cons | apply PSeq.yes rfl rfl rfl | exact goW | fail)
 refine Ops.k_calla ?_
 refine Ops.call kO (Evs.cons rfl Evs.nil) goPm rfl ?_
 rintro r cs' ⟨adR, capR, L, adU, capU, rfl, hv, rfl⟩
 have hLl : (rowsW L).length = w.sites.length := (by rw [rowsW_len, ← valsW_len, hv]; exact h.r)
 rw [walV_n hLl hUl]
 obtain ⟨p, hp, hpx, hpr⟩ := pullW h e1 hv
 refine Ops.ent (ent_pullW (E := 3) hp (by exact goPk)) ?_
 rw [hpx]
 obtain ⟨e, ys, r0, r1, r2, hM, hD, hcase⟩ := more_done adR adU w.sites.length capR capU w.sites p.ad p.cap l i x c e2 ⟨b1, b2⟩ q2'
 repeat' (first | refine goH ?_ | refine goV ?_ | refine goB (fun b => ?_) | refine goI ?_ | (refine Cw.k_cond ?_; first | (refine Cw.cond_dec rfl ?_ ?_ <;> intro hc <;> try omega) | refine Cw.cond_bool rfl ?_ ?_ <;> intro hc) | fail)
 rename_i b3
 first | refine Cw.region_YP (fun ξ S => Chunk.own p.ad p.cap 1 3 (stg (S 13) (intRows l) (intRows ys)) :: Chunk.box b3 29 [.strs w.sites, Tr.raw (.slice adR w.sites.length capR), Tr.raw (.slice adU w.sites.length capU)] :: Chunk.box b 29 (stg (S 17) [Tr.raw (.slice none 0 0), Tr.raw (.slice none 0 0), Tr.raw (.slice none 0 0)] [r0, r1, r2]) :: restW 3 L i :: Chunk.own adU capU 1 3 (intRows w.used) :: Chunk.own adR capR 1 22 (rowsW L) :: []) rfl (by decide +kernel) rfl ((fun (ξ : Nat → Value) (S : Nat → Bool) => Chunk.own p.ad p.cap 1 3 (stg (S 13) (intRows l) (intRows ys)) :: Chunk.box b3 29 [.strs w.sites, Tr.raw (.slice adR w.sites.length capR), Tr.raw (.slice adU w.sites.length capU)] :: Chunk.box b 29 (stg (S 17) [Tr.raw (.slice none 0 0), Tr.raw (.slice none 0 0), Tr.raw (.slice none 0 0)] [r0, r1, r2]) :: restW 3 L i :: Chunk.own adU capU 1 3 (intRows w.used) :: Chunk.own adR capR 1 22 (rowsW L) :: []) (fun _ => undef) (fun _ => false)) (by simp only [upd_same, updD_same, upd_ne, updD_ne, ne_eq, Nat.reduceEqDiff, not_false_eq_true, stg_t, stg_f, vAd_s, vCap_s, blk_p, List.cons_append, List.nil_append, b2n_t, b2n_f]; exact goXm) (fun _ => rfl) ?_ | fail
 apply YSeq.w (by intro _ _ _; rfl)
 ·intro ξ S h1 h2 h3 h4
  have hN0_17 := closed_false h1 h3 (k := 17) rfl (by decide)
  try simp only [upd_same, updD_same, upd_ne, updD_ne, ne_eq, Nat.reduceEqDiff, not_false_eq_true, stg_t, stg_f, vAd_s, vCap_s, blk_p, List.cons_append, List.nil_append, b2n_t, b2n_f, hN0_17]
  exact goW
 ·intro ξ v; rfl
 ·intro ξ k v S h3 hn hk
  first
  |rfl
 apply YSeq.w (by intro _ _ _; rfl)
 ·intro ξ S h1 h2 h3 h4
  have hN1_2 := closed_false h1 h3 (k := 2) rfl (by decide)
  have hN1_6 := closed_false hN1_2 h3 (k := 6) rfl (by decide)
  have hN1_7 := closed_false hN1_6 h3 (k := 7) rfl (by decide)
  have hN1_11 := closed_false hN1_7 h3 (k := 11) rfl (by decide)
  have hN1_13 := closed_false hN1_11 h3 (k := 13) rfl (by decide)
  have hN1_17 := closed_false h1 h3 (k := 17) rfl (by decide)
  try simp only [upd_same, updD_same, upd_ne, updD_ne, ne_eq, Nat.reduceEqDiff, not_false_eq_true, stg_t, stg_f, vAd_s, vCap_s, blk_p, List.cons_append, List.nil_append, b2n_t, b2n_f, hN1_13, hN1_17]
  exact goW
 ·intro ξ v; rfl
 ·intro ξ k v S h3 hn hk
  first
  |rfl
 apply YSeq.w (by intro _ _ _; rfl)
 ·intro ξ S h1 h2 h3 h4
  have hN2_6 := closed_false h1 h3 (k := 6) rfl (by decide)
  have hN2_7 := closed_false hN2_6 h3 (k := 7) rfl (by decide)
  have hN2_11 := closed_false hN2_7 h3 (k := 11) rfl (by decide)
  have hN2_13 := closed_false hN2_11 h3 (k := 13) rfl (by decide)
  have hN2_17 := closed_false h1 h3 (k := 17) rfl (by decide)
  try simp only [upd_same, updD_same, upd_ne, updD_ne, ne_eq, Nat.reduceEqDiff, not_false_eq_true, stg_t, stg_f, vAd_s, vCap_s, blk_p, List.cons_append, List.nil_append, b2n_t, b2n_f, hN2_13, hN2_17]
  exact goW
 ·intro ξ v; rfl
 ·intro ξ k v S h3 hn hk
  first
  |rfl
 apply YSeq.w (by intro _ _ _; rfl)
 ·intro ξ S h1 h2 h3 h4
  have hN3_4 := closed_false h1 h3 (k := 4) rfl (by decide)
  have hN3_5 := closed_false hN3_4 h3 (k := 5) rfl (by decide)
  have hN3_6 := closed_false hN3_5 h3 (k := 6) rfl (by decide)
  have hN3_7 := closed_false hN3_6 h3 (k := 7) rfl (by decide)
  have hN3_11 := closed_false hN3_7 h3 (k := 11) rfl (by decide)
  have hN3_13 := closed_false hN3_11 h3 (k := 13) rfl (by decide)
  have hN3_17 := closed_false h1 h3 (k := 17) rfl (by decide)
  try simp only [upd_same, updD_same, upd_ne, updD_ne, ne_eq, Nat.reduceEqDiff, not_false_eq_true, stg_t, stg_f, vAd_s, vCap_s, blk_p, List.cons_append, List.nil_append, b2n_t, b2n_f, hN3_13, hN3_17]
  exact goW
 ·intro ξ v; rfl
 ·intro ξ k v S h3 hn hk
  first
  |rfl
 apply YSeq.w (by intro _ _ _; rfl)
 ·intro ξ S h1 h2 h3 h4
  have hN4_5 := closed_false h1 h3 (k := 5) rfl (by decide)
  have hN4_6 := closed_false hN4_5 h3 (k := 6) rfl (by decide)
  have hN4_7 := closed_false hN4_6 h3 (k := 7) rfl (by decide)
  have hN4_11 := closed_false hN4_7 h3 (k := 11) rfl (by decide)
  have hN4_13 := closed_false hN4_11 h3 (k := 13) rfl (by decide)
  have hN4_17 := closed_false h1 h3 (k := 17) rfl (by decide)
  try simp only [upd_same, updD_same, upd_ne, updD_ne, ne_eq, Nat.reduceEqDiff, not_false_eq_true, stg_t, stg_f, vAd_s, vCap_s, blk_p, List.cons_append, List.nil_append, b2n_t, b2n_f, hN4_13, hN4_17]
  exact goW
 ·intro ξ v; rfl
 ·intro ξ k v S h3 hn hk
  first
  |rfl
 apply YSeq.w (by intro _ _ _; rfl)
 ·intro ξ S h1 h2 h3 h4
  have hN5_6 := closed_false h1 h3 (k := 6) rfl (by decide)
  have hN5_7 := closed_false hN5_6 h3 (k := 7) rfl (by decide)
  have hN5_11 := closed_false hN5_7 h3 (k := 11) rfl (by decide)
  have hN5_13 := closed_false hN5_11 h3 (k := 13) rfl (by decide)
  have hN5_17 := closed_false h1 h3 (k := 17) rfl (by decide)
  try simp only [upd_same, updD_same, upd_ne, updD_ne, ne_eq, Nat.reduceEqDiff, not_false_eq_true, stg_t, stg_f, vAd_s, vCap_s, blk_p, List.cons_append, List.nil_append, b2n_t, b2n_f, hN5_13, hN5_17]
  exact goW
 ·intro ξ v; rfl
 ·intro ξ k v S h3 hn hk
  first
  |rfl
 apply YSeq.w (by intro _ _ _; rfl)
 ·intro ξ S h1 h2 h3 h4
  have hN6_7 := closed_false h1 h3 (k := 7) rfl (by decide)
  have hN6_11 := closed_false hN6_7 h3 (k := 11) rfl (by decide)
  have hN6_13 := closed_false hN6_11 h3 (k := 13) rfl (by decide)
  have hN6_17 := closed_false h1 h3 (k := 17) rfl (by decide)
  try simp only [upd_same, updD_same, upd_ne, updD_ne, ne_eq, Nat.reduceEqDiff, not_false_eq_true, stg_t, stg_f, vAd_s, vCap_s, blk_p, List.cons_append, List.nil_append, b2n_t, b2n_f, hN6_13, hN6_17]
  exact goW
 ·intro ξ v; rfl
 ·intro ξ k v S h3 hn hk
  first
  |rfl
 apply YSeq.w (by intro _ _ _; rfl)
 ·intro ξ S h1 h2 h3 h4
  have hN7_11 := closed_false h1 h3 (k := 11) rfl (by decide)
  have hN7_13 := closed_false hN7_11 h3 (k := 13) rfl (by decide)
  have hN7_17 := closed_false h1 h3 (k := 17) rfl (by decide)
  try simp only [upd_same, updD_same, upd_ne, updD_ne, ne_eq, Nat.reduceEqDiff, not_false_eq_true, stg_t, stg_f, vAd_s, vCap_s, blk_p, List.cons_append, List.nil_append, b2n_t, b2n_f, hN7_13, hN7_17]
  exact goW
 ·intro ξ v; rfl
 ·intro ξ k v S h3 hn hk
  first
  |rfl
 apply YSeq.w (by intro _ _ _; rfl)
 ·intro ξ S h1 h2 h3 h4
  have hN8_9 := closed_false h1 h3 (k := 9) rfl (by decide)
  have hN8_10 := closed_false hN8_9 h3 (k := 10) rfl (by decide)
  have hN8_11 := closed_false hN8_10 h3 (k := 11) rfl (by decide)
  have hN8_13 := closed_false hN8_11 h3 (k := 13) rfl (by decide)
  have hN8_17 := closed_false h1 h3 (k := 17) rfl (by decide)
  try simp only [upd_same, updD_same, upd_ne, updD_ne, ne_eq, Nat.reduceEqDiff, not_false_eq_true, stg_t, stg_f, vAd_s, vCap_s, blk_p, List.cons_append, List.nil_append, b2n_t, b2n_f, hN8_13, hN8_17]
  exact goW
 ·intro ξ v; rfl
 ·intro ξ k v S h3 hn hk
  first
  |rfl
 apply YSeq.w (by intro _ _ _; rfl)
 ·intro ξ S h1 h2 h3 h4
  have hN9_10 := closed_false h1 h3 (k := 10) rfl (by decide)
  have hN9_11 := closed_false hN9_10 h3 (k := 11) rfl (by decide)
  have hN9_13 := closed_false hN9_11 h3 (k := 13) rfl (by decide)
  have hN9_17 := closed_false h1 h3 (k := 17) rfl (by decide)
  try simp only [upd_same, updD_same, upd_ne, updD_ne, ne_eq, Nat.reduceEqDiff, not_false_eq_true, stg_t, stg_f, vAd_s, vCap_s, blk_p, List.cons_append, List.nil_append, b2n_t, b2n_f, hN9_13, hN9_17]
  exact goW
 ·intro ξ v; rfl
 ·intro ξ k v S h3 hn hk
  first
  |rfl
 apply YSeq.w (by intro _ _ _; rfl)
 ·intro ξ S h1 h2 h3 h4
  have hN10_11 := closed_false h1 h3 (k := 11) rfl (by decide)
  have hN10_13 := closed_false hN10_11 h3 (k := 13) rfl (by decide)
  have hN10_17 := closed_false h1 h3 (k := 17) rfl (by decide)
  try simp only [upd_same, updD_same, upd_ne, updD_ne, ne_eq, Nat.reduceEqDiff, not_false_eq_true, stg_t, stg_f, vAd_s, vCap_s, blk_p, List.cons_append, List.nil_append, b2n_t, b2n_f, hN10_13, hN10_17]
  exact goW
 ·intro ξ v; rfl
 ·intro ξ k v S h3 hn hk
  first
  |rfl
 apply YSeq.w (by intro _ _ _; rfl)
 ·intro ξ S h1 h2 h3 h4
  have hN11_13 := closed_false h1 h3 (k := 13) rfl (by decide)
  have hN11_17 := closed_false h1 h3 (k := 17) rfl (by decide)
  try simp only [upd_same, updD_same, upd_ne, updD_ne, ne_eq, Nat.reduceEqDiff, not_false_eq_true, stg_t, stg_f, vAd_s, vCap_s, blk_p, List.cons_append, List.nil_append, b2n_t, b2n_f, hN11_13, hN11_17]
  exact goW
 ·intro ξ v; rfl
 ·intro ξ k v S h3 hn hk
  first
  |rfl
 apply YSeq.w (by intro _ _ _; rfl)
 ·intro ξ S h1 h2 h3 h4
  have hN12_13 := closed_false h1 h3 (k := 13) rfl (by decide)
  have hN12_17 := closed_false h1 h3 (k := 17) rfl (by decide)
  try simp only [upd_same, updD_same, upd_ne, updD_ne, ne_eq, Nat.reduceEqDiff, not_false_eq_true, stg_t, stg_f, vAd_s, vCap_s, blk_p, List.cons_append, List.nil_append, b2n_t, b2n_f, hN12_13, hN12_17]
  exact goW
 ·intro ξ v; rfl
 ·intro ξ k v S h3 hn hk
  first
  |rfl
 apply YSeq.callC
 ·intro ξ S h1 h2 h3 h4
  have hN13_17 := closed_false h1 h3 (k := 17) rfl (by decide)
  try simp only [upd_same, updD_same, upd_ne, updD_ne, ne_eq, Nat.reduceEqDiff, not_false_eq_true, stg_t, stg_f, vAd_s, vCap_s, blk_p, List.cons_append, List.nil_append, b2n_t, b2n_f, h1, hN13_17]
  exact ⟨_, _, _, _, hM, (Evs.cons rfl (Evs.cons rfl Evs.nil)), goXp, fun v => (by first | exact goXp | (simp only [upd_same, updD_same, upd_ne, updD_ne, ne_eq, Nat.reduceEqDiff, not_false_eq_true, stg_t, stg_f, vAd_s, vCap_s, blk_p, List.cons_append, List.nil_append, b2n_t, b2n_f]; exact goXp))⟩
 ·intro ξ v; rfl
 ·intro ξ k v S h3 hn hk
  first
  |rfl
 apply YSeq.callV (by intro _ _ _; rfl)
 ·intro ξ S h1 h2 h3 h4
  have hY14_13 : S 13 = true := h2 13 (by decide)
  have hN14_17 := closed_false h1 h3 (k := 17) rfl (by decide)
  try simp only [upd_same, updD_same, upd_ne, updD_ne, ne_eq, Nat.reduceEqDiff, not_false_eq_true, stg_t, stg_f, vAd_s, vCap_s, blk_p, List.cons_append, List.nil_append, b2n_t, b2n_f, hY14_13, hN14_17]
  exact ⟨_, (Evs.cons rfl (Evs.cons rfl Evs.nil)), hD⟩
 ·intro ξ v; rfl
 ·intro ξ k v S h3 hn hk
  first
  |rfl
 apply YSeq.w (by intro _ _ _; rfl)
 ·intro ξ S h1 h2 h3 h4
  have hY15_14 : S 14 = true := h2 14 (by decide)
  have hY15_13 : S 13 = true := h3 14 _ rfl hY15_14 13 (by decide)
  have hN15_17 := closed_false h1 h3 (k := 17) rfl (by decide)
  try simp only [upd_same, updD_same, upd_ne, updD_ne, ne_eq, Nat.reduceEqDiff, not_false_eq_true, stg_t, stg_f, vAd_s, vCap_s, blk_p, List.cons_append, List.nil_append, b2n_t, b2n_f, hY15_13, hN15_17]
  exact goW
 ·intro ξ v; rfl
 ·intro ξ k v S h3 hn hk
  first
  |rfl
 apply YSeq.w (by intro _ _ _; rfl)
 ·intro ξ S h1 h2 h3 h4
  have hY16_14 : S 14 = true := h2 14 (by decide)
  have hY16_13 : S 13 = true := h3 14 _ rfl hY16_14 13 (by decide)
  have hN16_17 := closed_false h1 h3 (k := 17) rfl (by decide)
  try simp only [upd_same, updD_same, upd_ne, updD_ne, ne_eq, Nat.reduceEqDiff, not_false_eq_true, stg_t, stg_f, vAd_s, vCap_s, blk_p, List.cons_append, List.nil_append, b2n_t, b2n_f, hY16_13, hN16_17]
  exact goW
 ·intro ξ v; rfl
 ·intro ξ k v S h3 hn hk
  first
  |rfl
 apply YSeq.store
 ·intro ξ S h1 h2 h3 h4
  have hY17_13 : S 13 = true := h2 13 (by decide)
  simp only [upd_same, updD_same, upd_ne, updD_ne, ne_eq, Nat.reduceEqDiff, not_false_eq_true, stg_t, stg_f, vAd_s, vCap_s, blk_p, List.cons_append, List.nil_append, b2n_t, b2n_f, hY17_13, h1]
  refine ⟨_, _, _, _, _, _, _, rfl, rfl, inferInstance, goXp, rfl, Nat.le_of_ble_eq_true rfl, ?_⟩
  exact goXm
 apply YSeq.w (by intro _ _ _; rfl)
 ·intro ξ S h1 h2 h3 h4
  have hY18_13 : S 13 = true := h2 13 (by decide)
  have hY18_17 : S 17 = true := h2 17 (by decide)
  try simp only [upd_same, updD_same, upd_ne, updD_ne, ne_eq, Nat.reduceEqDiff, not_false_eq_true, stg_t, stg_f, vAd_s, vCap_s, blk_p, List.cons_append, List.nil_append, b2n_t, b2n_f, hY18_13, hY18_17]
  exact goW
 ·intro ξ v; rfl
 ·intro ξ k v S h3 hn hk
  first
  |rfl
 refine YSeq.nil fun ξ hf => ?_
 refine ⟨[(6, _), (7, _)], _, Ent.trans (Ent.eqc rfl (by first | (simp only [upd_same, updD_same, upd_ne, updD_ne, ne_eq, Nat.reduceEqDiff, not_false_eq_true, stg_t, stg_f, vAd_s, vCap_s, blk_p, List.cons_append, List.nil_append, b2n_t, b2n_f, ownV, slV, ptV] <;> rfl) | rfl)) (Ent.sub goSub), ?_⟩
 clear hf
 rcases hcase with ⟨q4, rfl, rfl, q5⟩ | ⟨q4, rfl, rfl, q5⟩
 ·rw [if_pos q4] at he
  subst he
  rw [resW_bad (by decide), q5]
  repeat' (first | refine goH ?_ | refine goV ?_ | refine goB (fun b => ?_) | refine goI ?_ | (refine Cw.k_cond ?_; first | (refine Cw.cond_dec rfl ?_ ?_ <;> intro hc <;> try omega) | refine Cw.cond_bool rfl ?_ ?_ <;> intro hc) | refine goR ?_ | refine goP ?_ | apply PSeq.cons | apply PSeq.yes rfl rfl rfl | exact goW | fail)
  refine Fin.ret (Ent.trans (Ent.imp_box goPk impW0) (Ent.trans (Ent.setbox (s := 6) rfl goPk) (Ent.take goTk))) (Outs.many rfl (OutL.cons goOe (OutL.cons goOe OutL.nil)) rfl) ⟨rfl, rfl⟩
 ·rw [if_neg q4] at he
  subst he
  rw [resW_ok rfl, q5]
  have hls : (intRows (l.set i (x + c))).length = w.sites.length := by rw [intRows_len, List.length_set]; exact hl2 ()
  have hq : (⟨p.ad, p.cap, l.set i (x + c)⟩ : IL).val = p.val := by unfold IL.val; rw [hls, hpx, hlr]
  have hLs : (rowsW (L.set i ⟨p.ad, p.cap, l.set i (x + c)⟩)).length = w.sites.length := by rw [rowsW_set hp hq]; exact hLl
  repeat' (first | refine goH ?_ | refine goV ?_ | refine goB (fun b => ?_) | refine goI ?_ | (refine Cw.k_cond ?_; first | (refine Cw.cond_dec rfl ?_ ?_ <;> intro hc <;> try omega) | refine Cw.cond_bool rfl ?_ ?_ <;> intro hc) | refine goR ?_ | refine goP ?_ | apply PSeq.cons | apply PSeq.yes rfl rfl rfl | exact goW | fail)
  refine Fin.ent (ent_putW (E := 3) (q := ⟨p.ad, p.cap, l.set i (x + c)⟩) hp (by exact goPk) (by exact goPk)) ?_
  rw [← rowsW_set hp hq]
  refine Fin.ret (Ent.trans (Ent.settle_wal (b := b) (by exact Perm.cons' goPk (Perm.cons' goPk (Perm.cons' goPk (Perm.cons' goPk (List.Perm.refl _))))) hLs hUl) (Ent.trans (Ent.setbox (s := 6) rfl goPk) (Ent.take goTk))) (Outs.many rfl (OutL.cons goOe (OutL.cons goOe OutL.nil)) rfl) ⟨rfl, ?_⟩
  rw [hW, hs2, valsW_set, hv]
end Lg
end
section
set_option linter.all false
set_option maxRecDepth 100000
set_option maxHeartbeats 8000000
namespace Lg
open Go Go.Proofs

/-! ### sums -/
def sumN (f : Nat → Int) : Nat → Int
 |0 => 0
 |k + 1 => sumN f k + f k
theorem rgt_bd {w : Wal} (h : WOk w) {i : Nat} (hi : i < w.sites.length) : -13000000000 ≤ rgt w i ∧ rgt w i ≤ 13000000000 := by
 have := rgtN_bd h hi w.sites.length (Nat.le_refl _)
 have n1 := h.n1
 unfold rgt
 omega
attribute [local irreducible] intRows intsR strRows valsW rowsW idxS rgt at2 set2
theorem balance_ok (w : Wal) (h0 : walE w = 0) : PFn Tryz.prog 13 [.wal w] (· = .tup [.int (sumN (rgt w) w.sites.length), .int 0]) := by
 have h := wok_E h0
 have n12 := h.n1
 have hS := strRows_len w.sites
 have kP := checkWallet_fn w h.bd
 rw [h0] at kP
 refine PFn.mk (Spec.body Tryz.func13 rfl rfl (Tryz.ntmps13) rfl fun w0 own0 M => ?_)
 repeat' (first | refine goH ?_ | refine goV ?_ | refine goB (fun b => ?_) | refine goI ?_ | (refine Cw.k_cond ?_; first | (refine Cw.cond_dec rfl ?_ ?_ <;> intro hc <;> try omega) | refine Cw.cond_bool rfl ?_ ?_ <;> intro hc) | (refine Ops.k_calla ?_; first | (refine Ops.k_callf 34 ?_; refine Ops.callV kP (Evs.cons rfl Evs.nil) rfl ?_)) | fail)
 refine Cw.loopI [(1, _), (14, _)] _ (fun q e cc => ∃ (k : Nat) (v : Int), q = w.sites.length - k ∧ (k ≤ w.sites.length ∧ v = sumN (rgt w) k ∧ -13000000000 * (k : Int) ≤ v ∧ v ≤ 13000000000 * (k : Int)) ∧ e = [(5, .int v), (15, .int k)] ∧ cc = []) ⟨_, _, _, (Ent.mkP goSub goPm), 0, 0, rfl, ⟨by omega, rfl, by omega, by omega⟩, rfl, rfl⟩ ?_
 rintro _ _ _ ⟨k, v, rfl, ⟨hk, hv, hb1, hb2⟩, rfl, rfl⟩
 by_cases hkl : k < w.sites.length
 ·have kR := rightsD_fn w h k hkl
  have hb := rgt_bd h hkl
  have hn : v + rgt w k = sumN (rgt w) (k + 1) := by rw [hv]; rfl
  generalize rgt w k = x at *
  clear hv
  repeat' (first | refine goH ?_ | refine goV ?_ | refine goB (fun b => ?_) | refine goI ?_ | (refine Cw.k_cond ?_; first | (refine Cw.cond_dec rfl ?_ ?_ <;> intro hc <;> try omega) | refine Cw.cond_bool rfl ?_ ?_ <;> intro hc) | (refine Ops.k_calla ?_; first | (refine Ops.k_callf 32 ?_; refine Ops.callV kR (Evs.cons rfl (Evs.cons rfl Evs.nil)) rfl ?_)) | fail)
  exact ⟨_, _, _, (Ent.mk goSub goTk), ⟨k + 1, _, rfl, ⟨by omega, hn, by omega, by omega⟩, rfl, rfl⟩, by omega⟩
 ·have e : k = w.sites.length := by omega
  rw [← e, ← hv]
  clear hv
  repeat' (first | refine goH ?_ | refine goV ?_ | refine goB (fun b => ?_) | refine goI ?_ | (refine Cw.k_cond ?_; first | (refine Cw.cond_dec rfl ?_ ?_ <;> intro hc <;> try omega) | refine Cw.cond_bool rfl ?_ ?_ <;> intro hc) | fail)
  refine Fin.ret (Ent.take goTk) (Outs.many rfl (OutL.cons goOe (OutL.cons goOe OutL.nil)) rfl) ⟨rfl, rfl⟩
end Lg
end
section
set_option linter.all false
set_option maxRecDepth 100000
set_option maxHeartbeats 1000000
namespace Lg
open Go Go.Proofs

/-! ### TopMarkets in plain terms: the wallets -/
abbrev abcT : List ByteArray := [⟨#[97]⟩, ⟨#[98]⟩, ⟨#[99]⟩]
def keyW : Nat → ByteArray
 |0 => ⟨#[97]⟩
 |1 => ⟨#[98]⟩
 |_ => ⟨#[99]⟩
def w3 (c u : Nat → Int) : Wal := ⟨abcT, [[c 0, 0, 0], [0, c 1, 0], [0, 0, c 2]], [u 0, u 1, u 2]⟩
theorem w3_ext {c c' u u' : Nat → Int} (h1 : ∀ i, i < 3 → c i = c' i) (h2 : ∀ i, i < 3 → u i = u' i) : w3 c u = w3 c' u' := by
 unfold w3
 rw [h1 0 (by omega), h1 1 (by omega), h1 2 (by omega), h2 0 (by omega), h2 1 (by omega), h2 2 (by omega)]
theorem ix3 (i : Nat) (hi : i < 3) : idxS abcT (keyW i) = i := by
 rcases (show i = 0 ∨ i = 1 ∨ i = 2 by omega) with rfl | rfl | rfl <;> decide +kernel
theorem sitE3 : sitE abcT = 0 := by decide +kernel
theorem rgt3 (c u : Nat → Int) (i : Nat) (hi : i < 3) : rgt (w3 c u) i = c i - u i := by
 rcases (show i = 0 ∨ i = 1 ∨ i = 2 by omega) with rfl | rfl | rfl <;> simp [rgt, rgtN, w3, at2]
structure W3 (c u : Nat → Int) : Prop where
 h : ∀ i, i < 3 → 0 ≤ u i ∧ u i ≤ c i ∧ c i ≤ 1000
theorem walE3 {c u : Nat → Int} (h : W3 c u) : walE (w3 c u) = 0 := by
 have h0 := h.h 0 (by omega)
 have h1 := h.h 1 (by omega)
 have h2 := h.h 2 (by omega)
 unfold walE
 rw [if_neg (by show ¬ sitE abcT ≠ 0; rw [sitE3]; decide), if_neg (by simp [badForm, w3, formB]), if_neg]
 ·show firstE (rgtE (w3 c u)) 0 3 = 0
  have e : ∀ i, i < 3 → rgtE (w3 c u) i = 0 := fun i hi => by
   unfold rgtE
   rw [rgt3 c u i hi, if_neg (by have := h.h i hi; omega)]
  unfold firstE
  rw [e 0 (by omega), if_neg (by decide)]
  unfold firstE
  rw [e 1 (by omega), if_neg (by decide)]
  unfold firstE
  rw [e 2 (by omega), if_neg (by decide)]
  rfl
 ·simp [w3, bC]
  omega
theorem gv3 (i : Nat) (hi : i < 3) : gvE (w3 (fun _ => 0) (fun _ => 0)) (keyW i) (keyW i) 500 true = 0 ∧ gvW (w3 (fun _ => 0) (fun _ => 0)) (keyW i) (keyW i) 500 = w3 (fun j => if j = i then 500 else 0) (fun _ => 0) := by
 have hx := ix3 i hi
 have hs : (w3 (fun _ => 0) (fun _ => 0)).sites = abcT := rfl
 unfold gvE gvW
 rw [hs, hx]
 rcases (show i = 0 ∨ i = 1 ∨ i = 2 by omega) with rfl | rfl | rfl <;> exact ⟨by decide +kernel, rfl⟩
theorem sp3 {c u : Nat → Int} (h : W3 c u) (i : Nat) (hi : i < 3) {p : Int} (hp : 1 ≤ p ∧ p ≤ 1000) : spE (w3 c u) (keyW i) p = (if c i - u i < p then 16 else 0) ∧ spW (w3 c u) (keyW i) p = w3 c (fun j => if j = i then u i + p else u j) := by
 have hx := ix3 i hi
 have hs : (w3 c u).sites = abcT := rfl
 have hu : (w3 c u).used.getD i 0 = u i := by rcases (show i = 0 ∨ i = 1 ∨ i = 2 by omega) with rfl | rfl | rfl <;> rfl
 have hb := h.h i hi
 unfold spE spW
 rw [hs, hx, Int.toNat_natCast, hu, if_neg (by omega), if_neg (by omega), rgt3 c u i hi]
 constructor
 ·split
  ·rfl
  ·rw [if_neg (by omega)]
 ·rcases (show i = 0 ∨ i = 1 ∨ i = 2 by omega) with rfl | rfl | rfl <;> rfl
theorem mrg3 (c u c' u' : Nat → Int) : mrgW (w3 c u) (w3 c' u') = w3 (fun i => max (c i) (c' i)) (fun i => max (u i) (u' i)) := by
 simp [mrgW, w3, mxR, mxL]
theorem mrgE3 {c u c' u' : Nat → Int} (h : W3 c u) (h' : W3 c' u') (hm : W3 (fun i => max (c i) (c' i)) (fun i => max (u i) (u' i))) : mrgE (w3 c u) (w3 c' u') = 0 := by
 unfold mrgE
 have : pairE (w3 c u) (w3 c' u') = 0 := by
  unfold pairE
  rw [walE3 h, walE3 h']
  rfl
 rw [if_neg (by rw [this]; decide), mrg3]
 exact walE3 hm
theorem bal3 (c u : Nat → Int) : sumN (rgt (w3 c u)) (w3 c u).sites.length = (c 0 - u 0) + (c 1 - u 1) + (c 2 - u 2) := by
 show sumN (rgt (w3 c u)) 3 = _
 rw [sumN, sumN, sumN, sumN, rgt3 c u 0 (by omega), rgt3 c u 1 (by omega), rgt3 c u 2 (by omega)]
 omega
/-- what is seen of three kiosks -/
def seenC (f : Nat → Bool) (j : Nat) : Int := if f j = true then 500 else 0
def seenU (f : Nat → Bool) (U : Nat → Int) (j : Nat) : Int := if f j = true then U j else 0
theorem seen_ok (f : Nat → Bool) {U : Nat → Int} (hU : ∀ j, 0 ≤ U j ∧ U j ≤ 500) : W3 (seenC f) (seenU f U) := ⟨fun i _ => by
 have := hU i
 unfold seenC seenU
 split <;> omega⟩
theorem seen_mrg (f : Nat → Bool) {U : Nat → Int} (hU : ∀ j, 0 ≤ U j ∧ U j ≤ 500) (k : Nat) :
  mrgW (w3 (seenC f) (seenU f U)) (w3 (seenC fun j => decide (j = k)) (seenU (fun j => decide (j = k)) U)) = w3 (seenC fun j => decide (j = k) || f j) (seenU (fun j => decide (j = k) || f j) U) ∧
  mrgE (w3 (seenC f) (seenU f U)) (w3 (seenC fun j => decide (j = k)) (seenU (fun j => decide (j = k)) U)) = 0 := by
 have e1 : ∀ i, max (seenC f i) (seenC (fun j => decide (j = k)) i) = seenC (fun j => decide (j = k) || f j) i := fun i => by
  unfold seenC
  show max (if f i = true then (500 : Int) else 0) (if decide (i = k) = true then 500 else 0) = if (decide (i = k) || f i) = true then 500 else 0
  by_cases h : i = k
  ·rw [decide_eq_true h, Bool.true_or, if_pos rfl]
   split <;> omega
  ·rw [decide_eq_false h, Bool.false_or, if_neg (show ¬ (false = true) by decide)]
   split <;> omega
 have e2 : ∀ i, max (seenU f U i) (seenU (fun j => decide (j = k)) U i) = seenU (fun j => decide (j = k) || f j) U i := fun i => by
  have := hU i
  unfold seenU
  show max (if f i = true then U i else 0) (if decide (i = k) = true then U i else 0) = if (decide (i = k) || f i) = true then U i else 0
  by_cases h : i = k
  ·rw [decide_eq_true h, Bool.true_or, if_pos rfl]
   split <;> omega
  ·rw [decide_eq_false h, Bool.false_or, if_neg (show ¬ (false = true) by decide)]
   split <;> omega
 have e : w3 (fun i => max (seenC f i) (seenC (fun j => decide (j = k)) i)) (fun i => max (seenU f U i) (seenU (fun j => decide (j = k)) U i)) = w3 (seenC fun j => decide (j = k) || f j) (seenU (fun j => decide (j = k) || f j) U) := w3_ext (fun i _ => e1 i) (fun i _ => e2 i)
 refine ⟨(mrg3 _ _ _ _).trans e, mrgE3 (seen_ok f hU) (seen_ok _ hU) ⟨fun i hi => ?_⟩⟩
 rw [e1, e2]
 exact (seen_ok _ hU).h i hi
end Lg
end
