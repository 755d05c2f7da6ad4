/- A part of the proof of a law of this seat: it adds no condition. By an AI agent. -/
import Derived.Test.YtfgcjpkkbhnkgaaGreatDoorWal12
section
set_option linter.all false
set_option maxRecDepth 100000
set_option maxHeartbeats 8000000
namespace Lg
open Go Go.Proofs

attribute [local irreducible] intRows intsR strRows valsW rowsW idxS rgt at2 set2
end Lg
end
section
set_option linter.all false
set_option maxRecDepth 100000
set_option maxHeartbeats 8000000
namespace Lg
open Go Go.Proofs

def empW (s : List ByteArray) : Wal := ⟨s, List.replicate s.length (List.replicate s.length 0), List.replicate s.length 0⟩
theorem zeroRows (n : Nat) : List.replicate n [Tr.raw (.int .i64 0)] = intRows (List.replicate n 0) := by
 simp [intRows]
theorem emptyD_fn (s : List ByteArray) (hs : s.length ≤ 1000) : PFn Tryz.prog 4 [.strs s] (· = resW (empW s) (sitE s)) := by
 have kS := sitesFault_fn s (by omega)
 have k1 := (clone_str (strRows s) (strRows_k _) (by rw [strRows_len]; omega)).val
 refine PFn.mk (Spec.body Tryz.func4 rfl rfl (Tryz.ntmps4) rfl fun w0 own0 M => ?_)
 by_cases h1 : sitE s ≠ 0
 ·rw [resW_bad h1]
  generalize sitE s = c at *
  repeat' (first | refine goH ?_ | refine goV ?_ | refine goB (fun b => ?_) | refine goC (fun ad cap => ?_) | refine goI ?_ | (refine Cw.k_cond ?_; first | (refine Cw.cond_dec rfl ?_ ?_ <;> intro hc <;> try omega) | refine Cw.cond_bool rfl ?_ ?_ <;> intro hc) | (refine Ops.k_calla ?_; first | (refine Ops.k_callf 16 ?_; refine Ops.callV kS (Evs.cons rfl Evs.nil) rfl ?_)) | (apply OpW.k_call; first | (apply OpW.k_callf 16; exact OpW.callV kS (Evs.cons rfl Evs.nil))) | refine goR ?_ | refine goP ?_ | apply PSeq.cons | apply PSeq.yes rfl rfl rfl | exact goW | fail)
  refine Fin.ret (Ent.trans (Ent.imp_box goPk impW0) (Ent.trans (Ent.setbox (s := 2) rfl goPk) (Ent.take goTk))) (Outs.many rfl (OutL.cons goOe (OutL.cons goOe OutL.nil)) rfl) ⟨rfl, rfl⟩
 have h0 : sitE s = 0 := by omega
 rw [resW_ok h0]
 rw [h0] at kS
 clear h0 h1
 have hS := strRows_len s
 have hN : (strRows s).length ≤ 1000 := by omega
 repeat' (first | refine goH ?_ | refine goV ?_ | refine goB (fun b => ?_) | refine goC (fun ad cap => ?_) | refine goI ?_ | (refine Cw.k_cond ?_; first | (refine Cw.cond_dec rfl ?_ ?_ <;> intro hc <;> try omega) | refine Cw.cond_bool rfl ?_ ?_ <;> intro hc) | (refine Ops.k_calla ?_; first | (refine Ops.k_callf 16 ?_; refine Ops.callV kS (Evs.cons rfl Evs.nil) rfl ?_)) | (apply OpW.k_call; first | (apply OpW.k_callf 16; exact OpW.callV kS (Evs.cons rfl Evs.nil))) | fail)
 rename Nat => b2
 first | refine Cw.region_YP (fun ξ S => Chunk.box b2 29 (List.map Tr.raw [.slice none 0 0, .slice none 0 0, .slice none 0 0]) :: (stg (S 4) [] [ownV (ξ 4) 1 3 (List.replicate (strRows s).length [Tr.raw (.int .i64 0)])] ++ (stg (S 6) [] [Chunk.box (blk (ξ 6)) 29 (stg (S 7) [Tr.raw (.slice none 0 0), Tr.raw (.slice none 0 0), Tr.raw (.slice none 0 0)] [.strs s, Tr.raw (.slice none 0 0), slV (ξ 4) (strRows s).length])] ++ []))) rfl (by decide +kernel) rfl ((fun (ξ : Nat → Value) (S : Nat → Bool) => Chunk.box b2 29 (List.map Tr.raw [.slice none 0 0, .slice none 0 0, .slice none 0 0]) :: (stg (S 4) [] [ownV (ξ 4) 1 3 (List.replicate (strRows s).length [Tr.raw (.int .i64 0)])] ++ (stg (S 6) [] [Chunk.box (blk (ξ 6)) 29 (stg (S 7) [Tr.raw (.slice none 0 0), Tr.raw (.slice none 0 0), Tr.raw (.slice none 0 0)] [.strs s, Tr.raw (.slice none 0 0), slV (ξ 4) (strRows s).length])] ++ []))) (fun _ => undef) (fun _ => false)) (by simp only [upd_same, updD_same, upd_ne, updD_ne, ne_eq, Nat.reduceEqDiff, not_false_eq_true, stg_t, stg_f, vAd_s, vCap_s, blk_p, List.cons_append, List.nil_append, b2n_t, b2n_f]; exact goXm) (fun _ => rfl) ?_ | fail
 apply YSeq.w (by intro _ _ _; rfl)
 ·intro ξ S h1 h2 h3 h4
  have hN0_7 := closed_false h1 h3 (k := 7) rfl (by decide)
  try simp only [upd_same, updD_same, upd_ne, updD_ne, ne_eq, Nat.reduceEqDiff, not_false_eq_true, stg_t, stg_f, vAd_s, vCap_s, blk_p, List.cons_append, List.nil_append, b2n_t, b2n_f, hN0_7]
  exact goW
 ·intro ξ v; rfl
 ·intro ξ k v S h3 hn hk
  first
  |rfl
 apply YSeq.callV (by intro _ _ _; rfl)
 ·intro ξ S h1 h2 h3 h4
  have hN1_7 := closed_false h1 h3 (k := 7) rfl (by decide)
  try simp only [upd_same, updD_same, upd_ne, updD_ne, ne_eq, Nat.reduceEqDiff, not_false_eq_true, stg_t, stg_f, vAd_s, vCap_s, blk_p, List.cons_append, List.nil_append, b2n_t, b2n_f, hN1_7]
  exact ⟨_, (Evs.cons rfl Evs.nil), k1⟩
 ·intro ξ v; rfl
 ·intro ξ k v S h3 hn hk
  first
  |rfl
 apply YSeq.w (by intro _ _ _; rfl)
 ·intro ξ S h1 h2 h3 h4
  have hN2_3 := closed_false h1 h3 (k := 3) rfl (by decide)
  have hN2_4 := closed_false hN2_3 h3 (k := 4) rfl (by decide)
  have hN2_7 := closed_false h1 h3 (k := 7) rfl (by decide)
  try simp only [upd_same, updD_same, upd_ne, updD_ne, ne_eq, Nat.reduceEqDiff, not_false_eq_true, stg_t, stg_f, vAd_s, vCap_s, blk_p, List.cons_append, List.nil_append, b2n_t, b2n_f, hN2_4, hN2_7]
  exact goW
 ·intro ξ v; rfl
 ·intro ξ k v S h3 hn hk
  first
  |rfl
 apply YSeq.w (by intro _ _ _; rfl)
 ·intro ξ S h1 h2 h3 h4
  have hN3_4 := closed_false h1 h3 (k := 4) rfl (by decide)
  have hN3_7 := closed_false h1 h3 (k := 7) rfl (by decide)
  try simp only [upd_same, updD_same, upd_ne, updD_ne, ne_eq, Nat.reduceEqDiff, not_false_eq_true, stg_t, stg_f, vAd_s, vCap_s, blk_p, List.cons_append, List.nil_append, b2n_t, b2n_f, hN3_4, hN3_7]
  exact goW
 ·intro ξ v; rfl
 ·intro ξ k v S h3 hn hk
  first
  |rfl
 apply YSeq.mkOwn ((strRows s).length) (fun _ => rfl) (fun _ => rfl) (by omega) (by omega)
 ·intro ξ S h1 h3 ad cap
  have hN4_7 := closed_false h1 h3 (k := 7) rfl (by decide)
  simp only [upd_same, updD_same, upd_ne, updD_ne, ne_eq, Nat.reduceEqDiff, not_false_eq_true, stg_t, stg_f, vAd_s, vCap_s, blk_p, List.cons_append, List.nil_append, b2n_t, b2n_f, h1, hN4_7]
  exact goXm
 apply YSeq.w (by intro _ _ _; rfl)
 ·intro ξ S h1 h2 h3 h4
  have hY5_4 : S 4 = true := h2 4 (by decide)
  have hN5_7 := closed_false h1 h3 (k := 7) rfl (by decide)
  try simp only [upd_same, updD_same, upd_ne, updD_ne, ne_eq, Nat.reduceEqDiff, not_false_eq_true, stg_t, stg_f, vAd_s, vCap_s, blk_p, List.cons_append, List.nil_append, b2n_t, b2n_f, hY5_4, hN5_7]
  exact goW
 ·intro ξ v; rfl
 ·intro ξ k v S h3 hn hk
  first
  |rfl
  |skip
   have hY5_4 : S 4 = true := h3 5 _ rfl hn 4 (by decide)
   simp only [upd_S hY5_4 hk]
 apply YSeq.alloc
 ·intro ξ S b h1 h3
  have hN6_7 := closed_false h1 h3 (k := 7) rfl (by decide)
  simp only [upd_same, updD_same, upd_ne, updD_ne, ne_eq, Nat.reduceEqDiff, not_false_eq_true, stg_t, stg_f, vAd_s, vCap_s, blk_p, List.cons_append, List.nil_append, b2n_t, b2n_f, h1, hN6_7]
  exact goXm
 apply YSeq.store
 ·intro ξ S h1 h2 h3 h4
  have hY7_4 : S 4 = true := h2 4 (by decide)
  have hY7_6 : S 6 = true := h2 6 (by decide)
  simp only [upd_same, updD_same, upd_ne, updD_ne, ne_eq, Nat.reduceEqDiff, not_false_eq_true, stg_t, stg_f, vAd_s, vCap_s, blk_p, List.cons_append, List.nil_append, b2n_t, b2n_f, hY7_4, hY7_6, h1]
  refine ⟨_, _, _, _, _, _, _, rfl, rfl, inferInstance, goXp, rfl, Nat.le_of_ble_eq_true rfl, ?_⟩
  exact goXm
 refine YSeq.nil fun ξ hf => ?_
 refine ⟨[(0, _), (2, _), (5, _)], _, Ent.trans (Ent.eqc rfl (by first | (simp only [upd_same, updD_same, upd_ne, updD_ne, ne_eq, Nat.reduceEqDiff, not_false_eq_true, stg_t, stg_f, vAd_s, vCap_s, blk_p, List.cons_append, List.nil_append, b2n_t, b2n_f, ownV, slV, ptV] <;> rfl) | rfl)) (Ent.sub goSub), ?_⟩
 clear hf
 generalize vAd (ξ 4) = ad16
 generalize vCap (ξ 4) = cap16
 generalize blk (ξ 6) = b5
 rw [zeroRows]
 obtain ⟨n, hn⟩ : ∃ n, n = s.length := ⟨_, rfl⟩
 have hn2 := hS.trans hn.symm
 have hZ := intRows_len (List.replicate n 0)
 rw [List.length_replicate] at hZ
 rw [hn2]
 refine Then.norm ?_
 repeat' (first | refine goH ?_ | refine goV ?_ | refine goB (fun b => ?_) | refine goC (fun ad cap => ?_) | refine goI ?_ | (refine Cw.k_cond ?_; first | (refine Cw.cond_dec rfl ?_ ?_ <;> intro hc <;> try omega) | refine Cw.cond_bool rfl ?_ ?_ <;> intro hc) | refine goR ?_ | refine goP ?_ | apply PSeq.cons | apply PSeq.yes rfl rfl rfl | exact goW | fail)
 refine Cw.loopI [(0, _), (2, _), (5, _), (19, _)] _ (fun q e cc => ∃ (k : Nat) (ad : Option Addr) (cap : Nat) (L : List IL), q = n - k ∧ (k ≤ n ∧ valsW L = List.replicate k (List.replicate n 0) ∧ (rowsW L).length = k) ∧ e = [(20, .int k)] ∧ cc = [Chunk.box b5 29 [.strs s, Tr.raw (.slice ad k cap), Tr.raw (.slice ad16 n cap16)], Chunk.own ad cap 1 22 (rowsW L), Chunk.bun (ownsW 3 L)])
  ⟨_, _, _, Ent.trans (Ent.nil 1 22) (Ent.trans Ent.bun0 (Ent.mkP goSub goPm)), 0, none, 0, [], rfl, ⟨by omega, rfl, rfl⟩, rfl, rfl⟩ ?_
 rintro _ _ _ ⟨k, ad, cap, L, rfl, ⟨hk, hv, hVl⟩, rfl, rfl⟩
 by_cases hkl : k < n
 ·repeat' (first | refine goH ?_ | refine goV ?_ | refine goB (fun b => ?_) | refine goC (fun ad cap => ?_) | refine goI ?_ | (refine Cw.k_cond ?_; first | (refine Cw.cond_dec rfl ?_ ?_ <;> intro hc <;> try omega) | refine Cw.cond_bool rfl ?_ ?_ <;> intro hc) | fail)
  first | refine Cw.region_YP (fun ξ S => Chunk.box b5 29 [.strs s, stg (S 8) (Tr.raw (.slice ad k cap)) (slV (ξ 6) (k + 1)), Tr.raw (.slice ad16 n cap16)] :: Chunk.box b2 29 (List.map Tr.raw [.slice none 0 0, .slice none 0 0, .slice none 0 0]) :: Chunk.own ad16 cap16 1 3 (intRows (List.replicate n 0)) :: Chunk.bun (ownsW 3 L) :: stg (S 6) (Chunk.own ad cap 1 22 (rowsW L)) (ownV (ξ 6) 1 22 (rowsW L ++ [[slV (ξ 4) (strRows s).length]])) :: (stg (S 4) [] [ownV (ξ 4) 1 3 (List.replicate (strRows s).length [Tr.raw (.int .i64 0)])] ++ (stg (S 5) [] (stg (S 6) [ownV (ξ 5) 1 22 [[slV (ξ 4) (strRows s).length]]] []) ++ []))) rfl (by decide +kernel) rfl ((fun (ξ : Nat → Value) (S : Nat → Bool) => Chunk.box b5 29 [.strs s, stg (S 8) (Tr.raw (.slice ad k cap)) (slV (ξ 6) (k + 1)), Tr.raw (.slice ad16 n cap16)] :: Chunk.box b2 29 (List.map Tr.raw [.slice none 0 0, .slice none 0 0, .slice none 0 0]) :: Chunk.own ad16 cap16 1 3 (intRows (List.replicate n 0)) :: Chunk.bun (ownsW 3 L) :: stg (S 6) (Chunk.own ad cap 1 22 (rowsW L)) (ownV (ξ 6) 1 22 (rowsW L ++ [[slV (ξ 4) (strRows s).length]])) :: (stg (S 4) [] [ownV (ξ 4) 1 3 (List.replicate (strRows s).length [Tr.raw (.int .i64 0)])] ++ (stg (S 5) [] (stg (S 6) [ownV (ξ 5) 1 22 [[slV (ξ 4) (strRows s).length]]] []) ++ []))) (fun _ => undef) (fun _ => false)) (by simp only [upd_same, updD_same, upd_ne, updD_ne, ne_eq, Nat.reduceEqDiff, not_false_eq_true, stg_t, stg_f, vAd_s, vCap_s, blk_p, List.cons_append, List.nil_append, b2n_t, b2n_f]; exact goXm) (fun _ => rfl) ?_ | fail
  apply YSeq.w (by intro _ _ _; rfl)
  ·intro ξ S h1 h2 h3 h4
   have hN0_1 := closed_false h1 h3 (k := 1) rfl (by decide)
   have hN0_6 := closed_false hN0_1 h3 (k := 6) rfl (by decide)
   have hN0_8 := closed_false h1 h3 (k := 8) rfl (by decide)
   try simp only [upd_same, updD_same, upd_ne, updD_ne, ne_eq, Nat.reduceEqDiff, not_false_eq_true, stg_t, stg_f, vAd_s, vCap_s, blk_p, List.cons_append, List.nil_append, b2n_t, b2n_f, hN0_6, hN0_8]
   exact goW
  ·intro ξ v; rfl
  ·intro ξ k v S h3 hn hk
   first
   |rfl
  apply YSeq.w (by intro _ _ _; rfl)
  ·intro ξ S h1 h2 h3 h4
   have hN1_6 := closed_false h1 h3 (k := 6) rfl (by decide)
   have hN1_8 := closed_false h1 h3 (k := 8) rfl (by decide)
   try simp only [upd_same, updD_same, upd_ne, updD_ne, ne_eq, Nat.reduceEqDiff, not_false_eq_true, stg_t, stg_f, vAd_s, vCap_s, blk_p, List.cons_append, List.nil_append, b2n_t, b2n_f, hN1_6, hN1_8]
   exact goW
  ·intro ξ v; rfl
  ·intro ξ k v S h3 hn hk
   first
   |rfl
  apply YSeq.w (by intro _ _ _; rfl)
  ·intro ξ S h1 h2 h3 h4
   have hN2_3 := closed_false h1 h3 (k := 3) rfl (by decide)
   have hN2_4 := closed_false hN2_3 h3 (k := 4) rfl (by decide)
   have hN2_5 := closed_false hN2_4 h3 (k := 5) rfl (by decide)
   have hN2_6 := closed_false hN2_5 h3 (k := 6) rfl (by decide)
   have hN2_8 := closed_false h1 h3 (k := 8) rfl (by decide)
   try simp only [upd_same, updD_same, upd_ne, updD_ne, ne_eq, Nat.reduceEqDiff, not_false_eq_true, stg_t, stg_f, vAd_s, vCap_s, blk_p, List.cons_append, List.nil_append, b2n_t, b2n_f, hN2_4, hN2_5, hN2_6, hN2_8]
   exact goW
  ·intro ξ v; rfl
  ·intro ξ k v S h3 hn hk
   first
   |rfl
  apply YSeq.w (by intro _ _ _; rfl)
  ·intro ξ S h1 h2 h3 h4
   have hN3_4 := closed_false h1 h3 (k := 4) rfl (by decide)
   have hN3_5 := closed_false hN3_4 h3 (k := 5) rfl (by decide)
   have hN3_6 := closed_false hN3_5 h3 (k := 6) rfl (by decide)
   have hN3_8 := closed_false h1 h3 (k := 8) rfl (by decide)
   try simp only [upd_same, updD_same, upd_ne, updD_ne, ne_eq, Nat.reduceEqDiff, not_false_eq_true, stg_t, stg_f, vAd_s, vCap_s, blk_p, List.cons_append, List.nil_append, b2n_t, b2n_f, hN3_4, hN3_5, hN3_6, hN3_8]
   exact goW
  ·intro ξ v; rfl
  ·intro ξ k v S h3 hn hk
   first
   |rfl
  apply YSeq.mkOwn ((strRows s).length) (fun _ => rfl) (fun _ => rfl) (by omega) (by omega)
  ·intro ξ S h1 h3 ad cap
   have hN4_5 := closed_false h1 h3 (k := 5) rfl (by decide)
   have hN4_6 := closed_false hN4_5 h3 (k := 6) rfl (by decide)
   have hN4_8 := closed_false h1 h3 (k := 8) rfl (by decide)
   simp only [upd_same, updD_same, upd_ne, updD_ne, ne_eq, Nat.reduceEqDiff, not_false_eq_true, stg_t, stg_f, vAd_s, vCap_s, blk_p, List.cons_append, List.nil_append, b2n_t, b2n_f, h1, hN4_5, hN4_6, hN4_8]
   exact goXm
  apply YSeq.lit
  ·intro ξ S h1 h2 h3 h4
   have hY5_4 : S 4 = true := h2 4 (by decide)
   have hN5_6 := closed_false h1 h3 (k := 6) rfl (by decide)
   have hN5_8 := closed_false h1 h3 (k := 8) rfl (by decide)
   refine ⟨_, _, (by first | exact (by exact Parts.cons rfl rfl rfl (by exact Parts.nil)) | exact (by exact Parts.cons rfl rfl rfl (by exact Parts.cons rfl rfl rfl (by exact Parts.nil))) | exact (by exact Parts.cons rfl rfl rfl (by exact Parts.cons rfl rfl rfl (by exact Parts.cons rfl rfl rfl (by exact Parts.nil)))) | exact (by exact Parts.cons rfl rfl rfl (by exact Parts.cons rfl rfl rfl (by exact Parts.cons rfl rfl rfl (by exact Parts.cons rfl rfl rfl (by exact Parts.nil))))) | exact (by exact Parts.cons rfl rfl rfl (by exact Parts.cons rfl rfl rfl (by exact Parts.cons rfl rfl rfl (by exact Parts.cons rfl rfl rfl (by exact Parts.cons rfl rfl rfl (by exact Parts.nil))))))), goNt, rfl, fun ad cap => ?_⟩
   simp only [upd_same, updD_same, upd_ne, updD_ne, ne_eq, Nat.reduceEqDiff, not_false_eq_true, stg_t, stg_f, vAd_s, vCap_s, blk_p, List.cons_append, List.nil_append, b2n_t, b2n_f, hY5_4, h1, hN5_6, hN5_8]
   exact goXm
  apply YSeq.appendO (k + 1)
  ·intro ξ S h1 h2 h3 h4
   have hY6_5 : S 5 = true := h2 5 (by decide)
   have hY6_4 : S 4 = true := h3 5 _ rfl hY6_5 4 (by decide)
   have hN6_8 := closed_false h1 h3 (k := 8) rfl (by decide)
   simp only [upd_same, updD_same, upd_ne, updD_ne, ne_eq, Nat.reduceEqDiff, not_false_eq_true, stg_t, stg_f, vAd_s, vCap_s, blk_p, List.cons_append, List.nil_append, b2n_t, b2n_f, hY6_4, hY6_5, h1, hN6_8]
   refine ⟨_, _, _, _, _, _, _, _, _, _, rfl, rfl, goXp, goXp, (by first | rfl | (simp; done) | omega), (by first | rfl | (simp; done) | omega), (by first | rfl | omega | (simp; done) | (simp; omega)), (by first | omega | (simp; done) | (simp; omega)), (by first | omega | (simp; done) | (simp; omega)), fun ad' cap' => ?_⟩
   exact goXm
  apply YSeq.w (by intro _ _ _; rfl)
  ·intro ξ S h1 h2 h3 h4
   have hY7_4 : S 4 = true := h2 4 (by decide)
   have hY7_5 : S 5 = true := h2 5 (by decide)
   have hY7_6 : S 6 = true := h2 6 (by decide)
   have hN7_8 := closed_false h1 h3 (k := 8) rfl (by decide)
   try simp only [upd_same, updD_same, upd_ne, updD_ne, ne_eq, Nat.reduceEqDiff, not_false_eq_true, stg_t, stg_f, vAd_s, vCap_s, blk_p, List.cons_append, List.nil_append, b2n_t, b2n_f, hY7_4, hY7_5, hY7_6, hN7_8]
   exact goW
  ·intro ξ v; rfl
  ·intro ξ k v S h3 hn hk
   first
   |rfl
   |skip
    have hY7_4 : S 4 = true := h3 7 _ rfl hn 4 (by decide)
    have hY7_5 : S 5 = true := h3 7 _ rfl hn 5 (by decide)
    have hY7_6 : S 6 = true := h3 7 _ rfl hn 6 (by decide)
    simp only [upd_S hY7_4 hk, upd_S hY7_5 hk, upd_S hY7_6 hk]
  apply YSeq.store
  ·intro ξ S h1 h2 h3 h4
   have hY8_4 : S 4 = true := h2 4 (by decide)
   have hY8_5 : S 5 = true := h2 5 (by decide)
   have hY8_6 : S 6 = true := h2 6 (by decide)
   simp only [upd_same, updD_same, upd_ne, updD_ne, ne_eq, Nat.reduceEqDiff, not_false_eq_true, stg_t, stg_f, vAd_s, vCap_s, blk_p, List.cons_append, List.nil_append, b2n_t, b2n_f, hY8_4, hY8_5, hY8_6, h1]
   refine ⟨_, _, _, _, _, _, _, rfl, rfl, inferInstance, goXp, rfl, Nat.le_of_ble_eq_true rfl, ?_⟩
   exact goXm
  refine YSeq.nil fun ξ hf => ?_
  refine ⟨[(0, _), (2, _), (5, _), (19, _), (20, _)], _, Ent.trans (Ent.eqc rfl (by first | (simp only [upd_same, updD_same, upd_ne, updD_ne, ne_eq, Nat.reduceEqDiff, not_false_eq_true, stg_t, stg_f, vAd_s, vCap_s, blk_p, List.cons_append, List.nil_append, b2n_t, b2n_f, ownV, slV, ptV] <;> rfl) | rfl)) (Ent.sub goSub), ?_⟩
  clear hf
  generalize vAd (ξ 4) = ad26
  generalize vCap (ξ 4) = cap26
  generalize vAd (ξ 5) = ad27
  generalize vCap (ξ 5) = cap27
  generalize vAd (ξ 6) = ad28
  generalize vCap (ξ 6) = cap28
  rw [zeroRows, hn2]
  rw [show ([[Tr.raw (.slice ad26 n cap26)]] : List (List Tr)) = [[Tr.raw (IL.val ⟨ad26, cap26, List.replicate n 0⟩)]] by unfold IL.val; rw [hZ], rowsW_snoc]
  refine InB.norm (Then.norm ?_)
  refine Cw.ent (Ent.push (c := (⟨ad26, cap26, List.replicate n 0⟩ : IL).own 3) (L := ownsW 3 L) (by exact goPk) (by exact goPk)) ?_
  rw [ownsW_snoc]
  have hVl' : (rowsW (L ++ [⟨ad26, cap26, List.replicate n 0⟩])).length = k + 1 := by rw [← rowsW_snoc, List.length_append, hVl]; rfl
  repeat' (first | refine goH ?_ | refine goV ?_ | refine goB (fun b => ?_) | refine goC (fun ad cap => ?_) | refine goI ?_ | (refine Cw.k_cond ?_; first | (refine Cw.cond_dec rfl ?_ ?_ <;> intro hc <;> try omega) | refine Cw.cond_bool rfl ?_ ?_ <;> intro hc) | refine goR ?_ | refine goP ?_ | apply PSeq.cons | apply PSeq.yes rfl rfl rfl | exact goW | fail)
  exact ⟨_, _, _, (Ent.mk goSub goTk), ⟨k + 1, _, _, L ++ [⟨ad26, cap26, List.replicate n 0⟩], rfl, ⟨by omega, by rw [valsW_snoc, hv, List.replicate_succ'], hVl'⟩, rfl, rfl⟩, by omega⟩
 ·have hkk : k = n := by omega
  rw [hkk] at hVl ⊢
  repeat' (first | refine goH ?_ | refine goV ?_ | refine goB (fun b => ?_) | refine goC (fun ad cap => ?_) | refine goI ?_ | (refine Cw.k_cond ?_; first | (refine Cw.cond_dec rfl ?_ ?_ <;> intro hc <;> try omega) | refine Cw.cond_bool rfl ?_ ?_ <;> intro hc) | refine goR ?_ | refine goP ?_ | apply PSeq.cons | apply PSeq.yes rfl rfl rfl | exact goW | fail)
  refine Fin.ret (Ent.trans (Ent.settle_wal (b := b2) (by exact Perm.cons' goPk (Perm.cons' goPk (Perm.cons' goPk (Perm.cons' goPk (List.Perm.refl _))))) hVl hZ) (Ent.trans (Ent.setbox (s := 2) rfl goPk) (Ent.take goTk))) (Outs.many rfl (OutL.cons goOe (OutL.cons goOe OutL.nil)) rfl) ⟨rfl, ?_⟩
  rw [hv, hkk, hn]
  rfl
end Lg
end
section
set_option linter.all false
set_option maxRecDepth 100000
set_option maxHeartbeats 8000000
namespace Lg
open Go Go.Proofs

def Wal.row (w : Wal) : List Tr := [.strs w.sites, .sl 1 (intsR w.rights), .ints w.used]
instance : Inhabited Wal := ⟨wNil⟩
attribute [local irreducible] intRows intsR strRows valsW rowsW idxS rgt at2 set2 gvW gvE spW spE mrgW mrgE

end Lg
end
