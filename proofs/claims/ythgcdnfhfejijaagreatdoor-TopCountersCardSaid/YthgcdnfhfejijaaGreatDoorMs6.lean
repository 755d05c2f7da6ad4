/- A part of the proof of a law of this seat: it adds no condition. By an AI agent. -/
import Derived.Test.YthgcdnfhfejijaaGreatDoorMs11
section
set_option linter.all false
set_option maxRecDepth 100000
set_option maxHeartbeats 8000000
namespace Lg
open Go Go.Proofs

/-! ### a new machine, and its audit: the program's side -/
/-- a copy of its own -/
theorem clone_slotM (rows : List (List Tr)) (hk : ∀ r ∈ rows, r.length = 5) (hl : rows.length ≤ 1000000) : PFnO Tryz.prog 21 [.sl 5 rows] 5 30 (· = rows) := by
 unfold PFnO
 refine Spec.body Tryz.func21 rfl rfl (Tryz.ntmps21) rfl fun w0 own0 M => ?_
 repeat' (first | refine goH ?_ | ((fail_if_success refine Ops.k_b_eql ?_); (fail_if_success refine Ops.k_buildSlice ?_); refine goV ?_) | ((fail_if_success refine Ops.k_b_eql ?_); (fail_if_success refine Ops.k_buildSlice ?_); refine goC (fun ad cap => ?_)) | refine goI ?_ | (refine Cw.k_cond ?_; first | (refine Cw.cond_dec rfl ?_ ?_ <;> intro hc <;> try omega) | refine Cw.cond_bool rfl ?_ ?_ <;> intro hc) | fail)
 refine Ops.eql_nilS rfl rfl (fun b hb => ?_)
 cases b
 ·repeat' (first | refine goH ?_ | ((fail_if_success refine Ops.k_buildSlice ?_); refine goV ?_) | ((fail_if_success refine Ops.k_buildSlice ?_); refine goC (fun ad cap => ?_)) | refine goI ?_ | (refine Cw.k_cond ?_; first | (refine Cw.cond_dec rfl ?_ ?_ <;> intro hc <;> try omega) | refine Cw.cond_bool rfl ?_ ?_ <;> intro hc) | fail)
  refine Ops.buildSlice_own (by exact Parts.nil) rfl rfl rfl (fun ad cap => ?_)
  repeat' (first | refine goH ?_ | refine goV ?_ | refine goC (fun ad cap => ?_) | refine goI ?_ | (refine Cw.k_cond ?_; first | (refine Cw.cond_dec rfl ?_ ?_ <;> intro hc <;> try omega) | refine Cw.cond_bool rfl ?_ ?_ <;> intro hc) | fail)
  exact Fin.ret (Ent.take goTk) (Outs.one rfl rfl) ⟨_, _, _, rfl, rfl, rfl⟩
 ·have hr := hb rfl
  subst hr
  repeat' (first | refine goH ?_ | refine goV ?_ | refine goC (fun ad cap => ?_) | refine goI ?_ | (refine Cw.k_cond ?_; first | (refine Cw.cond_dec rfl ?_ ?_ <;> intro hc <;> try omega) | refine Cw.cond_bool rfl ?_ ?_ <;> intro hc) | fail)
  exact Fin.ret (Ent.trans (Ent.nil 5 30) (Ent.take goTk)) (Outs.one rfl rfl) ⟨none, 0, [], rfl, rfl, rfl⟩

/-- a copy of its own -/
theorem clone_intM (rows : List (List Tr)) (hk : ∀ r ∈ rows, r.length = 1) (hl : rows.length ≤ 1000000) : PFnO Tryz.prog 20 [.sl 1 rows] 1 3 (· = rows) := by
 unfold PFnO
 refine Spec.body Tryz.func20 rfl rfl (Tryz.ntmps20) rfl fun w0 own0 M => ?_
 repeat' (first | refine goH ?_ | ((fail_if_success refine Ops.k_b_eql ?_); (fail_if_success refine Ops.k_buildSlice ?_); refine goV ?_) | ((fail_if_success refine Ops.k_b_eql ?_); (fail_if_success refine Ops.k_buildSlice ?_); refine goC (fun ad cap => ?_)) | refine goI ?_ | (refine Cw.k_cond ?_; first | (refine Cw.cond_dec rfl ?_ ?_ <;> intro hc <;> try omega) | refine Cw.cond_bool rfl ?_ ?_ <;> intro hc) | fail)
 refine Ops.eql_nilS rfl rfl (fun b hb => ?_)
 cases b
 ·repeat' (first | refine goH ?_ | ((fail_if_success refine Ops.k_buildSlice ?_); refine goV ?_) | ((fail_if_success refine Ops.k_buildSlice ?_); refine goC (fun ad cap => ?_)) | refine goI ?_ | (refine Cw.k_cond ?_; first | (refine Cw.cond_dec rfl ?_ ?_ <;> intro hc <;> try omega) | refine Cw.cond_bool rfl ?_ ?_ <;> intro hc) | fail)
  refine Ops.buildSlice_own (by exact Parts.nil) rfl rfl rfl (fun ad cap => ?_)
  repeat' (first | refine goH ?_ | refine goV ?_ | refine goC (fun ad cap => ?_) | refine goI ?_ | (refine Cw.k_cond ?_; first | (refine Cw.cond_dec rfl ?_ ?_ <;> intro hc <;> try omega) | refine Cw.cond_bool rfl ?_ ?_ <;> intro hc) | fail)
  exact Fin.ret (Ent.take goTk) (Outs.one rfl rfl) ⟨_, _, _, rfl, rfl, rfl⟩
 ·have hr := hb rfl
  subst hr
  repeat' (first | refine goH ?_ | refine goV ?_ | refine goC (fun ad cap => ?_) | refine goI ?_ | (refine Cw.k_cond ?_; first | (refine Cw.cond_dec rfl ?_ ?_ <;> intro hc <;> try omega) | refine Cw.cond_bool rfl ?_ ?_ <;> intro hc) | fail)
  exact Fin.ret (Ent.trans (Ent.nil 1 3) (Ent.take goTk)) (Outs.one rfl rfl) ⟨none, 0, [], rfl, rfl, rfl⟩

theorem cloneS_tubeM {ad : Option Addr} {n cap : Nat} (rows : List (List Tr)) (hn : n = rows.length) (hl : rows.length ≤ 1000000) : Spec Tryz.prog 19 [Tr.raw (.slice ad n cap)] [Chunk.own ad cap 3 27 rows] (fun r cs => r = .sl 3 rows ∧ cs = [Chunk.own ad cap 3 27 rows]) := by
 refine Spec.body Tryz.func19 rfl rfl (Tryz.ntmps19) rfl fun w0 own0 M => ?_
 cases ad with
 |none =>
  refine Cw.own_none (List.Perm.refl _) fun h1 h2 => ?_
  subst h1
  subst h2
  subst hn
  repeat' (first | refine goH ?_ | (refine Ops.k_b_eql ?_; first | (refine Ops.eql_nilR rfl rfl ?_)) | refine goV ?_ | refine goC (fun ad cap => ?_) | refine goI ?_ | (refine Cw.k_cond ?_; first | (refine Cw.cond_dec rfl ?_ ?_ <;> intro hc <;> try omega) | refine Cw.cond_bool rfl ?_ ?_ <;> intro hc) | fail)
  exact Fin.ret (Ent.nilsl 3 (s := 2) rfl) (Outs.one rfl rfl) ⟨rfl, rfl⟩
 |some a =>
  repeat' (first | refine goH ?_ | (refine Ops.k_b_eql ?_; first | (refine Ops.eql_nilR rfl rfl ?_)) | ((fail_if_success refine Ops.k_buildSlice ?_); refine goV ?_) | ((fail_if_success refine Ops.k_buildSlice ?_); refine goC (fun ad cap => ?_)) | refine goI ?_ | (refine Cw.k_cond ?_; first | (refine Cw.cond_dec rfl ?_ ?_ <;> intro hc <;> try omega) | refine Cw.cond_bool rfl ?_ ?_ <;> intro hc) | fail)
  refine Ops.buildSlice_own (by exact Parts.nil) rfl rfl rfl (fun ad2 cap2 => ?_)
  repeat' (first | refine goH ?_ | ((fail_if_success refine Ops.k_c_append ?_); refine goV ?_) | ((fail_if_success refine Ops.k_c_append ?_); refine goC (fun ad cap => ?_)) | refine goI ?_ | (refine Cw.k_cond ?_; first | (refine Cw.cond_dec rfl ?_ ?_ <;> intro hc <;> try omega) | refine Cw.cond_bool rfl ?_ ?_ <;> intro hc) | fail)
  refine Ops.append_ownR rfl rfl (List.Perm.refl _) rfl hn (by simp; omega) (by simp; omega) rfl (fun ad3 cap3 => ?_)
  rw [show ∀ z : List (List Tr), z = [] → z ++ rows = rows from fun z h => by rw [h]; rfl]
  rotate_left
  ·rfl
  repeat' (first | refine goH ?_ | refine goV ?_ | refine goC (fun ad cap => ?_) | refine goI ?_ | (refine Cw.k_cond ?_; first | (refine Cw.cond_dec rfl ?_ ?_ <;> intro hc <;> try omega) | refine Cw.cond_bool rfl ?_ ?_ <;> intro hc) | fail)
  exact Fin.ret (Ent.settle (s := 2) (ad := ad3) (cap := cap3) (cf := [Chunk.own (some a) cap 3 27 rows]) rfl (List.Perm.refl _) rfl) (Outs.one rfl rfl) ⟨rfl, rfl⟩

theorem cloneS_tally {ad : Option Addr} {n cap : Nat} (rows : List (List Tr)) (hn : n = rows.length) (hl : rows.length ≤ 1000000) : Spec Tryz.prog 23 [Tr.raw (.slice ad n cap)] [Chunk.own ad cap 3 47 rows] (fun r cs => r = .sl 3 rows ∧ cs = [Chunk.own ad cap 3 47 rows]) := by
 refine Spec.body Tryz.func23 rfl rfl (Tryz.ntmps23) rfl fun w0 own0 M => ?_
 cases ad with
 |none =>
  refine Cw.own_none (List.Perm.refl _) fun h1 h2 => ?_
  subst h1
  subst h2
  subst hn
  repeat' (first | refine goH ?_ | (refine Ops.k_b_eql ?_; first | (refine Ops.eql_nilR rfl rfl ?_)) | refine goV ?_ | refine goC (fun ad cap => ?_) | refine goI ?_ | (refine Cw.k_cond ?_; first | (refine Cw.cond_dec rfl ?_ ?_ <;> intro hc <;> try omega) | refine Cw.cond_bool rfl ?_ ?_ <;> intro hc) | fail)
  exact Fin.ret (Ent.nilsl 3 (s := 2) rfl) (Outs.one rfl rfl) ⟨rfl, rfl⟩
 |some a =>
  repeat' (first | refine goH ?_ | (refine Ops.k_b_eql ?_; first | (refine Ops.eql_nilR rfl rfl ?_)) | ((fail_if_success refine Ops.k_buildSlice ?_); refine goV ?_) | ((fail_if_success refine Ops.k_buildSlice ?_); refine goC (fun ad cap => ?_)) | refine goI ?_ | (refine Cw.k_cond ?_; first | (refine Cw.cond_dec rfl ?_ ?_ <;> intro hc <;> try omega) | refine Cw.cond_bool rfl ?_ ?_ <;> intro hc) | fail)
  refine Ops.buildSlice_own (by exact Parts.nil) rfl rfl rfl (fun ad2 cap2 => ?_)
  repeat' (first | refine goH ?_ | ((fail_if_success refine Ops.k_c_append ?_); refine goV ?_) | ((fail_if_success refine Ops.k_c_append ?_); refine goC (fun ad cap => ?_)) | refine goI ?_ | (refine Cw.k_cond ?_; first | (refine Cw.cond_dec rfl ?_ ?_ <;> intro hc <;> try omega) | refine Cw.cond_bool rfl ?_ ?_ <;> intro hc) | fail)
  refine Ops.append_ownR rfl rfl (List.Perm.refl _) rfl hn (by simp; omega) (by simp; omega) rfl (fun ad3 cap3 => ?_)
  rw [show ∀ z : List (List Tr), z = [] → z ++ rows = rows from fun z h => by rw [h]; rfl]
  rotate_left
  ·rfl
  repeat' (first | refine goH ?_ | refine goV ?_ | refine goC (fun ad cap => ?_) | refine goI ?_ | (refine Cw.k_cond ?_; first | (refine Cw.cond_dec rfl ?_ ?_ <;> intro hc <;> try omega) | refine Cw.cond_bool rfl ?_ ?_ <;> intro hc) | fail)
  exact Fin.ret (Ent.settle (s := 2) (ad := ad3) (cap := cap3) (cf := [Chunk.own (some a) cap 3 47 rows]) rfl (List.Perm.refl _) rfl) (Outs.one rfl rfl) ⟨rfl, rfl⟩

def newY (S : List SlotM) : List Tally := S.map fun s => ⟨s.key, 0, 0⟩
theorem newY_snoc {S : List SlotM} {k : Nat} {s : SlotM} (h : S[k]? = some s) : ((newY (S.take k)).map Tally.row) ++ [[.str s.key, .int 0, .int 0]] = (newY (S.take (k + 1))).map Tally.row := by
 unfold newY
 rw [take_at h, List.map_append, List.map_append]
 rfl
theorem newJ (n : Nat) : List.replicate n [Tr.bool false] = boolRows (List.replicate n false) := by unfold boolRows; rw [List.map_replicate]
theorem new_fn (T : List Tube) (K : List Int) (L : List SlotM) (G : Int) (h0 : cfgE T K L G = 0) (hTl : T.length ≤ 1000) (hKl : K.length ≤ 1000) (hSl : L.length ≤ 1000) :
  Spec Tryz.prog 4 [.cfg T K L G] [] (fun r cs => ∃ (b : Nat) (aT aS aJ aY : Option Addr) (cT cS cJ cY : Nat), r = .tup [.ptr b, .int 0] ∧ cs = [mX b aT T.length cT K aS L.length cS G aJ L.length cJ none 0 0 aY L.length cY 0 0 0 0 0 0, ownT aT cT T, ownS aS cS L, ownJ aJ cJ (List.replicate L.length false), ownY aY cY (newY L)]) := by
 have k1 := checkConfig_fn T K L G
 rw [h0] at k1
 have kT := clone_tube (T.map Tube.row) (by intro r hr; obtain ⟨d, _, rfl⟩ := List.mem_map.1 hr; rfl) (by rw [List.length_map]; omega)
 have kS := clone_slotM (L.map SlotM.row) (by intro r hr; obtain ⟨d, _, rfl⟩ := List.mem_map.1 hr; rfl) (by rw [List.length_map]; omega)
 have kK := (clone_intM (intRows K) (by intro r hr; obtain ⟨d, _, rfl⟩ := List.mem_map.1 hr; rfl) (by rw [intRows_len]; omega)).val
 have hT : (T.map Tube.row).length = T.length := List.length_map _
 have hS : (L.map SlotM.row).length = L.length := List.length_map _
 refine Spec.body Tryz.func4 rfl rfl (Tryz.ntmps4) rfl fun w0 own0 M => ?_
 repeat' (first | refine goH ?_ | refine goV ?_ | refine goB (fun b => ?_) | refine goC (fun ad cap => ?_) | refine goI ?_ | (refine Cw.k_cond ?_; first | (refine Cw.cond_dec rfl ?_ ?_ <;> intro hc <;> try omega) | refine Cw.cond_bool rfl ?_ ?_ <;> intro hc) | (refine Ops.k_calla ?_; first | (refine Ops.k_callf 18 ?_; refine Ops.callV k1 (Evs.cons rfl Evs.nil) rfl ?_)) | (apply OpW.k_call; first | (apply OpW.k_callf 18; exact OpW.callV k1 (Evs.cons rfl Evs.nil))) | fail)
 generalize b = b1 at *
 first | refine Cw.region_YP (fun ξ S => Chunk.box b1 33 [.tubes T, .ints K, .slots L, .int G] :: (stg (S 2) [] [ownV (ξ 2) 3 27 (T.map Tube.row)] ++ (stg (S 8) [] [ownV (ξ 8) 5 30 (L.map SlotM.row)] ++ (stg (S 14) [] [ownV (ξ 14) 1 4 (List.replicate (L.map SlotM.row).length [Tr.bool false])] ++ (stg (S 16) [] [Chunk.box (blk (ξ 16)) 77 [slV (ξ 2) (T.map Tube.row).length, .ints K, slV (ξ 8) (L.map SlotM.row).length, .int G, slV (ξ 14) (L.map SlotM.row).length, Tr.raw (.slice none 0 0), Tr.raw (.slice none 0 0), .int 0, .int 0, .int 0, .int 0, .int 0, .int 0, Tr.raw (.slice none 0 0)]] ++ []))))) rfl (by decide +kernel) rfl ((fun (ξ : Nat → Value) (S : Nat → Bool) => Chunk.box b1 33 [.tubes T, .ints K, .slots L, .int G] :: (stg (S 2) [] [ownV (ξ 2) 3 27 (T.map Tube.row)] ++ (stg (S 8) [] [ownV (ξ 8) 5 30 (L.map SlotM.row)] ++ (stg (S 14) [] [ownV (ξ 14) 1 4 (List.replicate (L.map SlotM.row).length [Tr.bool false])] ++ (stg (S 16) [] [Chunk.box (blk (ξ 16)) 77 [slV (ξ 2) (T.map Tube.row).length, .ints K, slV (ξ 8) (L.map SlotM.row).length, .int G, slV (ξ 14) (L.map SlotM.row).length, Tr.raw (.slice none 0 0), Tr.raw (.slice none 0 0), .int 0, .int 0, .int 0, .int 0, .int 0, .int 0, Tr.raw (.slice none 0 0)]] ++ []))))) (fun _ => undef) (fun _ => false)) (by simp only [upd_same, updD_same, upd_ne, updD_ne, ne_eq, Nat.reduceEqDiff, not_false_eq_true, stg_t, stg_f, vAd_s, vCap_s, blk_p, List.cons_append, List.nil_append, b2n_t, b2n_f]; exact goXm) (fun _ => rfl) ?_ | fail
 apply YSeq.w (by intro _ _ _; rfl)
 ·intro ξ S h1 h2 h3 h4
  have hN0_1 := closed_false h1 h3 (k := 1) rfl (by decide)
  have hN0_2 := closed_false hN0_1 h3 (k := 2) rfl (by decide)
  have hN0_5 := closed_false hN0_2 h3 (k := 5) rfl (by decide)
  have hN0_8 := closed_false hN0_5 h3 (k := 8) rfl (by decide)
  have hN0_15 := closed_false hN0_2 h3 (k := 15) rfl (by decide)
  have hN0_16 := closed_false hN0_15 h3 (k := 16) rfl (by decide)
  try simp only [upd_same, updD_same, upd_ne, updD_ne, ne_eq, Nat.reduceEqDiff, not_false_eq_true, stg_t, stg_f, vAd_s, vCap_s, blk_p, List.cons_append, List.nil_append, b2n_t, b2n_f, hN0_2, hN0_8, hN0_16]
  exact goW
 ·intro ξ v; rfl
 ·intro ξ k v S h3 hn hk
  first
  |rfl
 apply YSeq.w (by intro _ _ _; rfl)
 ·intro ξ S h1 h2 h3 h4
  have hN1_2 := closed_false h1 h3 (k := 2) rfl (by decide)
  have hN1_5 := closed_false hN1_2 h3 (k := 5) rfl (by decide)
  have hN1_8 := closed_false hN1_5 h3 (k := 8) rfl (by decide)
  have hN1_15 := closed_false hN1_2 h3 (k := 15) rfl (by decide)
  have hN1_16 := closed_false hN1_15 h3 (k := 16) rfl (by decide)
  try simp only [upd_same, updD_same, upd_ne, updD_ne, ne_eq, Nat.reduceEqDiff, not_false_eq_true, stg_t, stg_f, vAd_s, vCap_s, blk_p, List.cons_append, List.nil_append, b2n_t, b2n_f, hN1_2, hN1_8, hN1_16]
  exact goW
 ·intro ξ v; rfl
 ·intro ξ k v S h3 hn hk
  first
  |rfl
 apply YSeq.callO ((T.map Tube.row).length)
 ·intro ξ S h1 h2 h3 h4
  have hN2_5 := closed_false h1 h3 (k := 5) rfl (by decide)
  have hN2_8 := closed_false hN2_5 h3 (k := 8) rfl (by decide)
  have hN2_15 := closed_false h1 h3 (k := 15) rfl (by decide)
  have hN2_16 := closed_false hN2_15 h3 (k := 16) rfl (by decide)
  refine ⟨_, _, kT, (Evs.cons rfl Evs.nil), (by first | rfl | simp | omega), fun ad cap => ?_⟩
  simp only [upd_same, updD_same, upd_ne, updD_ne, ne_eq, Nat.reduceEqDiff, not_false_eq_true, stg_t, stg_f, vAd_s, vCap_s, blk_p, List.cons_append, List.nil_append, b2n_t, b2n_f, h1, hN2_8, hN2_16]
  exact goXm
 apply YSeq.w (by intro _ _ _; rfl)
 ·intro ξ S h1 h2 h3 h4
  have hN3_4 := closed_false h1 h3 (k := 4) rfl (by decide)
  have hN3_5 := closed_false hN3_4 h3 (k := 5) rfl (by decide)
  have hN3_8 := closed_false hN3_5 h3 (k := 8) rfl (by decide)
  have hN3_15 := closed_false hN3_5 h3 (k := 15) rfl (by decide)
  have hN3_16 := closed_false hN3_15 h3 (k := 16) rfl (by decide)
  try simp only [upd_same, updD_same, upd_ne, updD_ne, ne_eq, Nat.reduceEqDiff, not_false_eq_true, stg_t, stg_f, vAd_s, vCap_s, blk_p, List.cons_append, List.nil_append, b2n_t, b2n_f, hN3_8, hN3_16]
  exact goW
 ·intro ξ v; rfl
 ·intro ξ k v S h3 hn hk
  first
  |rfl
 apply YSeq.w (by intro _ _ _; rfl)
 ·intro ξ S h1 h2 h3 h4
  have hN4_5 := closed_false h1 h3 (k := 5) rfl (by decide)
  have hN4_8 := closed_false hN4_5 h3 (k := 8) rfl (by decide)
  have hN4_15 := closed_false hN4_5 h3 (k := 15) rfl (by decide)
  have hN4_16 := closed_false hN4_15 h3 (k := 16) rfl (by decide)
  try simp only [upd_same, updD_same, upd_ne, updD_ne, ne_eq, Nat.reduceEqDiff, not_false_eq_true, stg_t, stg_f, vAd_s, vCap_s, blk_p, List.cons_append, List.nil_append, b2n_t, b2n_f, hN4_8, hN4_16]
  exact goW
 ·intro ξ v; rfl
 ·intro ξ k v S h3 hn hk
  first
  |rfl
 apply YSeq.callV (by intro _ _ _; rfl)
 ·intro ξ S h1 h2 h3 h4
  have hY5_2 : S 2 = true := h2 2 (by decide)
  have hN5_8 := closed_false h1 h3 (k := 8) rfl (by decide)
  have hN5_15 := closed_false h1 h3 (k := 15) rfl (by decide)
  have hN5_16 := closed_false hN5_15 h3 (k := 16) rfl (by decide)
  try simp only [upd_same, updD_same, upd_ne, updD_ne, ne_eq, Nat.reduceEqDiff, not_false_eq_true, stg_t, stg_f, vAd_s, vCap_s, blk_p, List.cons_append, List.nil_append, b2n_t, b2n_f, hY5_2, hN5_8, hN5_16]
  exact ⟨_, (Evs.cons rfl Evs.nil), kK⟩
 ·intro ξ v; rfl
 ·intro ξ k v S h3 hn hk
  first
  |rfl
  |skip
   have hY5_2 : S 2 = true := h3 5 _ rfl hn 2 (by decide)
   simp only [upd_S hY5_2 hk]
 apply YSeq.w (by intro _ _ _; rfl)
 ·intro ξ S h1 h2 h3 h4
  have hN6_7 := closed_false h1 h3 (k := 7) rfl (by decide)
  have hN6_8 := closed_false hN6_7 h3 (k := 8) rfl (by decide)
  have hN6_15 := closed_false hN6_8 h3 (k := 15) rfl (by decide)
  have hN6_16 := closed_false hN6_15 h3 (k := 16) rfl (by decide)
  try simp only [upd_same, updD_same, upd_ne, updD_ne, ne_eq, Nat.reduceEqDiff, not_false_eq_true, stg_t, stg_f, vAd_s, vCap_s, blk_p, List.cons_append, List.nil_append, b2n_t, b2n_f, hN6_8, hN6_16]
  exact goW
 ·intro ξ v; rfl
 ·intro ξ k v S h3 hn hk
  first
  |rfl
 apply YSeq.w (by intro _ _ _; rfl)
 ·intro ξ S h1 h2 h3 h4
  have hN7_8 := closed_false h1 h3 (k := 8) rfl (by decide)
  have hN7_15 := closed_false hN7_8 h3 (k := 15) rfl (by decide)
  have hN7_16 := closed_false hN7_15 h3 (k := 16) rfl (by decide)
  try simp only [upd_same, updD_same, upd_ne, updD_ne, ne_eq, Nat.reduceEqDiff, not_false_eq_true, stg_t, stg_f, vAd_s, vCap_s, blk_p, List.cons_append, List.nil_append, b2n_t, b2n_f, hN7_8, hN7_16]
  exact goW
 ·intro ξ v; rfl
 ·intro ξ k v S h3 hn hk
  first
  |rfl
 apply YSeq.callO ((L.map SlotM.row).length)
 ·intro ξ S h1 h2 h3 h4
  have hY8_5 : S 5 = true := h2 5 (by decide)
  have hY8_2 : S 2 = true := h3 5 _ rfl hY8_5 2 (by decide)
  have hN8_15 := closed_false h1 h3 (k := 15) rfl (by decide)
  have hN8_16 := closed_false hN8_15 h3 (k := 16) rfl (by decide)
  refine ⟨_, _, kS, (Evs.cons rfl Evs.nil), (by first | rfl | simp | omega), fun ad cap => ?_⟩
  simp only [upd_same, updD_same, upd_ne, updD_ne, ne_eq, Nat.reduceEqDiff, not_false_eq_true, stg_t, stg_f, vAd_s, vCap_s, blk_p, List.cons_append, List.nil_append, b2n_t, b2n_f, hY8_2, h1, hN8_16]
  exact goXm
 apply YSeq.w (by intro _ _ _; rfl)
 ·intro ξ S h1 h2 h3 h4
  have hN9_10 := closed_false h1 h3 (k := 10) rfl (by decide)
  have hN9_15 := closed_false hN9_10 h3 (k := 15) rfl (by decide)
  have hN9_16 := closed_false hN9_15 h3 (k := 16) rfl (by decide)
  try simp only [upd_same, updD_same, upd_ne, updD_ne, ne_eq, Nat.reduceEqDiff, not_false_eq_true, stg_t, stg_f, vAd_s, vCap_s, blk_p, List.cons_append, List.nil_append, b2n_t, b2n_f, hN9_16]
  exact goW
 ·intro ξ v; rfl
 ·intro ξ k v S h3 hn hk
  first
  |rfl
 apply YSeq.w (by intro _ _ _; rfl)
 ·intro ξ S h1 h2 h3 h4
  have hN10_15 := closed_false h1 h3 (k := 15) rfl (by decide)
  have hN10_16 := closed_false hN10_15 h3 (k := 16) rfl (by decide)
  try simp only [upd_same, updD_same, upd_ne, updD_ne, ne_eq, Nat.reduceEqDiff, not_false_eq_true, stg_t, stg_f, vAd_s, vCap_s, blk_p, List.cons_append, List.nil_append, b2n_t, b2n_f, hN10_16]
  exact goW
 ·intro ξ v; rfl
 ·intro ξ k v S h3 hn hk
  first
  |rfl
 apply YSeq.w (by intro _ _ _; rfl)
 ·intro ξ S h1 h2 h3 h4
  have hN11_12 := closed_false h1 h3 (k := 12) rfl (by decide)
  have hN11_13 := closed_false hN11_12 h3 (k := 13) rfl (by decide)
  have hN11_14 := closed_false hN11_13 h3 (k := 14) rfl (by decide)
  have hN11_15 := closed_false hN11_14 h3 (k := 15) rfl (by decide)
  have hN11_16 := closed_false hN11_15 h3 (k := 16) rfl (by decide)
  try simp only [upd_same, updD_same, upd_ne, updD_ne, ne_eq, Nat.reduceEqDiff, not_false_eq_true, stg_t, stg_f, vAd_s, vCap_s, blk_p, List.cons_append, List.nil_append, b2n_t, b2n_f, hN11_14, hN11_16]
  exact goW
 ·intro ξ v; rfl
 ·intro ξ k v S h3 hn hk
  first
  |rfl
 apply YSeq.w (by intro _ _ _; rfl)
 ·intro ξ S h1 h2 h3 h4
  have hN12_13 := closed_false h1 h3 (k := 13) rfl (by decide)
  have hN12_14 := closed_false hN12_13 h3 (k := 14) rfl (by decide)
  have hN12_15 := closed_false hN12_14 h3 (k := 15) rfl (by decide)
  have hN12_16 := closed_false hN12_15 h3 (k := 16) rfl (by decide)
  try simp only [upd_same, updD_same, upd_ne, updD_ne, ne_eq, Nat.reduceEqDiff, not_false_eq_true, stg_t, stg_f, vAd_s, vCap_s, blk_p, List.cons_append, List.nil_append, b2n_t, b2n_f, hN12_14, hN12_16]
  exact goW
 ·intro ξ v; rfl
 ·intro ξ k v S h3 hn hk
  first
  |rfl
 apply YSeq.w (by intro _ _ _; rfl)
 ·intro ξ S h1 h2 h3 h4
  have hN13_14 := closed_false h1 h3 (k := 14) rfl (by decide)
  have hN13_15 := closed_false hN13_14 h3 (k := 15) rfl (by decide)
  have hN13_16 := closed_false hN13_15 h3 (k := 16) rfl (by decide)
  try simp only [upd_same, updD_same, upd_ne, updD_ne, ne_eq, Nat.reduceEqDiff, not_false_eq_true, stg_t, stg_f, vAd_s, vCap_s, blk_p, List.cons_append, List.nil_append, b2n_t, b2n_f, hN13_14, hN13_16]
  exact goW
 ·intro ξ v; rfl
 ·intro ξ k v S h3 hn hk
  first
  |rfl
 apply YSeq.mkOwn ((L.map SlotM.row).length) (fun _ => rfl) (fun _ => rfl) (by omega) (by omega)
 ·intro ξ S h1 h3 ad cap
  have hN14_15 := closed_false h1 h3 (k := 15) rfl (by decide)
  have hN14_16 := closed_false hN14_15 h3 (k := 16) rfl (by decide)
  simp only [upd_same, updD_same, upd_ne, updD_ne, ne_eq, Nat.reduceEqDiff, not_false_eq_true, stg_t, stg_f, vAd_s, vCap_s, blk_p, List.cons_append, List.nil_append, b2n_t, b2n_f, h1, hN14_16]
  exact goXm
 apply YSeq.w (by intro _ _ _; rfl)
 ·intro ξ S h1 h2 h3 h4
  have hY15_2 : S 2 = true := h2 2 (by decide)
  have hY15_8 : S 8 = true := h2 8 (by decide)
  have hY15_14 : S 14 = true := h2 14 (by decide)
  have hN15_16 := closed_false h1 h3 (k := 16) rfl (by decide)
  try simp only [upd_same, updD_same, upd_ne, updD_ne, ne_eq, Nat.reduceEqDiff, not_false_eq_true, stg_t, stg_f, vAd_s, vCap_s, blk_p, List.cons_append, List.nil_append, b2n_t, b2n_f, hY15_2, hY15_8, hY15_14, hN15_16]
  exact goW
 ·intro ξ v; rfl
 ·intro ξ k v S h3 hn hk
  first
  |rfl
  |skip
   have hY15_2 : S 2 = true := h3 15 _ rfl hn 2 (by decide)
   have hY15_8 : S 8 = true := h3 15 _ rfl hn 8 (by decide)
   have hY15_14 : S 14 = true := h3 15 _ rfl hn 14 (by decide)
   simp only [upd_S hY15_2 hk, upd_S hY15_8 hk, upd_S hY15_14 hk]
 apply YSeq.box
 ·intro ξ S h1 h2 h3 h4
  have hY16_15 : S 15 = true := h2 15 (by decide)
  have hY16_2 : S 2 = true := h3 15 _ rfl hY16_15 2 (by decide)
  have hY16_8 : S 8 = true := h3 15 _ rfl hY16_15 8 (by decide)
  have hY16_14 : S 14 = true := h3 15 _ rfl hY16_15 14 (by decide)
  simp only [upd_same, updD_same, upd_ne, updD_ne, ne_eq, Nat.reduceEqDiff, not_false_eq_true, stg_t, stg_f, vAd_s, vCap_s, blk_p, List.cons_append, List.nil_append, b2n_t, b2n_f, hY16_2, hY16_8, hY16_14, h1]
  refine ⟨_, _, rfl, inferInstance, fun b => ?_⟩
  try simp only [upd_same, updD_same, upd_ne, updD_ne, ne_eq, Nat.reduceEqDiff, not_false_eq_true, stg_t, stg_f, vAd_s, vCap_s, blk_p, List.cons_append, List.nil_append, b2n_t, b2n_f, hY16_2, hY16_8, hY16_14, h1]
  exact goXm
 apply YSeq.w (by intro _ _ _; rfl)
 ·intro ξ S h1 h2 h3 h4
  have hY17_2 : S 2 = true := h2 2 (by decide)
  have hY17_8 : S 8 = true := h2 8 (by decide)
  have hY17_14 : S 14 = true := h2 14 (by decide)
  have hY17_16 : S 16 = true := h2 16 (by decide)
  try simp only [upd_same, updD_same, upd_ne, updD_ne, ne_eq, Nat.reduceEqDiff, not_false_eq_true, stg_t, stg_f, vAd_s, vCap_s, blk_p, List.cons_append, List.nil_append, b2n_t, b2n_f, hY17_2, hY17_8, hY17_14, hY17_16]
  exact goW
 ·intro ξ v; rfl
 ·intro ξ k v S h3 hn hk
  first
  |rfl
  |skip
   have hY17_2 : S 2 = true := h3 17 _ rfl hn 2 (by decide)
   have hY17_8 : S 8 = true := h3 17 _ rfl hn 8 (by decide)
   have hY17_14 : S 14 = true := h3 17 _ rfl hn 14 (by decide)
   have hY17_16 : S 16 = true := h3 17 _ rfl hn 16 (by decide)
   simp only [upd_S hY17_2 hk, upd_S hY17_8 hk, upd_S hY17_14 hk, upd_S hY17_16 hk]
 refine YSeq.nil fun ξ hf => ?_
 refine ⟨[(1, _), (5, _)], _, Ent.trans (Ent.eqc rfl (by first | (simp only [upd_same, updD_same, upd_ne, updD_ne, ne_eq, Nat.reduceEqDiff, not_false_eq_true, stg_t, stg_f, vAd_s, vCap_s, blk_p, List.cons_append, List.nil_append, b2n_t, b2n_f, ownV, slV, ptV] <;> rfl) | rfl)) (Ent.sub goSub), ?_⟩
 clear hf
 generalize vAd (ξ 2) = ad15
 generalize vCap (ξ 2) = cap15
 generalize vAd (ξ 8) = ad21
 generalize vCap (ξ 8) = cap21
 generalize vAd (ξ 14) = ad27
 generalize vCap (ξ 14) = cap27
 generalize blk (ξ 16) = b29
 refine Then.norm ?_
 rw [hT, hS, newJ]
 repeat' (first | refine goH ?_ | refine goV ?_ | refine goB (fun b => ?_) | refine goC (fun ad cap => ?_) | refine goI ?_ | (refine Cw.k_cond ?_; first | (refine Cw.cond_dec rfl ?_ ?_ <;> intro hc <;> try omega) | refine Cw.cond_bool rfl ?_ ?_ <;> intro hc) | refine goR ?_ | refine goP ?_ | apply PSeq.cons | apply PSeq.yes rfl rfl rfl | exact goW | fail)
 refine Cw.loopI [(5, _), (31, _), (32, _)] _ (fun q e cc => ∃ (k : Nat) (aY : Option Addr) (cY : Nat) (rows : List (List Tr)), q = L.length - k ∧ (k ≤ L.length ∧ rows = (newY (L.take k)).map Tally.row ∧ rows.length = k) ∧ e = [(33, .int k)] ∧ cc = [mX b29 ad15 T.length cap15 K ad21 L.length cap21 G ad27 L.length cap27 none 0 0 aY k cY 0 0 0 0 0 0, Chunk.own aY cY 3 47 rows])
  ⟨_, _, _, Ent.trans (Ent.nil 3 47) (Ent.mkP goSub goPm), 0, none, 0, [], rfl, ⟨by omega, rfl, rfl⟩, rfl, rfl⟩ ?_
 rintro _ _ _ ⟨k, aY, cY, rows, rfl, ⟨hk, hrs, hrl⟩, rfl, rfl⟩
 by_cases hkl : k < L.length
 rotate_left
 ·have hke : k = L.length := by omega
  rw [hke, List.take_length] at hrs
  subst hrs
  subst hke
  repeat' (first | refine goH ?_ | refine goV ?_ | refine goB (fun b => ?_) | refine goC (fun ad cap => ?_) | refine goI ?_ | (refine Cw.k_cond ?_; first | (refine Cw.cond_dec rfl ?_ ?_ <;> intro hc <;> try omega) | refine Cw.cond_bool rfl ?_ ?_ <;> intro hc) | refine goR ?_ | refine goP ?_ | apply PSeq.cons | apply PSeq.yes rfl rfl rfl | exact goW | fail)
  exact Fin.ret (Ent.take goTk) (Outs.many rfl (OutL.cons goOe (OutL.cons goOe OutL.nil)) rfl) ⟨_, _, _, _, _, _, _, _, _, rfl, rfl⟩
 obtain ⟨s, hs⟩ := at_lt hkl
 have hrow : (L.map SlotM.row)[k]? = some [.str s.key, .str s.prod, .int s.price, .int s.most, .int s.cnt] := rows_at hs
 have hsn := newY_snoc hs
 rw [← hrs] at hsn
 repeat' (first | refine goH ?_ | refine goV ?_ | refine goB (fun b => ?_) | refine goC (fun ad cap => ?_) | refine goI ?_ | (refine Cw.k_cond ?_; first | (refine Cw.cond_dec rfl ?_ ?_ <;> intro hc <;> try omega) | refine Cw.cond_bool rfl ?_ ?_ <;> intro hc) | fail)
 first | refine Cw.region_YP (fun ξ S => Chunk.box b29 77 [Tr.raw (.slice ad15 T.length cap15), .ints K, Tr.raw (.slice ad21 L.length cap21), .int G, Tr.raw (.slice ad27 L.length cap27), Tr.raw (.slice none 0 0), stg (S 14) (Tr.raw (.slice aY k cY)) (slV (ξ 10) (k + 1)), .int 0, .int 0, .int 0, .int 0, .int 0, .int 0, Tr.raw (.slice none 0 0)] :: stg (S 10) (Chunk.own aY cY 3 47 rows) (ownV (ξ 10) 3 47 (rows ++ [[.str s.key, .int 0, .int 0]])) :: Chunk.box b 30 [.str s.key, .str s.prod, .int s.price, .int s.most, .int s.cnt] :: Chunk.box b1 33 [.tubes T, .ints K, .slots L, .int G] :: Chunk.own ad15 cap15 3 27 (T.map Tube.row) :: Chunk.own ad21 cap21 5 30 (L.map SlotM.row) :: Chunk.own ad27 cap27 1 4 (boolRows (List.replicate L.length false)) :: []) rfl (by decide +kernel) rfl ((fun (ξ : Nat → Value) (S : Nat → Bool) => Chunk.box b29 77 [Tr.raw (.slice ad15 T.length cap15), .ints K, Tr.raw (.slice ad21 L.length cap21), .int G, Tr.raw (.slice ad27 L.length cap27), Tr.raw (.slice none 0 0), stg (S 14) (Tr.raw (.slice aY k cY)) (slV (ξ 10) (k + 1)), .int 0, .int 0, .int 0, .int 0, .int 0, .int 0, Tr.raw (.slice none 0 0)] :: stg (S 10) (Chunk.own aY cY 3 47 rows) (ownV (ξ 10) 3 47 (rows ++ [[.str s.key, .int 0, .int 0]])) :: Chunk.box b 30 [.str s.key, .str s.prod, .int s.price, .int s.most, .int s.cnt] :: Chunk.box b1 33 [.tubes T, .ints K, .slots L, .int G] :: Chunk.own ad15 cap15 3 27 (T.map Tube.row) :: Chunk.own ad21 cap21 5 30 (L.map SlotM.row) :: Chunk.own ad27 cap27 1 4 (boolRows (List.replicate L.length false)) :: []) (fun _ => undef) (fun _ => false)) (by simp only [upd_same, updD_same, upd_ne, updD_ne, ne_eq, Nat.reduceEqDiff, not_false_eq_true, stg_t, stg_f, vAd_s, vCap_s, blk_p, List.cons_append, List.nil_append, b2n_t, b2n_f]; exact goXm) (fun _ => rfl) ?_ | fail
 apply YSeq.w (by intro _ _ _; rfl)
 ·intro ξ S h1 h2 h3 h4
  have hN0_14 := closed_false h1 h3 (k := 14) rfl (by decide)
  try simp only [upd_same, updD_same, upd_ne, updD_ne, ne_eq, Nat.reduceEqDiff, not_false_eq_true, stg_t, stg_f, vAd_s, vCap_s, blk_p, List.cons_append, List.nil_append, b2n_t, b2n_f, hN0_14]
  exact goW
 ·intro ξ v; rfl
 ·intro ξ k v S h3 hn hk
  first
  |rfl
 apply YSeq.w (by intro _ _ _; rfl)
 ·intro ξ S h1 h2 h3 h4
  have hN1_2 := closed_false h1 h3 (k := 2) rfl (by decide)
  have hN1_3 := closed_false hN1_2 h3 (k := 3) rfl (by decide)
  have hN1_4 := closed_false hN1_3 h3 (k := 4) rfl (by decide)
  have hN1_5 := closed_false hN1_4 h3 (k := 5) rfl (by decide)
  have hN1_10 := closed_false hN1_5 h3 (k := 10) rfl (by decide)
  have hN1_14 := closed_false h1 h3 (k := 14) rfl (by decide)
  try simp only [upd_same, updD_same, upd_ne, updD_ne, ne_eq, Nat.reduceEqDiff, not_false_eq_true, stg_t, stg_f, vAd_s, vCap_s, blk_p, List.cons_append, List.nil_append, b2n_t, b2n_f, hN1_10, hN1_14]
  exact goW
 ·intro ξ v; rfl
 ·intro ξ k v S h3 hn hk
  first
  |rfl
 apply YSeq.w (by intro _ _ _; rfl)
 ·intro ξ S h1 h2 h3 h4
  have hN2_3 := closed_false h1 h3 (k := 3) rfl (by decide)
  have hN2_4 := closed_false hN2_3 h3 (k := 4) rfl (by decide)
  have hN2_5 := closed_false hN2_4 h3 (k := 5) rfl (by decide)
  have hN2_10 := closed_false hN2_5 h3 (k := 10) rfl (by decide)
  have hN2_14 := closed_false h1 h3 (k := 14) rfl (by decide)
  try simp only [upd_same, updD_same, upd_ne, updD_ne, ne_eq, Nat.reduceEqDiff, not_false_eq_true, stg_t, stg_f, vAd_s, vCap_s, blk_p, List.cons_append, List.nil_append, b2n_t, b2n_f, hN2_10, hN2_14]
  exact goW
 ·intro ξ v; rfl
 ·intro ξ k v S h3 hn hk
  first
  |rfl
 apply YSeq.w (by intro _ _ _; rfl)
 ·intro ξ S h1 h2 h3 h4
  have hN3_4 := closed_false h1 h3 (k := 4) rfl (by decide)
  have hN3_5 := closed_false hN3_4 h3 (k := 5) rfl (by decide)
  have hN3_10 := closed_false hN3_5 h3 (k := 10) rfl (by decide)
  have hN3_14 := closed_false h1 h3 (k := 14) rfl (by decide)
  try simp only [upd_same, updD_same, upd_ne, updD_ne, ne_eq, Nat.reduceEqDiff, not_false_eq_true, stg_t, stg_f, vAd_s, vCap_s, blk_p, List.cons_append, List.nil_append, b2n_t, b2n_f, hN3_10, hN3_14]
  exact goW
 ·intro ξ v; rfl
 ·intro ξ k v S h3 hn hk
  first
  |rfl
 apply YSeq.w (by intro _ _ _; rfl)
 ·intro ξ S h1 h2 h3 h4
  have hN4_5 := closed_false h1 h3 (k := 5) rfl (by decide)
  have hN4_10 := closed_false hN4_5 h3 (k := 10) rfl (by decide)
  have hN4_14 := closed_false h1 h3 (k := 14) rfl (by decide)
  try simp only [upd_same, updD_same, upd_ne, updD_ne, ne_eq, Nat.reduceEqDiff, not_false_eq_true, stg_t, stg_f, vAd_s, vCap_s, blk_p, List.cons_append, List.nil_append, b2n_t, b2n_f, hN4_10, hN4_14]
  exact goW
 ·intro ξ v; rfl
 ·intro ξ k v S h3 hn hk
  first
  |rfl
 apply YSeq.w (by intro _ _ _; rfl)
 ·intro ξ S h1 h2 h3 h4
  have hN5_10 := closed_false h1 h3 (k := 10) rfl (by decide)
  have hN5_14 := closed_false h1 h3 (k := 14) rfl (by decide)
  try simp only [upd_same, updD_same, upd_ne, updD_ne, ne_eq, Nat.reduceEqDiff, not_false_eq_true, stg_t, stg_f, vAd_s, vCap_s, blk_p, List.cons_append, List.nil_append, b2n_t, b2n_f, hN5_10, hN5_14]
  exact goW
 ·intro ξ v; rfl
 ·intro ξ k v S h3 hn hk
  first
  |rfl
 apply YSeq.w (by intro _ _ _; rfl)
 ·intro ξ S h1 h2 h3 h4
  have hN6_7 := closed_false h1 h3 (k := 7) rfl (by decide)
  have hN6_8 := closed_false hN6_7 h3 (k := 8) rfl (by decide)
  have hN6_9 := closed_false hN6_8 h3 (k := 9) rfl (by decide)
  have hN6_10 := closed_false hN6_9 h3 (k := 10) rfl (by decide)
  have hN6_14 := closed_false h1 h3 (k := 14) rfl (by decide)
  try simp only [upd_same, updD_same, upd_ne, updD_ne, ne_eq, Nat.reduceEqDiff, not_false_eq_true, stg_t, stg_f, vAd_s, vCap_s, blk_p, List.cons_append, List.nil_append, b2n_t, b2n_f, hN6_10, hN6_14]
  exact goW
 ·intro ξ v; rfl
 ·intro ξ k v S h3 hn hk
  first
  |rfl
 apply YSeq.w (by intro _ _ _; rfl)
 ·intro ξ S h1 h2 h3 h4
  have hN7_8 := closed_false h1 h3 (k := 8) rfl (by decide)
  have hN7_9 := closed_false hN7_8 h3 (k := 9) rfl (by decide)
  have hN7_10 := closed_false hN7_9 h3 (k := 10) rfl (by decide)
  have hN7_14 := closed_false h1 h3 (k := 14) rfl (by decide)
  try simp only [upd_same, updD_same, upd_ne, updD_ne, ne_eq, Nat.reduceEqDiff, not_false_eq_true, stg_t, stg_f, vAd_s, vCap_s, blk_p, List.cons_append, List.nil_append, b2n_t, b2n_f, hN7_10, hN7_14]
  exact goW
 ·intro ξ v; rfl
 ·intro ξ k v S h3 hn hk
  first
  |rfl
 apply YSeq.w (by intro _ _ _; rfl)
 ·intro ξ S h1 h2 h3 h4
  have hN8_9 := closed_false h1 h3 (k := 9) rfl (by decide)
  have hN8_10 := closed_false hN8_9 h3 (k := 10) rfl (by decide)
  have hN8_14 := closed_false h1 h3 (k := 14) rfl (by decide)
  try simp only [upd_same, updD_same, upd_ne, updD_ne, ne_eq, Nat.reduceEqDiff, not_false_eq_true, stg_t, stg_f, vAd_s, vCap_s, blk_p, List.cons_append, List.nil_append, b2n_t, b2n_f, hN8_10, hN8_14]
  exact goW
 ·intro ξ v; rfl
 ·intro ξ k v S h3 hn hk
  first
  |rfl
 apply YSeq.w (by intro _ _ _; rfl)
 ·intro ξ S h1 h2 h3 h4
  have hN9_10 := closed_false h1 h3 (k := 10) rfl (by decide)
  have hN9_14 := closed_false h1 h3 (k := 14) rfl (by decide)
  try simp only [upd_same, updD_same, upd_ne, updD_ne, ne_eq, Nat.reduceEqDiff, not_false_eq_true, stg_t, stg_f, vAd_s, vCap_s, blk_p, List.cons_append, List.nil_append, b2n_t, b2n_f, hN9_10, hN9_14]
  exact goW
 ·intro ξ v; rfl
 ·intro ξ k v S h3 hn hk
  first
  |rfl
 apply YSeq.append ((k + 1))
 ·intro ξ S h1 h2 h3 h4
  have hN10_14 := closed_false h1 h3 (k := 14) rfl (by decide)
  simp only [upd_same, updD_same, upd_ne, updD_ne, ne_eq, Nat.reduceEqDiff, not_false_eq_true, stg_t, stg_f, vAd_s, vCap_s, blk_p, List.cons_append, List.nil_append, b2n_t, b2n_f, h1, hN10_14]
  refine ⟨_, _, _, _, _, _, rfl, rfl, goXp, (by first | rfl | (simp; done) | omega), (by first | rfl | omega | (simp; done) | (simp; omega)), (by first | omega | (simp; done) | (simp; omega)), (by first | omega | (simp; done) | (simp; omega)), fun ad' cap' => ?_⟩
  exact goXm
 apply YSeq.w (by intro _ _ _; rfl)
 ·intro ξ S h1 h2 h3 h4
  have hY11_10 : S 10 = true := h2 10 (by decide)
  have hN11_12 := closed_false h1 h3 (k := 12) rfl (by decide)
  have hN11_13 := closed_false hN11_12 h3 (k := 13) rfl (by decide)
  have hN11_14 := closed_false hN11_13 h3 (k := 14) rfl (by decide)
  try simp only [upd_same, updD_same, upd_ne, updD_ne, ne_eq, Nat.reduceEqDiff, not_false_eq_true, stg_t, stg_f, vAd_s, vCap_s, blk_p, List.cons_append, List.nil_append, b2n_t, b2n_f, hY11_10, hN11_14]
  exact goW
 ·intro ξ v; rfl
 ·intro ξ k v S h3 hn hk
  first
  |rfl
  |skip
   have hY11_10 : S 10 = true := h3 11 _ rfl hn 10 (by decide)
   simp only [upd_S hY11_10 hk]
 apply YSeq.w (by intro _ _ _; rfl)
 ·intro ξ S h1 h2 h3 h4
  have hY12_10 : S 10 = true := h2 10 (by decide)
  have hN12_13 := closed_false h1 h3 (k := 13) rfl (by decide)
  have hN12_14 := closed_false hN12_13 h3 (k := 14) rfl (by decide)
  try simp only [upd_same, updD_same, upd_ne, updD_ne, ne_eq, Nat.reduceEqDiff, not_false_eq_true, stg_t, stg_f, vAd_s, vCap_s, blk_p, List.cons_append, List.nil_append, b2n_t, b2n_f, hY12_10, hN12_14]
  exact goW
 ·intro ξ v; rfl
 ·intro ξ k v S h3 hn hk
  first
  |rfl
  |skip
   have hY12_10 : S 10 = true := h3 12 _ rfl hn 10 (by decide)
   simp only [upd_S hY12_10 hk]
 apply YSeq.w (by intro _ _ _; rfl)
 ·intro ξ S h1 h2 h3 h4
  have hY13_10 : S 10 = true := h2 10 (by decide)
  have hN13_14 := closed_false h1 h3 (k := 14) rfl (by decide)
  try simp only [upd_same, updD_same, upd_ne, updD_ne, ne_eq, Nat.reduceEqDiff, not_false_eq_true, stg_t, stg_f, vAd_s, vCap_s, blk_p, List.cons_append, List.nil_append, b2n_t, b2n_f, hY13_10, hN13_14]
  exact goW
 ·intro ξ v; rfl
 ·intro ξ k v S h3 hn hk
  first
  |rfl
  |skip
   have hY13_10 : S 10 = true := h3 13 _ rfl hn 10 (by decide)
   simp only [upd_S hY13_10 hk]
 apply YSeq.store
 ·intro ξ S h1 h2 h3 h4
  have hY14_10 : S 10 = true := h2 10 (by decide)
  simp only [upd_same, updD_same, upd_ne, updD_ne, ne_eq, Nat.reduceEqDiff, not_false_eq_true, stg_t, stg_f, vAd_s, vCap_s, blk_p, List.cons_append, List.nil_append, b2n_t, b2n_f, hY14_10, h1]
  refine ⟨_, _, _, _, _, _, _, rfl, rfl, inferInstance, goXp, rfl, Nat.le_of_ble_eq_true rfl, ?_⟩
  exact goXm
 refine YSeq.nil fun ξ hf => ?_
 refine ⟨[(5, _), (31, _), (32, _), (33, _)], _, Ent.trans (Ent.eqc rfl (by first | (simp only [upd_same, updD_same, upd_ne, updD_ne, ne_eq, Nat.reduceEqDiff, not_false_eq_true, stg_t, stg_f, vAd_s, vCap_s, blk_p, List.cons_append, List.nil_append, b2n_t, b2n_f, ownV, slV, ptV] <;> rfl) | rfl)) (Ent.sub goSub), ?_⟩
 clear hf
 generalize vAd (ξ 10) = ad47
 generalize vCap (ξ 10) = cap47
 repeat (first | refine InB.norm ?_ | refine Then.norm ?_)
 repeat' (first | refine goH ?_ | refine goV ?_ | refine goB (fun b => ?_) | refine goC (fun ad cap => ?_) | refine goI ?_ | (refine Cw.k_cond ?_; first | (refine Cw.cond_dec rfl ?_ ?_ <;> intro hc <;> try omega) | refine Cw.cond_bool rfl ?_ ?_ <;> intro hc) | refine goR ?_ | refine goP ?_ | apply PSeq.cons | apply PSeq.yes rfl rfl rfl | exact goW | fail)
 exact ⟨_, _, _, (Ent.mk goSub goTk), ⟨k + 1, _, _, _, rfl, ⟨by omega, hsn, by rw [List.length_append, hrl]; rfl⟩, rfl, rfl⟩, by omega⟩
theorem audit_fn {b : Nat} {aT aS aJ aE aY : Option Addr} {nT cT nS cS nJ cJ nE cE nY cY : Nat} {K : List Int} {G i o f c x r : Int} (T : List Tube) (Y : List Tally) (hT : T.length ≤ 1000) (hnT : nT = T.length) (hY : Y.length ≤ 1000) (hnY : nY = Y.length) :
  Spec Tryz.prog 7 [.ptr b] [mX b aT nT cT K aS nS cS G aJ nJ cJ aE nE cE aY nY cY i o f c x r, ownT aT cT T, ownY aY cY Y] (fun z cs => z = .agg [.sl 3 (Y.map Tally.row), .int i, .int o, .int f, .int c, .int x, .int r, .tubes T] ∧ cs = [mX b aT nT cT K aS nS cS G aJ nJ cJ aE nE cE aY nY cY i o f c x r, ownT aT cT T, ownY aY cY Y]) := by
 have kT := cloneS_tubeM (ad := aT) (n := nT) (cap := cT) (T.map Tube.row) (by rw [List.length_map, hnT]) (by rw [List.length_map]; omega)
 have kY := cloneS_tally (ad := aY) (n := nY) (cap := cY) (Y.map Tally.row) (by rw [List.length_map, hnY]) (by rw [List.length_map]; omega)
 refine Spec.body Tryz.func7 rfl rfl (Tryz.ntmps7) rfl fun w0 own0 M => ?_
 repeat' (first | refine goH ?_ | refine goV ?_ | refine goB (fun b => ?_) | (refine Ops.k_nilCheck ?_; first | refine Ops.nilCheck_eptr rfl rfl ?_) | refine goI ?_ | (refine Cw.k_cond ?_; first | (refine Cw.cond_dec rfl ?_ ?_ <;> intro hc <;> try omega) | refine Cw.cond_bool rfl ?_ ?_ <;> intro hc) | fail)
 rename_i b2
 generalize b = b3 at *
 refine goR ?_
 repeat' (first | refine goH ?_ | refine goV ?_ | refine goB (fun b => ?_) | refine goI ?_ | (refine Cw.k_cond ?_; first | (refine Cw.cond_dec rfl ?_ ?_ <;> intro hc <;> try omega) | refine Cw.cond_bool rfl ?_ ?_ <;> intro hc) | exact OpW.callS kY (Evs.cons rfl Evs.nil) goPm | exact OpW.callS kT (Evs.cons rfl Evs.nil) goPm | refine goR ?_ | refine goP ?_ | apply PSeq.cons | apply PSeq.yes rfl rfl rfl | exact goW | fail)
 exact Fin.ret (Ent.trans (Ent.setbox (s := 2) rfl goPk) (Ent.take goTk)) (Outs.sole rfl goOe) ⟨rfl, rfl⟩
end Lg
end
section
set_option linter.all false
set_option maxRecDepth 100000
set_option maxHeartbeats 8000000
namespace Lg
open Go Go.Proofs

/-! ### machines: coins in, slots jammed, loaded, filled (the program's side) -/
def insO (K : List Int) (H cr v : Int) : Int := if v ∉ K then 8 else if H < cr + v then 12 else 0
def insL (K : List Int) (H cr v : Int) (E : List Int) : List Int := if insO K H cr v = 0 then E ++ [v] else E
def insC (K : List Int) (H cr v : Int) : Int := if insO K H cr v = 0 then cr + v else cr
theorem intRows_snocM (E : List Int) (v : Int) : intRows (E ++ [v]) = intRows E ++ [[Tr.int v]] := by simp [intRows]
attribute [local irreducible] intRows
theorem insert_fn {b : Nat} {aT aS aJ aE aY : Option Addr} {nT cT nS cS nJ cJ nE cE nY cY : Nat} {K : List Int} {H i o f c x r : Int} (E : List Int) (v : Int) (hK : K.length ≤ 1000) (hE : E.length ≤ 1000000) (hn : nE = E.length) (hr : 0 ≤ r ∧ r ≤ 1000000) (hv : 0 ≤ v ∧ v ≤ 1000000) :
  Spec Tryz.prog 9 [.ptr b, .int v] [mX b aT nT cT K aS nS cS H aJ nJ cJ aE nE cE aY nY cY i o f c x r, ownI aE cE E] (fun y cs => ∃ (aE' : Option Addr) (cE' : Nat), y = .int (insO K H r v) ∧ cs = [mX b aT nT cT K aS nS cS H aJ nJ cJ aE' ((insL K H r v E).length) cE' aY nY cY i o f c x (insC K H r v), ownI aE' cE' (insL K H r v E)]) := by
 have kC := contains_fn K v (by omega)
 have hl : (intRows E).length = nE := by rw [intRows_len, hn]
 by_cases h1 : v ∈ K
 ·rw [decide_eq_true h1] at kC
  by_cases h2 : H < r + v
  ·have e : insO K H r v = 12 := by unfold insO; rw [if_neg (not_not_intro h1), if_pos h2]
   unfold insL insC
   rw [e, if_neg (by decide), if_neg (by decide), ← hn]
   clear e h1
   refine Spec.body Tryz.func9 rfl rfl (Tryz.ntmps9) rfl fun w0 own0 M => ?_
   repeat' (first | refine goH ?_ | refine goV ?_ | refine goC (fun ad cap => ?_) | refine goI ?_ | (refine Cw.k_cond ?_; first | (refine Cw.cond_dec rfl ?_ ?_ <;> intro hc <;> try omega) | refine Cw.cond_bool rfl ?_ ?_ <;> intro hc) | (refine Ops.k_calla ?_; first | (refine Ops.k_callf 24 ?_; refine Ops.callV kC (Evs.cons rfl (Evs.cons rfl Evs.nil)) rfl ?_)) | (apply OpW.k_call; first | (apply OpW.k_callf 24; exact OpW.callV kC (Evs.cons rfl (Evs.cons rfl Evs.nil)))) | refine goR ?_ | refine goP ?_ | apply PSeq.cons | apply PSeq.yes rfl rfl rfl | exact goW | fail)
   exact Fin.ret (Ent.take (Take.cons goPk (Take.cons goPk Take.nil))) (Outs.one rfl rfl) ⟨_, _, rfl, rfl⟩
  ·have e : insO K H r v = 0 := by unfold insO; rw [if_neg (not_not_intro h1), if_neg h2]
   unfold insL insC
   rw [e, if_pos rfl, if_pos rfl]
   have hlen : (E ++ [v]).length = nE + 1 := by rw [List.length_append, ← hn]; rfl
   rw [hlen]
   clear e h1
   refine Spec.body Tryz.func9 rfl rfl (Tryz.ntmps9) rfl fun w0 own0 M => ?_
   repeat' (first | refine goH ?_ | refine goV ?_ | refine goC (fun ad cap => ?_) | refine goI ?_ | (refine Cw.k_cond ?_; first | (refine Cw.cond_dec rfl ?_ ?_ <;> intro hc <;> try omega) | refine Cw.cond_bool rfl ?_ ?_ <;> intro hc) | (refine Ops.k_calla ?_; first | (refine Ops.k_callf 24 ?_; refine Ops.callV kC (Evs.cons rfl (Evs.cons rfl Evs.nil)) rfl ?_)) | (apply OpW.k_call; first | (apply OpW.k_callf 24; exact OpW.callV kC (Evs.cons rfl (Evs.cons rfl Evs.nil)))) | refine goR ?_ | refine goP ?_ | apply PSeq.cons | apply PSeq.yes rfl rfl rfl | exact goW | fail)
   have hl2 : (intRows E ++ [[Tr.int v]]).length = nE + 1 := by rw [List.length_append, hl]; rfl
   try rw [hl2]
   rw [← intRows_snocM]
   exact Fin.ret (Ent.take (Take.cons goPk (Take.cons goPk Take.nil))) (Outs.one rfl rfl) ⟨_, _, rfl, rfl⟩
 ·rw [decide_eq_false h1] at kC
  have e : insO K H r v = 8 := by unfold insO; rw [if_pos h1]
  unfold insL insC
  rw [e, if_neg (by decide), if_neg (by decide), ← hn]
  clear e h1
  refine Spec.body Tryz.func9 rfl rfl (Tryz.ntmps9) rfl fun w0 own0 M => ?_
  repeat' (first | refine goH ?_ | refine goV ?_ | refine goC (fun ad cap => ?_) | refine goI ?_ | (refine Cw.k_cond ?_; first | (refine Cw.cond_dec rfl ?_ ?_ <;> intro hc <;> try omega) | refine Cw.cond_bool rfl ?_ ?_ <;> intro hc) | (refine Ops.k_calla ?_; first | (refine Ops.k_callf 24 ?_; refine Ops.callV kC (Evs.cons rfl (Evs.cons rfl Evs.nil)) rfl ?_)) | (apply OpW.k_call; first | (apply OpW.k_callf 24; exact OpW.callV kC (Evs.cons rfl (Evs.cons rfl Evs.nil)))) | refine goR ?_ | refine goP ?_ | apply PSeq.cons | apply PSeq.yes rfl rfl rfl | exact goW | fail)
  exact Fin.ret (Ent.take (Take.cons goPk (Take.cons goPk Take.nil))) (Outs.one rfl rfl) ⟨_, _, rfl, rfl⟩

end Lg
end
