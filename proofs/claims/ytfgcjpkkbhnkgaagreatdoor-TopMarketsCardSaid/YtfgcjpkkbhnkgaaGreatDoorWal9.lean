/- A part of the proof of a law of this seat: it adds no condition. By an AI agent. -/
import Derived.Test.YtfgcjpkkbhnkgaaGreatDoorWal3
section
set_option linter.all false
set_option maxRecDepth 100000
set_option maxHeartbeats 8000000
namespace Lg
open Go Go.Proofs

/-- a copy of its own -/
theorem clone_int (rows : List (List Tr)) (hk : ∀ r ∈ rows, r.length = 1) (hl : rows.length ≤ 1000000) : PFnO Tryz.prog 55 [.sl 1 rows] 1 3 (· = rows) := by
 unfold PFnO
 refine Spec.body Tryz.func55 rfl rfl (Tryz.ntmps55) rfl fun w0 own0 M => ?_
 repeat' (first | refine goH ?_ | ((fail_if_success refine Ops.k_b_eql ?_); (fail_if_success refine Ops.k_buildSlice ?_); refine goV ?_) | ((fail_if_success refine Ops.k_b_eql ?_); (fail_if_success refine Ops.k_buildSlice ?_); refine goC (fun ad cap => ?_)) | refine goI ?_ | (refine Cw.k_cond ?_; first | (refine Cw.cond_dec rfl ?_ ?_ <;> intro hc <;> try omega) | refine Cw.cond_bool rfl ?_ ?_ <;> intro hc) | fail)
 refine Ops.eql_nilS rfl rfl (fun b hb => ?_)
 cases b
 ·repeat' (first | refine goH ?_ | ((fail_if_success refine Ops.k_buildSlice ?_); refine goV ?_) | ((fail_if_success refine Ops.k_buildSlice ?_); refine goC (fun ad cap => ?_)) | refine goI ?_ | (refine Cw.k_cond ?_; first | (refine Cw.cond_dec rfl ?_ ?_ <;> intro hc <;> try omega) | refine Cw.cond_bool rfl ?_ ?_ <;> intro hc) | fail)
  refine Ops.buildSlice_own (by exact Parts.nil) rfl rfl rfl (fun ad cap => ?_)
  repeat' (first | refine goH ?_ | refine goV ?_ | refine goC (fun ad cap => ?_) | refine goI ?_ | (refine Cw.k_cond ?_; first | (refine Cw.cond_dec rfl ?_ ?_ <;> intro hc <;> try omega) | refine Cw.cond_bool rfl ?_ ?_ <;> intro hc) | fail)
  exact Fin.ret (Ent.take goTk) (Outs.one rfl rfl) ⟨_, _, _, rfl, rfl, rfl⟩
 ·have hr := hb rfl
  subst hr
  repeat' (first | refine goH ?_ | refine goV ?_ | refine goC (fun ad cap => ?_) | refine goI ?_ | (refine Cw.k_cond ?_; first | (refine Cw.cond_dec rfl ?_ ?_ <;> intro hc <;> try omega) | refine Cw.cond_bool rfl ?_ ?_ <;> intro hc) | fail)
  exact Fin.ret (Ent.trans (Ent.nil 1 3) (Ent.take goTk)) (Outs.one rfl rfl) ⟨none, 0, [], rfl, rfl, rfl⟩

/-- a copy of its own -/
theorem clone_str (rows : List (List Tr)) (hk : ∀ r ∈ rows, r.length = 1) (hl : rows.length ≤ 1000000) : PFnO Tryz.prog 17 [.sl 1 rows] 1 9 (· = rows) := by
 unfold PFnO
 refine Spec.body Tryz.func17 rfl rfl (Tryz.ntmps17) rfl fun w0 own0 M => ?_
 repeat' (first | refine goH ?_ | ((fail_if_success refine Ops.k_b_eql ?_); (fail_if_success refine Ops.k_buildSlice ?_); refine goV ?_) | ((fail_if_success refine Ops.k_b_eql ?_); (fail_if_success refine Ops.k_buildSlice ?_); refine goC (fun ad cap => ?_)) | refine goI ?_ | (refine Cw.k_cond ?_; first | (refine Cw.cond_dec rfl ?_ ?_ <;> intro hc <;> try omega) | refine Cw.cond_bool rfl ?_ ?_ <;> intro hc) | fail)
 refine Ops.eql_nilS rfl rfl (fun b hb => ?_)
 cases b
 ·repeat' (first | refine goH ?_ | ((fail_if_success refine Ops.k_buildSlice ?_); refine goV ?_) | ((fail_if_success refine Ops.k_buildSlice ?_); refine goC (fun ad cap => ?_)) | refine goI ?_ | (refine Cw.k_cond ?_; first | (refine Cw.cond_dec rfl ?_ ?_ <;> intro hc <;> try omega) | refine Cw.cond_bool rfl ?_ ?_ <;> intro hc) | fail)
  refine Ops.buildSlice_own (by exact Parts.nil) rfl rfl rfl (fun ad cap => ?_)
  repeat' (first | refine goH ?_ | refine goV ?_ | refine goC (fun ad cap => ?_) | refine goI ?_ | (refine Cw.k_cond ?_; first | (refine Cw.cond_dec rfl ?_ ?_ <;> intro hc <;> try omega) | refine Cw.cond_bool rfl ?_ ?_ <;> intro hc) | fail)
  exact Fin.ret (Ent.take goTk) (Outs.one rfl rfl) ⟨_, _, _, rfl, rfl, rfl⟩
 ·have hr := hb rfl
  subst hr
  repeat' (first | refine goH ?_ | refine goV ?_ | refine goC (fun ad cap => ?_) | refine goI ?_ | (refine Cw.k_cond ?_; first | (refine Cw.cond_dec rfl ?_ ?_ <;> intro hc <;> try omega) | refine Cw.cond_bool rfl ?_ ?_ <;> intro hc) | fail)
  exact Fin.ret (Ent.trans (Ent.nil 1 9) (Ent.take goTk)) (Outs.one rfl rfl) ⟨none, 0, [], rfl, rfl, rfl⟩

theorem intRows_k (l : List Int) : ∀ r ∈ intRows l, r.length = 1 := by
 intro r hr
 obtain ⟨x, _, rfl⟩ := List.mem_map.1 hr
 rfl
theorem strRows_k (l : List ByteArray) : ∀ r ∈ strRows l, r.length = 1 := by
 intro r hr
 obtain ⟨x, _, rfl⟩ := List.mem_map.1 hr
 rfl
/-- a wallet of one's own -/
abbrev walV (s : List ByteArray) (adR : Option Addr) (capR : Nat) (L : List IL) (adU : Option Addr) (capU : Nat) (u : List Int) : List Tr := [.strs s, Tr.raw (.slice adR (rowsW L).length capR), Tr.raw (.slice adU (intRows u).length capU)]
def walC (adR : Option Addr) (capR : Nat) (L : List IL) (adU : Option Addr) (capU : Nat) (u : List Int) (cs : List Chunk) : Prop := cs = [Chunk.own adU capU 1 3 (intRows u), Chunk.own adR capR 1 22 (rowsW L), Chunk.bun (ownsW 3 L)]
theorem owned_fn (w : Wal) (hw : WBd w) : Spec Tryz.prog 20 [.wal w] [] (fun r cs => ∃ (adR : Option Addr) (capR : Nat) (L : List IL) (adU : Option Addr) (capU : Nat), r = .agg (walV w.sites adR capR L adU capU w.used) ∧ valsW L = w.rights ∧ walC adR capR L adU capU w.used cs) := by
 have n1 := hw.n1
 have nr := hw.r
 have nu := hw.u
 have hS := strRows_len w.sites
 have hR := intsR_len w.rights
 have hU := intRows_len w.used
 have k1 := (clone_str (strRows w.sites) (strRows_k _) (by omega)).val
 have k2 := clone_int (intRows w.used) (intRows_k _) (by omega)
 refine Spec.body Tryz.func20 rfl rfl (Tryz.ntmps20) rfl fun w0 own0 M => ?_
 repeat' (first | refine goH ?_ | refine goV ?_ | refine goB (fun b => ?_) | refine goC (fun ad cap => ?_) | refine goI ?_ | (refine Cw.k_cond ?_; first | (refine Cw.cond_dec rfl ?_ ?_ <;> intro hc <;> try omega) | refine Cw.cond_bool rfl ?_ ?_ <;> intro hc) | fail)
 rename_i b1
 rename Nat => b2
 first | refine Cw.region_YP (fun ξ S => Chunk.box b1 29 [.strs w.sites, .sl 1 (intsR w.rights), .ints w.used] :: Chunk.box b2 29 (List.map Tr.raw [.slice none 0 0, .slice none 0 0, .slice none 0 0]) :: (stg (S 5) [] [ownV (ξ 5) 1 3 (intRows w.used)] ++ (stg (S 7) [] [Chunk.box (blk (ξ 7)) 29 (stg (S 8) [Tr.raw (.slice none 0 0), Tr.raw (.slice none 0 0), Tr.raw (.slice none 0 0)] [.strs w.sites, Tr.raw (.slice none 0 0), slV (ξ 5) (intRows w.used).length])] ++ []))) rfl (by decide +kernel) rfl ((fun (ξ : Nat → Value) (S : Nat → Bool) => Chunk.box b1 29 [.strs w.sites, .sl 1 (intsR w.rights), .ints w.used] :: Chunk.box b2 29 (List.map Tr.raw [.slice none 0 0, .slice none 0 0, .slice none 0 0]) :: (stg (S 5) [] [ownV (ξ 5) 1 3 (intRows w.used)] ++ (stg (S 7) [] [Chunk.box (blk (ξ 7)) 29 (stg (S 8) [Tr.raw (.slice none 0 0), Tr.raw (.slice none 0 0), Tr.raw (.slice none 0 0)] [.strs w.sites, Tr.raw (.slice none 0 0), slV (ξ 5) (intRows w.used).length])] ++ []))) (fun _ => undef) (fun _ => false)) (by simp only [upd_same, updD_same, upd_ne, updD_ne, ne_eq, Nat.reduceEqDiff, not_false_eq_true, stg_t, stg_f, vAd_s, vCap_s, blk_p, List.cons_append, List.nil_append, b2n_t, b2n_f]; exact goXm) (fun _ => rfl) ?_ | fail
 apply YSeq.w (by intro _ _ _; rfl)
 ·intro ξ S h1 h2 h3 h4
  have hN0_1 := closed_false h1 h3 (k := 1) rfl (by decide)
  have hN0_2 := closed_false hN0_1 h3 (k := 2) rfl (by decide)
  have hN0_5 := closed_false hN0_2 h3 (k := 5) rfl (by decide)
  have hN0_8 := closed_false h1 h3 (k := 8) rfl (by decide)
  try simp only [upd_same, updD_same, upd_ne, updD_ne, ne_eq, Nat.reduceEqDiff, not_false_eq_true, stg_t, stg_f, vAd_s, vCap_s, blk_p, List.cons_append, List.nil_append, b2n_t, b2n_f, hN0_5, hN0_8]
  exact goW
 ·intro ξ v; rfl
 ·intro ξ k v S h3 hn hk
  first
  |rfl
 apply YSeq.w (by intro _ _ _; rfl)
 ·intro ξ S h1 h2 h3 h4
  have hN1_2 := closed_false h1 h3 (k := 2) rfl (by decide)
  have hN1_5 := closed_false hN1_2 h3 (k := 5) rfl (by decide)
  have hN1_8 := closed_false h1 h3 (k := 8) rfl (by decide)
  try simp only [upd_same, updD_same, upd_ne, updD_ne, ne_eq, Nat.reduceEqDiff, not_false_eq_true, stg_t, stg_f, vAd_s, vCap_s, blk_p, List.cons_append, List.nil_append, b2n_t, b2n_f, hN1_5, hN1_8]
  exact goW
 ·intro ξ v; rfl
 ·intro ξ k v S h3 hn hk
  first
  |rfl
 apply YSeq.callV (by intro _ _ _; rfl)
 ·intro ξ S h1 h2 h3 h4
  have hN2_5 := closed_false h1 h3 (k := 5) rfl (by decide)
  have hN2_8 := closed_false h1 h3 (k := 8) rfl (by decide)
  try simp only [upd_same, updD_same, upd_ne, updD_ne, ne_eq, Nat.reduceEqDiff, not_false_eq_true, stg_t, stg_f, vAd_s, vCap_s, blk_p, List.cons_append, List.nil_append, b2n_t, b2n_f, hN2_5, hN2_8]
  exact ⟨_, (Evs.cons rfl Evs.nil), k1⟩
 ·intro ξ v; rfl
 ·intro ξ k v S h3 hn hk
  first
  |rfl
 apply YSeq.w (by intro _ _ _; rfl)
 ·intro ξ S h1 h2 h3 h4
  have hN3_4 := closed_false h1 h3 (k := 4) rfl (by decide)
  have hN3_5 := closed_false hN3_4 h3 (k := 5) rfl (by decide)
  have hN3_8 := closed_false h1 h3 (k := 8) rfl (by decide)
  try simp only [upd_same, updD_same, upd_ne, updD_ne, ne_eq, Nat.reduceEqDiff, not_false_eq_true, stg_t, stg_f, vAd_s, vCap_s, blk_p, List.cons_append, List.nil_append, b2n_t, b2n_f, hN3_5, hN3_8]
  exact goW
 ·intro ξ v; rfl
 ·intro ξ k v S h3 hn hk
  first
  |rfl
 apply YSeq.w (by intro _ _ _; rfl)
 ·intro ξ S h1 h2 h3 h4
  have hN4_5 := closed_false h1 h3 (k := 5) rfl (by decide)
  have hN4_8 := closed_false h1 h3 (k := 8) rfl (by decide)
  try simp only [upd_same, updD_same, upd_ne, updD_ne, ne_eq, Nat.reduceEqDiff, not_false_eq_true, stg_t, stg_f, vAd_s, vCap_s, blk_p, List.cons_append, List.nil_append, b2n_t, b2n_f, hN4_5, hN4_8]
  exact goW
 ·intro ξ v; rfl
 ·intro ξ k v S h3 hn hk
  first
  |rfl
 apply YSeq.callO ((intRows w.used).length)
 ·intro ξ S h1 h2 h3 h4
  have hN5_8 := closed_false h1 h3 (k := 8) rfl (by decide)
  refine ⟨_, _, k2, (Evs.cons rfl Evs.nil), (by first | rfl | simp | omega), fun ad cap => ?_⟩
  simp only [upd_same, updD_same, upd_ne, updD_ne, ne_eq, Nat.reduceEqDiff, not_false_eq_true, stg_t, stg_f, vAd_s, vCap_s, blk_p, List.cons_append, List.nil_append, b2n_t, b2n_f, h1, hN5_8]
  exact goXm
 apply YSeq.w (by intro _ _ _; rfl)
 ·intro ξ S h1 h2 h3 h4
  have hY6_5 : S 5 = true := h2 5 (by decide)
  have hN6_8 := closed_false h1 h3 (k := 8) rfl (by decide)
  try simp only [upd_same, updD_same, upd_ne, updD_ne, ne_eq, Nat.reduceEqDiff, not_false_eq_true, stg_t, stg_f, vAd_s, vCap_s, blk_p, List.cons_append, List.nil_append, b2n_t, b2n_f, hY6_5, hN6_8]
  exact goW
 ·intro ξ v; rfl
 ·intro ξ k v S h3 hn hk
  first
  |rfl
  |skip
   have hY6_5 : S 5 = true := h3 6 _ rfl hn 5 (by decide)
   simp only [upd_S hY6_5 hk]
 apply YSeq.alloc
 ·intro ξ S b h1 h3
  have hN7_8 := closed_false h1 h3 (k := 8) rfl (by decide)
  simp only [upd_same, updD_same, upd_ne, updD_ne, ne_eq, Nat.reduceEqDiff, not_false_eq_true, stg_t, stg_f, vAd_s, vCap_s, blk_p, List.cons_append, List.nil_append, b2n_t, b2n_f, h1, hN7_8]
  exact goXm
 apply YSeq.store
 ·intro ξ S h1 h2 h3 h4
  have hY8_5 : S 5 = true := h2 5 (by decide)
  have hY8_7 : S 7 = true := h2 7 (by decide)
  simp only [upd_same, updD_same, upd_ne, updD_ne, ne_eq, Nat.reduceEqDiff, not_false_eq_true, stg_t, stg_f, vAd_s, vCap_s, blk_p, List.cons_append, List.nil_append, b2n_t, b2n_f, hY8_5, hY8_7, h1]
  refine ⟨_, _, _, _, _, _, _, rfl, rfl, inferInstance, goXp, rfl, Nat.le_of_ble_eq_true rfl, ?_⟩
  exact goXm
 refine YSeq.nil fun ξ hf => ?_
 refine ⟨[(1, _), (2, _), (3, _)], _, Ent.trans (Ent.eqc rfl (by first | (simp only [upd_same, updD_same, upd_ne, updD_ne, ne_eq, Nat.reduceEqDiff, not_false_eq_true, stg_t, stg_f, vAd_s, vCap_s, blk_p, List.cons_append, List.nil_append, b2n_t, b2n_f, ownV, slV, ptV] <;> rfl) | rfl)) (Ent.sub goSub), ?_⟩
 clear hf
 generalize vAd (ξ 5) = ad11
 generalize vCap (ξ 5) = cap11
 generalize blk (ξ 7) = b3
 repeat' (first | refine goH ?_ | refine goV ?_ | refine goB (fun b => ?_) | refine goC (fun ad cap => ?_) | refine goI ?_ | (refine Cw.k_cond ?_; first | (refine Cw.cond_dec rfl ?_ ?_ <;> intro hc <;> try omega) | refine Cw.cond_bool rfl ?_ ?_ <;> intro hc) | refine goR ?_ | refine goP ?_ | apply PSeq.cons | apply PSeq.yes rfl rfl rfl | exact goW | fail)
 refine Cw.loopI [(2, _), (3, _), (14, _), (15, _)] _ (fun q e cc => ∃ (k : Nat) (ad : Option Addr) (cap : Nat) (L : List IL), q = w.rights.length - k ∧ (k ≤ w.rights.length ∧ L.length = k ∧ valsW L = w.rights.take k) ∧ e = [(16, .int k)] ∧ cc = [Chunk.box b3 29 [.strs w.sites, Tr.raw (.slice ad k cap), Tr.raw (.slice ad11 (intRows w.used).length cap11)], Chunk.own ad cap 1 22 (rowsW L), Chunk.bun (ownsW 3 L)])
  ⟨_, _, _, Ent.trans (Ent.nil 1 22) (Ent.trans Ent.bun0 (Ent.mkP goSub goPm)), 0, none, 0, [], rfl, ⟨by omega, rfl, rfl⟩, rfl, rfl⟩ ?_
 rintro _ _ _ ⟨k, ad, cap, L, rfl, ⟨hk, hL, hv⟩, rfl, rfl⟩
 have hVl : (rowsW L).length = k := by rw [rowsW_len, hL]
 by_cases hkl : k < w.rights.length
 ·obtain ⟨l, hx⟩ := at_lt hkl
  have hrow := intsR_at hx
  have hlb := hw.rr l (List.mem_of_getElem? hx)
  have hlr := intRows_len l
  have k3 := clone_int (intRows l) (intRows_k _) (by omega)
  repeat' (first | refine goH ?_ | refine goV ?_ | refine goB (fun b => ?_) | refine goC (fun ad cap => ?_) | refine goI ?_ | (refine Cw.k_cond ?_; first | (refine Cw.cond_dec rfl ?_ ?_ <;> intro hc <;> try omega) | refine Cw.cond_bool rfl ?_ ?_ <;> intro hc) | fail)
  first | refine Cw.region_YP (fun ξ S => Chunk.box b3 29 [.strs w.sites, stg (S 7) (Tr.raw (.slice ad k cap)) (slV (ξ 5) (k + 1)), Tr.raw (.slice ad11 (intRows w.used).length cap11)] :: Chunk.box b1 29 [.strs w.sites, .sl 1 (intsR w.rights), .ints w.used] :: Chunk.box b2 29 (List.map Tr.raw [.slice none 0 0, .slice none 0 0, .slice none 0 0]) :: Chunk.own ad11 cap11 1 3 (intRows w.used) :: Chunk.bun (ownsW 3 L) :: stg (S 5) (Chunk.own ad cap 1 22 (rowsW L)) (ownV (ξ 5) 1 22 (rowsW L ++ [[slV (ξ 3) (intRows l).length]])) :: (stg (S 3) [] [ownV (ξ 3) 1 3 (intRows l)] ++ (stg (S 4) [] (stg (S 5) [ownV (ξ 4) 1 22 [[slV (ξ 3) (intRows l).length]]] []) ++ []))) rfl (by decide +kernel) rfl ((fun (ξ : Nat → Value) (S : Nat → Bool) => Chunk.box b3 29 [.strs w.sites, stg (S 7) (Tr.raw (.slice ad k cap)) (slV (ξ 5) (k + 1)), Tr.raw (.slice ad11 (intRows w.used).length cap11)] :: Chunk.box b1 29 [.strs w.sites, .sl 1 (intsR w.rights), .ints w.used] :: Chunk.box b2 29 (List.map Tr.raw [.slice none 0 0, .slice none 0 0, .slice none 0 0]) :: Chunk.own ad11 cap11 1 3 (intRows w.used) :: Chunk.bun (ownsW 3 L) :: stg (S 5) (Chunk.own ad cap 1 22 (rowsW L)) (ownV (ξ 5) 1 22 (rowsW L ++ [[slV (ξ 3) (intRows l).length]])) :: (stg (S 3) [] [ownV (ξ 3) 1 3 (intRows l)] ++ (stg (S 4) [] (stg (S 5) [ownV (ξ 4) 1 22 [[slV (ξ 3) (intRows l).length]]] []) ++ []))) (fun _ => undef) (fun _ => false)) (by simp only [upd_same, updD_same, upd_ne, updD_ne, ne_eq, Nat.reduceEqDiff, not_false_eq_true, stg_t, stg_f, vAd_s, vCap_s, blk_p, List.cons_append, List.nil_append, b2n_t, b2n_f]; exact goXm) (fun _ => rfl) ?_ | fail
  apply YSeq.w (by intro _ _ _; rfl)
  ·intro ξ S h1 h2 h3 h4
   have hN0_1 := closed_false h1 h3 (k := 1) rfl (by decide)
   have hN0_5 := closed_false hN0_1 h3 (k := 5) rfl (by decide)
   have hN0_7 := closed_false h1 h3 (k := 7) rfl (by decide)
   try simp only [upd_same, updD_same, upd_ne, updD_ne, ne_eq, Nat.reduceEqDiff, not_false_eq_true, stg_t, stg_f, vAd_s, vCap_s, blk_p, List.cons_append, List.nil_append, b2n_t, b2n_f, hN0_5, hN0_7]
   exact goW
  ·intro ξ v; rfl
  ·intro ξ k v S h3 hn hk
   first
   |rfl
  apply YSeq.w (by intro _ _ _; rfl)
  ·intro ξ S h1 h2 h3 h4
   have hN1_5 := closed_false h1 h3 (k := 5) rfl (by decide)
   have hN1_7 := closed_false h1 h3 (k := 7) rfl (by decide)
   try simp only [upd_same, updD_same, upd_ne, updD_ne, ne_eq, Nat.reduceEqDiff, not_false_eq_true, stg_t, stg_f, vAd_s, vCap_s, blk_p, List.cons_append, List.nil_append, b2n_t, b2n_f, hN1_5, hN1_7]
   exact goW
  ·intro ξ v; rfl
  ·intro ξ k v S h3 hn hk
   first
   |rfl
  apply YSeq.w (by intro _ _ _; rfl)
  ·intro ξ S h1 h2 h3 h4
   have hN2_3 := closed_false h1 h3 (k := 3) rfl (by decide)
   have hN2_4 := closed_false hN2_3 h3 (k := 4) rfl (by decide)
   have hN2_5 := closed_false hN2_3 h3 (k := 5) rfl (by decide)
   have hN2_7 := closed_false h1 h3 (k := 7) rfl (by decide)
   try simp only [upd_same, updD_same, upd_ne, updD_ne, ne_eq, Nat.reduceEqDiff, not_false_eq_true, stg_t, stg_f, vAd_s, vCap_s, blk_p, List.cons_append, List.nil_append, b2n_t, b2n_f, hN2_3, hN2_4, hN2_5, hN2_7]
   exact goW
  ·intro ξ v; rfl
  ·intro ξ k v S h3 hn hk
   first
   |rfl
  apply YSeq.callO ((intRows l).length)
  ·intro ξ S h1 h2 h3 h4
   have hN3_4 := closed_false h1 h3 (k := 4) rfl (by decide)
   have hN3_5 := closed_false h1 h3 (k := 5) rfl (by decide)
   have hN3_7 := closed_false h1 h3 (k := 7) rfl (by decide)
   refine ⟨_, _, k3, (Evs.cons rfl Evs.nil), (by first | rfl | simp | omega), fun ad cap => ?_⟩
   simp only [upd_same, updD_same, upd_ne, updD_ne, ne_eq, Nat.reduceEqDiff, not_false_eq_true, stg_t, stg_f, vAd_s, vCap_s, blk_p, List.cons_append, List.nil_append, b2n_t, b2n_f, h1, hN3_4, hN3_5, hN3_7]
   exact goXm
  apply YSeq.lit
  ·intro ξ S h1 h2 h3 h4
   have hY4_3 : S 3 = true := h2 3 (by decide)
   have hN4_5 := closed_false h1 h3 (k := 5) rfl (by decide)
   have hN4_7 := closed_false h1 h3 (k := 7) rfl (by decide)
   refine ⟨_, _, (by first | exact (by exact Parts.cons rfl rfl rfl (by exact Parts.nil)) | exact (by exact Parts.cons rfl rfl rfl (by exact Parts.cons rfl rfl rfl (by exact Parts.nil))) | exact (by exact Parts.cons rfl rfl rfl (by exact Parts.cons rfl rfl rfl (by exact Parts.cons rfl rfl rfl (by exact Parts.nil)))) | exact (by exact Parts.cons rfl rfl rfl (by exact Parts.cons rfl rfl rfl (by exact Parts.cons rfl rfl rfl (by exact Parts.cons rfl rfl rfl (by exact Parts.nil))))) | exact (by exact Parts.cons rfl rfl rfl (by exact Parts.cons rfl rfl rfl (by exact Parts.cons rfl rfl rfl (by exact Parts.cons rfl rfl rfl (by exact Parts.cons rfl rfl rfl (by exact Parts.nil))))))), goNt, rfl, fun ad cap => ?_⟩
   simp only [upd_same, updD_same, upd_ne, updD_ne, ne_eq, Nat.reduceEqDiff, not_false_eq_true, stg_t, stg_f, vAd_s, vCap_s, blk_p, List.cons_append, List.nil_append, b2n_t, b2n_f, hY4_3, h1, hN4_5, hN4_7]
   exact goXm
  apply YSeq.appendO (k + 1)
  ·intro ξ S h1 h2 h3 h4
   have hY5_3 : S 3 = true := h2 3 (by decide)
   have hY5_4 : S 4 = true := h2 4 (by decide)
   have hN5_7 := closed_false h1 h3 (k := 7) rfl (by decide)
   simp only [upd_same, updD_same, upd_ne, updD_ne, ne_eq, Nat.reduceEqDiff, not_false_eq_true, stg_t, stg_f, vAd_s, vCap_s, blk_p, List.cons_append, List.nil_append, b2n_t, b2n_f, hY5_3, hY5_4, h1, hN5_7]
   refine ⟨_, _, _, _, _, _, _, _, _, _, rfl, rfl, goXp, goXp, (by first | rfl | (simp; done) | omega), (by first | rfl | (simp; done) | omega), (by first | rfl | omega | (simp; done) | (simp; omega)), (by first | omega | (simp; done) | (simp; omega)), (by first | omega | (simp; done) | (simp; omega)), fun ad' cap' => ?_⟩
   exact goXm
  apply YSeq.w (by intro _ _ _; rfl)
  ·intro ξ S h1 h2 h3 h4
   have hY6_3 : S 3 = true := h2 3 (by decide)
   have hY6_4 : S 4 = true := h2 4 (by decide)
   have hY6_5 : S 5 = true := h2 5 (by decide)
   have hN6_7 := closed_false h1 h3 (k := 7) rfl (by decide)
   try simp only [upd_same, updD_same, upd_ne, updD_ne, ne_eq, Nat.reduceEqDiff, not_false_eq_true, stg_t, stg_f, vAd_s, vCap_s, blk_p, List.cons_append, List.nil_append, b2n_t, b2n_f, hY6_3, hY6_4, hY6_5, hN6_7]
   exact goW
  ·intro ξ v; rfl
  ·intro ξ k v S h3 hn hk
   first
   |rfl
   |skip
    have hY6_3 : S 3 = true := h3 6 _ rfl hn 3 (by decide)
    have hY6_4 : S 4 = true := h3 6 _ rfl hn 4 (by decide)
    have hY6_5 : S 5 = true := h3 6 _ rfl hn 5 (by decide)
    simp only [upd_S hY6_3 hk, upd_S hY6_4 hk, upd_S hY6_5 hk]
  apply YSeq.store
  ·intro ξ S h1 h2 h3 h4
   have hY7_3 : S 3 = true := h2 3 (by decide)
   have hY7_4 : S 4 = true := h2 4 (by decide)
   have hY7_5 : S 5 = true := h2 5 (by decide)
   simp only [upd_same, updD_same, upd_ne, updD_ne, ne_eq, Nat.reduceEqDiff, not_false_eq_true, stg_t, stg_f, vAd_s, vCap_s, blk_p, List.cons_append, List.nil_append, b2n_t, b2n_f, hY7_3, hY7_4, hY7_5, h1]
   refine ⟨_, _, _, _, _, _, _, rfl, rfl, inferInstance, goXp, rfl, Nat.le_of_ble_eq_true rfl, ?_⟩
   exact goXm
  refine YSeq.nil fun ξ hf => ?_
  refine ⟨[(2, _), (3, _), (14, _), (15, _), (16, _)], _, Ent.trans (Ent.eqc rfl (by first | (simp only [upd_same, updD_same, upd_ne, updD_ne, ne_eq, Nat.reduceEqDiff, not_false_eq_true, stg_t, stg_f, vAd_s, vCap_s, blk_p, List.cons_append, List.nil_append, b2n_t, b2n_f, ownV, slV, ptV] <;> rfl) | rfl)) (Ent.sub goSub), ?_⟩
  clear hf
  generalize vAd (ξ 3) = ad23
  generalize vCap (ξ 3) = cap23
  generalize vAd (ξ 4) = ad24
  generalize vCap (ξ 4) = cap24
  generalize vAd (ξ 5) = ad25
  generalize vCap (ξ 5) = cap25
  rw [show ([[Tr.raw (.slice ad23 (intRows l).length cap23)]] : List (List Tr)) = [[Tr.raw (IL.val ⟨ad23, cap23, l⟩)]] from rfl, rowsW_snoc]
  refine InB.norm (Then.norm ?_)
  refine Cw.ent (Ent.push (c := (⟨ad23, cap23, l⟩ : IL).own 3) (L := ownsW 3 L) (by exact goPk) (by exact goPk)) ?_
  rw [ownsW_snoc]
  repeat' (first | refine goH ?_ | refine goV ?_ | refine goB (fun b => ?_) | refine goC (fun ad cap => ?_) | refine goI ?_ | (refine Cw.k_cond ?_; first | (refine Cw.cond_dec rfl ?_ ?_ <;> intro hc <;> try omega) | refine Cw.cond_bool rfl ?_ ?_ <;> intro hc) | refine goR ?_ | refine goP ?_ | apply PSeq.cons | apply PSeq.yes rfl rfl rfl | exact goW | fail)
  exact ⟨_, _, _, (Ent.mk goSub goTk), ⟨k + 1, _, _, L ++ [⟨ad23, cap23, l⟩], rfl, ⟨by omega, by simp [hL], by rw [valsW_snoc, hv, take_at hx]⟩, rfl, rfl⟩, by omega⟩
 ·have hkk : k = w.rights.length := by omega
  repeat' (first | refine goH ?_ | refine goV ?_ | refine goB (fun b => ?_) | refine goC (fun ad cap => ?_) | refine goI ?_ | (refine Cw.k_cond ?_; first | (refine Cw.cond_dec rfl ?_ ?_ <;> intro hc <;> try omega) | refine Cw.cond_bool rfl ?_ ?_ <;> intro hc) | refine goR ?_ | refine goP ?_ | apply PSeq.cons | apply PSeq.yes rfl rfl rfl | exact goW | fail)
  rw [← hVl]
  refine Fin.ret (Ent.trans (Ent.setbox (s := 2) rfl goPk) (Ent.take goTk)) (Outs.sole rfl (by exact OutE.agg inferInstance rfl rfl)) ⟨ad, cap, L, ad11, cap11, rfl, ?_, rfl⟩
  rw [hv, hkk, List.take_length]
end Lg
end
section
set_option linter.all false
set_option maxRecDepth 100000
set_option maxHeartbeats 8000000
namespace Lg
open Go Go.Proofs

def wNil : Wal := ⟨[], [], []⟩
def resW (w : Wal) (e : Int) : Tr := .tup [.wal (if e = 0 then w else wNil), .int e]
theorem resW_ok {w : Wal} {e : Int} (h : e = 0) : resW w e = .tup [.wal w, .int 0] := by
 subst h
 rfl
theorem resW_bad {w : Wal} {e : Int} (h : e ≠ 0) : resW w e = .tup [.wal wNil, .int e] := by
 unfold resW
 rw [if_neg h]
theorem impW0 : ImpL (List.map Tr.raw [.slice none 0 0, .slice none 0 0, .slice none 0 0]) [.strs [], .sl 1 (intsR []), .ints []] := .cons Imp.nil (.cons Imp.nil (.cons Imp.nil .nil))
theorem done_fn (w : Wal) (e : Int) : PFn Tryz.prog 21 [.wal w, .int e] (· = resW w e) := by
 refine PFn.mk (Spec.body Tryz.func21 rfl rfl (Tryz.ntmps21) rfl fun w0 own0 M => ?_)
 by_cases h : e = 0
 ·rw [resW_ok h]
  repeat' (first | refine goH ?_ | refine goV ?_ | refine goB (fun b => ?_) | refine goI ?_ | (refine Cw.k_cond ?_; first | (refine Cw.cond_dec rfl ?_ ?_ <;> intro hc <;> try omega) | refine Cw.cond_bool rfl ?_ ?_ <;> intro hc) | fail)
  refine Fin.ret (Ent.trans (Ent.setbox (s := 4) rfl goPk) (Ent.take goTk)) (Outs.many rfl (OutL.cons goOe (OutL.cons goOe OutL.nil)) rfl) ⟨rfl, rfl⟩
 ·rw [resW_bad h]
  repeat' (first | refine goH ?_ | refine goV ?_ | refine goB (fun b => ?_) | refine goI ?_ | (refine Cw.k_cond ?_; first | (refine Cw.cond_dec rfl ?_ ?_ <;> intro hc <;> try omega) | refine Cw.cond_bool rfl ?_ ?_ <;> intro hc) | fail)
  refine Fin.ret (Ent.trans (Ent.imp_box goPk impW0) (Ent.trans (Ent.setbox (s := 4) rfl goPk) (Ent.take goTk))) (Outs.many rfl (OutL.cons goOe (OutL.cons goOe OutL.nil)) rfl) ⟨rfl, rfl⟩
def mrgE (a b : Wal) : Int := if pairE a b ≠ 0 then pairE a b else walE (mrgW a b)
theorem rowsW_mix {L : List IL} {m x : List (List Int)} {i : Nat} (h : valsW L = mixL m x i) (hm : m.length = x.length) (hi : i < x.length) : ∃ p, L[i]? = some p ∧ some p.xs = x[i]? := by
 have e := congrArg (fun l => l[i]?) h
 simp only [mixL_at hm hi] at e
 unfold valsW at e
 rw [List.getElem?_map] at e
 cases hp : L[i]? with
 |none => rw [hp] at e; rw [List.getElem?_eq_getElem hi] at e; cases e
 |some p => rw [hp] at e; exact ⟨p, rfl, e⟩
end Lg
end
section
set_option linter.all false
set_option maxRecDepth 100000
set_option maxHeartbeats 8000000
namespace Lg
open Go Go.Proofs

theorem setI (l : List Int) (i : Nat) (old v : Int) : (intRows l).set ((i : Nat) : Int).toNat ([Tr.int old].set 0 (Tr.int v)) = intRows (l.set i v) := by
 simp [intRows]
theorem walV_n {s : List ByteArray} {adR adU : Option Addr} {capR capU n : Nat} {L : List IL} {u : List Int} (h1 : (rowsW L).length = n) (h2 : (intRows u).length = n) : walV s adR capR L adU capU u = [.strs s, Tr.raw (.slice adR n capR), Tr.raw (.slice adU n capU)] := by unfold walV; rw [h1, h2]
structure MrgL (A B : Wal) (n : Nat) : Prop where
 n12 : n ≤ 12
 s : A.sites.length = n
 s2 : B.sites = A.sites
 r : A.rights.length = n
 r2 : B.rights.length = n
 u : A.used.length = n
 u2 : B.used.length = n
 rr : ∀ l ∈ A.rights, l.length = n
 rr2 : ∀ l ∈ B.rights, l.length = n
 sS : (strRows A.sites).length = n
 rR : (intsR A.rights).length = n
 rR2 : (intsR B.rights).length = n
 uU : (intRows A.used).length = n
 uU2 : (intRows B.used).length = n
 ml : (mxL A.used B.used).length = A.used.length
 mr : (mxR A.rights B.rights).length = A.rights.length
theorem MrgL.mk' {A B : Wal} (oa : WOk A) (ob : WOk B) (hs : B.sites = A.sites) : ∃ n, MrgL A B n := by
 have n1 := oa.n1
 have r1 := oa.r
 have r2 := ob.r
 have u1 := oa.u
 have u2 := ob.u
 have q1 := oa.rr
 have q2 := ob.rr
 rw [hs] at r2 u2 q2
 refine ⟨A.sites.length, n1, rfl, hs, r1, r2, u1, u2, q1, q2, strRows_len _, (intsR_len _).trans r1, (intsR_len _).trans r2, (intRows_len _).trans u1, (intRows_len _).trans u2, mxL_len (by omega), mxR_len (by omega)⟩
attribute [local irreducible] intRows intsR strRows mxL mxR mixL valsW rowsW
theorem merge_fn (A B : Wal) (ha : WBd A) (hb : WBd B) : PFn Tryz.prog 11 [.wal A, .wal B] (· = resW (mrgW A B) (mrgE A B)) := by
 have kP := pairD_fn A B ha hb
 have kO := owned_fn A ha
 refine PFn.mk (Spec.body Tryz.func11 rfl rfl (Tryz.ntmps11) rfl fun w0 own0 M => ?_)
 by_cases h1 : pairE A B ≠ 0
 ·have e : mrgE A B = pairE A B := by unfold mrgE; rw [if_pos h1]
  rw [e, resW_bad h1]
  generalize pairE A B = c at *
  repeat' (first | refine goH ?_ | refine goV ?_ | refine goB (fun b => ?_) | refine goI ?_ | (refine Cw.k_cond ?_; first | (refine Cw.cond_dec rfl ?_ ?_ <;> intro hc <;> try omega) | refine Cw.cond_bool rfl ?_ ?_ <;> intro hc) | (refine Ops.k_calla ?_; first | (refine Ops.k_callf 33 ?_; refine Ops.callV kP (Evs.cons rfl (Evs.cons rfl Evs.nil)) rfl ?_)) | (apply OpW.k_call; first | (apply OpW.k_callf 33; exact OpW.callV kP (Evs.cons rfl (Evs.cons rfl Evs.nil)))) | refine goR ?_ | refine goP ?_ | apply PSeq.cons | apply PSeq.yes rfl rfl rfl | exact goW | fail)
  refine Fin.ret (Ent.trans (Ent.imp_box goPk impW0) (Ent.trans (Ent.setbox (s := 4) rfl goPk) (Ent.take goTk))) (Outs.many rfl (OutL.cons goOe (OutL.cons goOe OutL.nil)) rfl) ⟨rfl, rfl⟩
 have h0 : pairE A B = 0 := by omega
 have he : mrgE A B = walE (mrgW A B) := by unfold mrgE; rw [if_neg h1]
 rw [h0] at kP
 obtain ⟨wa, wb, hs⟩ := pairE_ok h0
 have oa := wok_E wa
 have ob := wok_E wb
 clear wa wb h1 h0
 have hm := oa.mrg ob hs
 have kW := checkWallet_fn (mrgW A B) hm.bd
 rw [← he] at kW
 obtain ⟨c, hc⟩ : ∃ c, c = mrgE A B := ⟨_, rfl⟩
 rw [← hc] at kW ⊢
 have kD := done_fn (mrgW A B) c
 clear he hc
 obtain ⟨n, H⟩ := MrgL.mk' oa ob hs
 have n12 := H.n12
 have hS := H.sS
 have hRA := H.rR
 have hUA := H.uU
 have hR2 := H.rR2
 have hU2 := H.uU2
 repeat' (first | refine goH ?_ | refine goV ?_ | refine goB (fun b => ?_) | refine goI ?_ | (refine Cw.k_cond ?_; first | (refine Cw.cond_dec rfl ?_ ?_ <;> intro hc <;> try omega) | refine Cw.cond_bool rfl ?_ ?_ <;> intro hc) | (refine Ops.k_calla ?_; first | (refine Ops.k_callf 33 ?_; refine Ops.callV kP (Evs.cons rfl (Evs.cons rfl Evs.nil)) rfl ?_) | (refine Ops.k_callf 20 ?_; (refine Ops.call kO (Evs.cons rfl Evs.nil) goPm rfl ?_; rintro r cs' ⟨adR, capR, L, adU, capU, rfl, hv, rfl⟩; have hLl : (rowsW L).length = n := (by rw [rowsW_len, ← valsW_len, hv]; exact H.r); rw [walV_n hLl hUA]))) | (apply OpW.k_call; first | (apply OpW.k_callf 33; exact OpW.callV kP (Evs.cons rfl (Evs.cons rfl Evs.nil)))) | refine goR ?_ | refine goP ?_ | apply PSeq.cons | apply PSeq.yes rfl rfl rfl | exact goW | fail)
 refine Cw.loopI [(3, _), (4, _), (7, _), (21, _)] _ (fun q e cc => ∃ (i : Nat) (u : List Int) (L : List IL), q = n - i ∧ (i ≤ n ∧ u = mixL (mxL A.used B.used) A.used i ∧ valsW L = mixL (mxR A.rights B.rights) A.rights i ∧ (intRows u).length = n ∧ (rowsW L).length = n) ∧ e = [(22, .int i)] ∧ cc = [Chunk.own adU capU 1 3 (intRows u), Chunk.own adR capR 1 22 (rowsW L), Chunk.bun (ownsW 3 L)])
  ⟨_, _, _, (Ent.mkP goSub goPm), 0, A.used, L, rfl, ⟨by omega, (mixL_zero _ _).symm, by rw [hv, mixL_zero], hUA, hLl⟩, rfl, rfl⟩ ?_
 clear hv hLl hUA
 have hmR : n = (intsR (mrgW A B).rights).length := by rw [intsR_len, hm.r]; exact H.s.symm
 rintro _ _ _ ⟨i, u, L, rfl, ⟨hi, hu, hv, hul, hLl⟩, rfl, rfl⟩
 by_cases hil : i < n
 ·obtain ⟨ux, hux⟩ := at_lt (l := A.used) (k := i) (by rw [H.u]; exact hil)
  obtain ⟨uy, huy⟩ := at_lt (l := B.used) (k := i) (by rw [H.u2]; exact hil)
  have m1 : (intRows u)[((i : Nat) : Int).toNat]? = some [.int ux] := by rw [hu]; exact intRows_at ((mixL_at H.ml (by rw [H.u]; exact hil)).trans hux)
  have m0 := intRows_at hux
  have m2 := intRows_at huy
  have e1 : (intRows u).set ((i : Nat) : Int).toNat ([Tr.int ux].set 0 (Tr.int (max ux uy))) = intRows (mixL (mxL A.used B.used) A.used (i + 1)) := by rw [hu, setI, mixL_set H.ml (mxL_at hux huy)]
  obtain ⟨p, hp, hpx⟩ := rowsW_mix hv H.mr (by rw [H.r]; exact hil)
  have hpx2 : A.rights[i]? = some p.xs := hpx.symm
  obtain ⟨y, hy⟩ := at_lt (l := B.rights) (k := i) (by rw [H.r2]; exact hil)
  have hpl : Unit → p.xs.length = n := fun _ => H.rr _ (List.mem_of_getElem? hpx2)
  have hyl : Unit → y.length = n := fun _ => H.rr2 _ (List.mem_of_getElem? hy)
  have hmx : Unit → (mxL p.xs y).length = p.xs.length := fun _ => mxL_len ((hyl ()).trans (hpl ()).symm)
  have v1 : (rowsW L)[((i : Nat) : Int).toNat]? = some [Tr.raw p.val] := rowsW_get hp
  have v0 := intsR_at hpx2
  have v2 := intsR_at hy
  have hpr := (intRows_len p.xs).trans (hpl ())
  have hyr := (intRows_len y).trans (hyl ())
  have hpv : p.val = .slice p.ad n p.cap := by unfold IL.val; rw [hpr]
  rw [hpv] at v1
  obtain ⟨u', hu'⟩ : ∃ u', u' = mixL (mxL A.used B.used) A.used (i + 1) := ⟨_, rfl⟩
  rw [← hu'] at e1
  have hul' : (intRows u').length = n := by rw [← e1, List.length_set]; exact hul
  clear hu hux huy hpx
  repeat' (first | refine goH ?_ | (refine Ops.k_store ?_; first | (refine Ops.store_own1 rfl rfl goPk (by first | rfl | assumption | (simp [*]; done)) (by decide) ?_; rw [e1])) | refine goV ?_ | refine goB (fun b => ?_) | refine goI ?_ | (refine Cw.k_cond ?_; first | (refine Cw.cond_dec rfl ?_ ?_ <;> intro hc <;> try omega) | refine Cw.cond_bool rfl ?_ ?_ <;> intro hc) | refine goR ?_ | refine goP ?_ | apply PSeq.cons | apply PSeq.yes rfl rfl rfl | exact goW | fail)
  refine Cw.ent (ent_pullW (E := 3) hp (by exact goPk)) ?_
  clear e1 m1 m0 m2
  refine Cw.loopI [(3, _), (4, _), (7, _), (8, _), (21, _), (22, _), (42, _)] _ (fun q e cc => ∃ (j : Nat) (xs : List Int), q = n - j ∧ (j ≤ n ∧ xs = mixL (mxL p.xs y) p.xs j ∧ (intRows xs).length = n) ∧ e = [(43, .int j)] ∧ cc = [Chunk.own p.ad p.cap 1 3 (intRows xs)])
   ⟨_, _, _, (Ent.mkP goSub goPm), 0, p.xs, rfl, ⟨by omega, (mixL_zero _ _).symm, hpr⟩, rfl, rfl⟩ ?_
  rintro _ _ _ ⟨j, xs, rfl, ⟨hj, hxs, hxl⟩, rfl, rfl⟩
  by_cases hjl : j < n
  ·obtain ⟨px, hpx⟩ := at_lt (l := p.xs) (k := j) (by rw [hpl ()]; exact hjl)
   obtain ⟨py, hpy⟩ := at_lt (l := y) (k := j) (by rw [hyl ()]; exact hjl)
   have g1 : (intRows xs)[((j : Nat) : Int).toNat]? = some [.int px] := by rw [hxs]; exact intRows_at ((mixL_at (hmx ()) (by rw [hpl ()]; exact hjl)).trans hpx)
   have g0 := intRows_at hpx
   have g2 := intRows_at hpy
   have f1 : (intRows xs).set ((j : Nat) : Int).toNat ([Tr.int px].set 0 (Tr.int (max px py))) = intRows (mixL (mxL p.xs y) p.xs (j + 1)) := by rw [hxs, setI, mixL_set (hmx ()) (mxL_at hpx hpy)]
   obtain ⟨xs', hxs'⟩ : ∃ u', u' = mixL (mxL p.xs y) p.xs (j + 1) := ⟨_, rfl⟩
   rw [← hxs'] at f1
   have hxl' : (intRows xs').length = n := by rw [← f1, List.length_set]; exact hxl
   clear hxs hpx hpy
   repeat' (first | refine goH ?_ | (refine Ops.k_store ?_; first | (refine Ops.store_own1 rfl rfl goPk (by first | rfl | assumption | (simp [*]; done)) (by decide) ?_; rw [f1])) | refine goV ?_ | refine goB (fun b => ?_) | refine goI ?_ | (refine Cw.k_cond ?_; first | (refine Cw.cond_dec rfl ?_ ?_ <;> intro hc <;> try omega) | refine Cw.cond_bool rfl ?_ ?_ <;> intro hc) | refine goR ?_ | refine goP ?_ | apply PSeq.cons | apply PSeq.yes rfl rfl rfl | exact goW | fail)
   exact ⟨_, _, _, (Ent.mk goSub goTk), ⟨j + 1, xs', rfl, ⟨by omega, hxs', hxl'⟩, rfl, rfl⟩, by omega⟩
  ·have hfin : xs = mxL p.xs y := by rw [hxs, mixL_all (hmx ()) (by rw [hpl ()]; omega)]
   have hvl : (⟨p.ad, p.cap, xs⟩ : IL).val = p.val := by rw [hpv]; unfold IL.val; rw [hxl]
   have hv' : valsW (L.set i ⟨p.ad, p.cap, xs⟩) = mixL (mxR A.rights B.rights) A.rights (i + 1) := by rw [valsW_set, hv]; exact mixL_set H.mr (by rw [hfin]; exact mxR_at hpx2 hy)
   refine Cw.ent (ent_putW (E := 3) (q := ⟨p.ad, p.cap, xs⟩) hp (by exact goPk) (by exact goPk)) ?_
   rw [← rowsW_set hp hvl]
   have hLl' : (rowsW (L.set i ⟨p.ad, p.cap, xs⟩)).length = n := by rw [rowsW_set hp hvl]; exact hLl
   clear hxs v1 v0 v2 hpr hyr hLl
   repeat' (first | refine goH ?_ | refine goV ?_ | refine goB (fun b => ?_) | refine goI ?_ | (refine Cw.k_cond ?_; first | (refine Cw.cond_dec rfl ?_ ?_ <;> intro hc <;> try omega) | refine Cw.cond_bool rfl ?_ ?_ <;> intro hc) | refine goR ?_ | refine goP ?_ | apply PSeq.cons | apply PSeq.yes rfl rfl rfl | exact goW | fail)
   exact ⟨_, _, _, (Ent.mk goSub goTk), ⟨i + 1, u', L.set i ⟨p.ad, p.cap, xs⟩, rfl, ⟨by omega, hu', hv', hul', hLl'⟩, rfl, rfl⟩, by omega⟩
 ·have hu2 : u = (mrgW A B).used := by rw [hu, mixL_all H.ml (by rw [H.u]; omega)]; rfl
  have hv2 : valsW L = (mrgW A B).rights := by rw [hv, mixL_all H.mr (by rw [H.r]; omega)]; rfl
  repeat' (first | refine goH ?_ | ((fail_if_success refine Ops.k_load ?_); refine goV ?_) | ((fail_if_success refine Ops.k_load ?_); refine goB (fun b => ?_)) | refine goI ?_ | (refine Cw.k_cond ?_; first | (refine Cw.cond_dec rfl ?_ ?_ <;> intro hc <;> try omega) | refine Cw.cond_bool rfl ?_ ?_ <;> intro hc) | fail)
  first
  |refine Cw.ent (Ent.trans (ent_nestW (E2 := 3) (by exact goPk) (by exact goPk)) (Ent.trans (Ent.settle_box (b := b) (i := 1) (ad := adR) (kk := 1) (rows := intsR (valsW L)) (by exact Perm.cons' goPk (Perm.cons' goPk (List.Perm.refl _))) rfl (by rw [hv2]; exact hmR) rfl) (Ent.settle_box (b := b) (i := 2) (ad := adU) (kk := 1) (rows := intRows u) (by exact Perm.cons' goPk (Perm.cons' goPk (List.Perm.refl _))) rfl hul.symm rfl))) ?_
  |refine Ops.ent (Ent.trans (ent_nestW (E2 := 3) (by exact goPk) (by exact goPk)) (Ent.trans (Ent.settle_box (b := b) (i := 1) (ad := adR) (kk := 1) (rows := intsR (valsW L)) (by exact Perm.cons' goPk (Perm.cons' goPk (List.Perm.refl _))) rfl (by rw [hv2]; exact hmR) rfl) (Ent.settle_box (b := b) (i := 2) (ad := adU) (kk := 1) (rows := intRows u) (by exact Perm.cons' goPk (Perm.cons' goPk (List.Perm.refl _))) rfl hul.symm rfl))) ?_
  rw [hu2, hv2]
  clear hu hv hu2 hv2 hul hLl hR2 hRA hU2 hS
  by_cases hc0 : c = 0
  ·subst hc0
   rw [resW_ok rfl]
   try rw [resW_ok rfl] at kD
   repeat' (first | refine goH ?_ | refine goV ?_ | refine goB (fun b => ?_) | refine goI ?_ | (refine Cw.k_cond ?_; first | (refine Cw.cond_dec rfl ?_ ?_ <;> intro hc <;> try omega) | refine Cw.cond_bool rfl ?_ ?_ <;> intro hc) | (refine Ops.k_calla ?_; first | (refine Ops.k_callf 34 ?_; refine Ops.callV kW (Evs.cons rfl Evs.nil) rfl ?_) | (refine Ops.k_callf 21 ?_; refine Ops.callV kD (Evs.cons rfl (Evs.cons rfl Evs.nil)) rfl ?_)) | (apply OpW.k_call; first | (apply OpW.k_callf 34; exact OpW.callV kW (Evs.cons rfl Evs.nil)) | (apply OpW.k_callf 21; exact OpW.callV kD (Evs.cons rfl (Evs.cons rfl Evs.nil)))) | refine goR ?_ | refine goP ?_ | apply PSeq.cons | apply PSeq.yes rfl rfl rfl | exact goW | fail)
   refine Fin.ret (Ent.trans (Ent.setbox (s := 4) rfl goPk) (Ent.take goTk)) (Outs.many rfl (OutL.cons goOe (OutL.cons goOe OutL.nil)) rfl) ⟨rfl, rfl⟩
  ·rw [resW_bad hc0]
   try rw [resW_bad hc0] at kD
   repeat' (first | refine goH ?_ | refine goV ?_ | refine goB (fun b => ?_) | refine goI ?_ | (refine Cw.k_cond ?_; first | (refine Cw.cond_dec rfl ?_ ?_ <;> intro hc <;> try omega) | refine Cw.cond_bool rfl ?_ ?_ <;> intro hc) | (refine Ops.k_calla ?_; first | (refine Ops.k_callf 34 ?_; refine Ops.callV kW (Evs.cons rfl Evs.nil) rfl ?_) | (refine Ops.k_callf 21 ?_; refine Ops.callV kD (Evs.cons rfl (Evs.cons rfl Evs.nil)) rfl ?_)) | (apply OpW.k_call; first | (apply OpW.k_callf 34; exact OpW.callV kW (Evs.cons rfl Evs.nil)) | (apply OpW.k_callf 21; exact OpW.callV kD (Evs.cons rfl (Evs.cons rfl Evs.nil)))) | refine goR ?_ | refine goP ?_ | apply PSeq.cons | apply PSeq.yes rfl rfl rfl | exact goW | fail)
   first | (refine Fin.ret (Ent.trans (Ent.setbox (s := 4) rfl goPk) (Ent.take goTk)) (Outs.many rfl (OutL.cons goOe (OutL.cons goOe OutL.nil)) rfl) ⟨rfl, rfl⟩) | (refine Fin.ret (Ent.trans (Ent.imp_box goPk impW0) (Ent.trans (Ent.setbox (s := 4) rfl goPk) (Ent.take goTk))) (Outs.many rfl (OutL.cons goOe (OutL.cons goOe OutL.nil)) rfl) ⟨rfl, rfl⟩)
end Lg
end
