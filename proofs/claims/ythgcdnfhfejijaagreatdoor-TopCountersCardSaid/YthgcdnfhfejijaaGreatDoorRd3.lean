/- A part of the proof of a law of this seat: it adds no condition. By an AI agent. -/
import Derived.Test.YthgcdnfhfejijaaGreatDoorRd1
section
set_option linter.all false
set_option maxRecDepth 100000
set_option maxHeartbeats 8000000
namespace Lg
open Go Go.Proofs

abbrev Tr.mtr (c t f : Int) : Tr := .agg [.int c, .int t, .int f]
abbrev Tr.rdg (r : Rdg) : Tr := .agg [.int r.t, .ints r.vs]
def Rdg.row (r : Rdg) : List Tr := [.int r.t, .ints r.vs]
def mtrE (c t f : Int) : Int := if c < 1 ∨ 60 < c then 1 else if t < 10 ∨ 1000000 < t then 1 else if f < 1 ∨ t - 1 < f then 1 else 0
theorem mtrE_ok {c t f : Int} (h : mtrE c t f = 0) : (1 ≤ c ∧ c ≤ 60) ∧ (10 ≤ t ∧ t ≤ 1000000) ∧ 1 ≤ f ∧ f ≤ t - 1 := by
 unfold mtrE at h
 by_cases h1 : c < 1 ∨ 60 < c
 ·rw [if_pos h1] at h; omega
 rw [if_neg h1] at h
 by_cases h2 : t < 10 ∨ 1000000 < t
 ·rw [if_pos h2] at h; omega
 rw [if_neg h2] at h
 by_cases h3 : f < 1 ∨ t - 1 < f
 ·rw [if_pos h3] at h; omega
 omega
theorem mtrE_01 (c t f : Int) : mtrE c t f = 0 ∨ mtrE c t f = 1 := by
 unfold mtrE
 split
 ·exact .inr rfl
 ·split
  ·exact .inr rfl
  ·split
   ·exact .inr rfl
   ·exact .inl rfl
theorem checkMeter_fn (c t f : Int) : PFn Tryz.prog 86 [.mtr c t f] (· = .int (mtrE c t f)) := by
 have k1 := out_fn c 1 60
 have k2 := out_fn t 10 1000000
 have k3 := out_fn f 1 (t - 1)
 unfold mtrE
 refine PFn.mk (Spec.body Tryz.func86 rfl rfl (Tryz.ntmps86) rfl fun w0 own0 M => ?_)
 by_cases h1 : c < 1 ∨ 60 < c
 ·have e1 : outB c 1 60 = true := decide_eq_true h1
  rw [if_pos h1]
  rw [e1] at k1
  repeat' (first | refine goH ?_ | refine goV ?_ | refine goB (fun b => ?_) | refine goG ?_ | (refine Ops.k_guard ?_; first | (refine Ops.guard_dec rfl rfl ?_ ?_ <;> intro hc <;> try omega) | refine Ops.guard_split rfl rfl ?_ ?_ <;> intro hc) | refine goI ?_ | (refine Cw.k_cond ?_; first | (refine Cw.cond_dec rfl ?_ ?_ <;> intro hc <;> try omega) | refine Cw.cond_bool rfl ?_ ?_ <;> intro hc) | (refine Ops.k_calla ?_; first | (refine Ops.k_callf 32 ?_; refine Ops.callV k1 (Evs.cons rfl (Evs.cons rfl (Evs.cons rfl Evs.nil))) rfl ?_)) | fail)
  exact Fin.ret (Ent.take goTk) (Outs.one rfl rfl) ⟨rfl, rfl⟩
 have e1 : outB c 1 60 = false := decide_eq_false h1
 rw [if_neg h1]
 rw [e1] at k1
 by_cases h2 : t < 10 ∨ 1000000 < t
 ·have e2 : outB t 10 1000000 = true := decide_eq_true h2
  rw [if_pos h2]
  rw [e2] at k2
  repeat' (first | refine goH ?_ | refine goV ?_ | refine goB (fun b => ?_) | refine goG ?_ | (refine Ops.k_guard ?_; first | (refine Ops.guard_dec rfl rfl ?_ ?_ <;> intro hc <;> try omega) | refine Ops.guard_split rfl rfl ?_ ?_ <;> intro hc) | refine goI ?_ | (refine Cw.k_cond ?_; first | (refine Cw.cond_dec rfl ?_ ?_ <;> intro hc <;> try omega) | refine Cw.cond_bool rfl ?_ ?_ <;> intro hc) | (refine Ops.k_calla ?_; first | (refine Ops.k_callf 32 ?_; refine Ops.callV k1 (Evs.cons rfl (Evs.cons rfl (Evs.cons rfl Evs.nil))) rfl ?_) | (refine Ops.k_callf 32 ?_; refine Ops.callV k2 (Evs.cons rfl (Evs.cons rfl (Evs.cons rfl Evs.nil))) rfl ?_)) | fail)
  exact Fin.ret (Ent.take goTk) (Outs.one rfl rfl) ⟨rfl, rfl⟩
 have e2 : outB t 10 1000000 = false := decide_eq_false h2
 rw [if_neg h2]
 rw [e2] at k2
 by_cases h3 : f < 1 ∨ t - 1 < f
 ·have e3 : outB f 1 (t - 1) = true := decide_eq_true h3
  rw [if_pos h3]
  rw [e3] at k3
  repeat' (first | refine goH ?_ | refine goV ?_ | refine goB (fun b => ?_) | refine goG ?_ | (refine Ops.k_guard ?_; first | (refine Ops.guard_dec rfl rfl ?_ ?_ <;> intro hc <;> try omega) | refine Ops.guard_split rfl rfl ?_ ?_ <;> intro hc) | refine goI ?_ | (refine Cw.k_cond ?_; first | (refine Cw.cond_dec rfl ?_ ?_ <;> intro hc <;> try omega) | refine Cw.cond_bool rfl ?_ ?_ <;> intro hc) | (refine Ops.k_calla ?_; first | (refine Ops.k_callf 32 ?_; refine Ops.callV k1 (Evs.cons rfl (Evs.cons rfl (Evs.cons rfl Evs.nil))) rfl ?_) | (refine Ops.k_callf 32 ?_; refine Ops.callV k2 (Evs.cons rfl (Evs.cons rfl (Evs.cons rfl Evs.nil))) rfl ?_) | (refine Ops.k_callf 32 ?_; refine Ops.callV k3 (Evs.cons rfl (Evs.cons rfl (Evs.cons rfl Evs.nil))) rfl ?_)) | fail)
  exact Fin.ret (Ent.take goTk) (Outs.one rfl rfl) ⟨rfl, rfl⟩
 ·have e3 : outB f 1 (t - 1) = false := decide_eq_false h3
  rw [if_neg h3]
  rw [e3] at k3
  repeat' (first | refine goH ?_ | refine goV ?_ | refine goB (fun b => ?_) | refine goG ?_ | (refine Ops.k_guard ?_; first | (refine Ops.guard_dec rfl rfl ?_ ?_ <;> intro hc <;> try omega) | refine Ops.guard_split rfl rfl ?_ ?_ <;> intro hc) | refine goI ?_ | (refine Cw.k_cond ?_; first | (refine Cw.cond_dec rfl ?_ ?_ <;> intro hc <;> try omega) | refine Cw.cond_bool rfl ?_ ?_ <;> intro hc) | (refine Ops.k_calla ?_; first | (refine Ops.k_callf 32 ?_; refine Ops.callV k1 (Evs.cons rfl (Evs.cons rfl (Evs.cons rfl Evs.nil))) rfl ?_) | (refine Ops.k_callf 32 ?_; refine Ops.callV k2 (Evs.cons rfl (Evs.cons rfl (Evs.cons rfl Evs.nil))) rfl ?_) | (refine Ops.k_callf 32 ?_; refine Ops.callV k3 (Evs.cons rfl (Evs.cons rfl (Evs.cons rfl Evs.nil))) rfl ?_)) | fail)
  exact Fin.ret (Ent.take goTk) (Outs.one rfl rfl) ⟨rfl, rfl⟩
theorem momentD_fn (n : Int) : PFn Tryz.prog 119 [.int n] (· = .bool (decide (0 ≤ n ∧ n < 5761440))) := by
 have k := out_fn n 0 5761439
 refine PFn.mk (Spec.body Tryz.func119 rfl rfl (Tryz.ntmps119) rfl fun w0 own0 M => ?_)
 repeat' (first | refine goH ?_ | refine goV ?_ | refine goI ?_ | (refine Cw.k_cond ?_; first | (refine Cw.cond_dec rfl ?_ ?_ <;> intro hc <;> try omega) | refine Cw.cond_bool rfl ?_ ?_ <;> intro hc) | (refine Ops.k_calla ?_; first | (refine Ops.k_callf 32 ?_; refine Ops.callV k (Evs.cons rfl (Evs.cons rfl (Evs.cons rfl Evs.nil))) rfl ?_)) | fail)
 refine Fin.ret (Ent.take goTk) (Outs.one rfl rfl) ⟨rfl, congrArg Tr.bool ?_⟩
 rw [Bool.eq_iff_iff]
 simp
 omega
def valB (t : Int) (x : Int) : Bool := decide (x < 0 ∨ t - 1 < x)
def rdgE (c t f : Int) (r : Rdg) : Int := if mtrE c t f ≠ 0 then 1 else if ¬ (0 ≤ r.t ∧ r.t < 5761440) then 1 else if (r.vs.length : Int) ≠ c then 3 else if r.vs.any (valB t) = true then 1 else 0
structure ROk (c t : Int) (r : Rdg) : Prop where
 t0 : 0 ≤ r.t ∧ r.t < 5761440
 n : (r.vs.length : Int) = c
 v : ∀ x ∈ r.vs, 0 ≤ x ∧ x < t
theorem valD_fn (c t f : Int) (b : Nat) (x : Int) (ht : -1000000000000 ≤ t ∧ t ≤ 1000000000000) : Spec Tryz.prog 120 ([.int x] ++ [Value.pointer (some ⟨b, 0, none⟩)].map Tr.raw) [Chunk.box b 39 [.int c, .int t, .int f]] (fun r cs => r = .bool (valB t x) ∧ cs = [Chunk.box b 39 [.int c, .int t, .int f]]) := by
 refine Spec.body Tryz.func120 rfl rfl (Tryz.ntmps120) rfl fun w0 own0 M => ?_
 have k := out_fn x 0 (t - 1)
 repeat' (first | refine goH ?_ | refine goV ?_ | refine goI ?_ | (refine Cw.k_cond ?_; first | (refine Cw.cond_dec rfl ?_ ?_ <;> intro hc <;> try omega) | refine Cw.cond_bool rfl ?_ ?_ <;> intro hc) | (refine Ops.k_calla ?_; first | (refine Ops.k_callf 32 ?_; refine Ops.callV k (Evs.cons rfl (Evs.cons rfl (Evs.cons rfl Evs.nil))) rfl ?_)) | fail)
 exact Fin.ret (Ent.take goTk) (Outs.one rfl rfl) ⟨rfl, rfl⟩
theorem checkReading_fn (c t f : Int) (r : Rdg) (ht : -1000000000000 ≤ t ∧ t ≤ 1000000000000) (hl : r.vs.length ≤ 1000000) : PFn Tryz.prog 87 [.mtr c t f, .rdg r] (· = .int (rdgE c t f r)) := by
 have k1 := checkMeter_fn c t f
 have k2 := momentD_fn r.t
 have hL := intRows_len r.vs
 have k3 : ∀ b : Nat, Spec Tryz.prog 30 [.ints r.vs, Tr.raw (.func (.func 120) #[] [Value.pointer (some ⟨b, 0, none⟩)].toArray)] [Chunk.box b 39 [.int c, .int t, .int f]] (fun x cs => x = .bool (r.vs.any (valB t)) ∧ cs = [Chunk.box b 39 [.int c, .int t, .int f]]) := fun b => containsFunc_int (p := valB t) (caps := [.pointer (some ⟨b, 0, none⟩)]) (cin := [Chunk.box b 39 [.int c, .int t, .int f]]) (l := r.vs) (by omega) (fun x _ => valD_fn c t f b x ht)
 unfold rdgE
 refine PFn.mk (Spec.body Tryz.func87 rfl rfl (Tryz.ntmps87) rfl fun w0 own0 M => ?_)
 by_cases h1 : mtrE c t f ≠ 0
 ·rw [if_pos h1]
  have e : mtrE c t f = 1 := by have := mtrE_01 c t f; omega
  rw [e] at k1
  repeat' (first | refine goH ?_ | refine goV ?_ | refine goB (fun b => ?_) | refine goI ?_ | (refine Cw.k_cond ?_; first | (refine Cw.cond_dec rfl ?_ ?_ <;> intro hc <;> try omega) | refine Cw.cond_bool rfl ?_ ?_ <;> intro hc) | (refine Ops.k_calla ?_; first | (refine Ops.k_callf 86 ?_; refine Ops.callV k1 (Evs.cons rfl Evs.nil) rfl ?_)) | fail)
  exact Fin.ret (Ent.take goTk) (Outs.one rfl rfl) ⟨rfl, rfl⟩
 rw [if_neg h1]
 have e : mtrE c t f = 0 := by omega
 rw [e] at k1
 clear e h1
 by_cases h2 : ¬ (0 ≤ r.t ∧ r.t < 5761440)
 ·rw [if_pos h2]
  rw [decide_eq_false h2] at k2
  repeat' (first | refine goH ?_ | refine goV ?_ | refine goB (fun b => ?_) | refine goI ?_ | (refine Cw.k_cond ?_; first | (refine Cw.cond_dec rfl ?_ ?_ <;> intro hc <;> try omega) | refine Cw.cond_bool rfl ?_ ?_ <;> intro hc) | (refine Ops.k_calla ?_; first | (refine Ops.k_callf 86 ?_; refine Ops.callV k1 (Evs.cons rfl Evs.nil) rfl ?_) | (refine Ops.k_callf 119 ?_; refine Ops.callV k2 (Evs.cons rfl Evs.nil) rfl ?_)) | fail)
  exact Fin.ret (Ent.take goTk) (Outs.one rfl rfl) ⟨rfl, rfl⟩
 rw [if_neg h2]
 rw [decide_eq_true (by omega)] at k2
 clear h2
 by_cases h3 : (r.vs.length : Int) ≠ c
 ·rw [if_pos h3]
  repeat' (first | refine goH ?_ | refine goV ?_ | refine goB (fun b => ?_) | refine goI ?_ | (refine Cw.k_cond ?_; first | (refine Cw.cond_dec rfl ?_ ?_ <;> intro hc <;> try omega) | refine Cw.cond_bool rfl ?_ ?_ <;> intro hc) | (refine Ops.k_calla ?_; first | (refine Ops.k_callf 86 ?_; refine Ops.callV k1 (Evs.cons rfl Evs.nil) rfl ?_) | (refine Ops.k_callf 119 ?_; refine Ops.callV k2 (Evs.cons rfl Evs.nil) rfl ?_)) | fail)
  exact Fin.ret (Ent.take goTk) (Outs.one rfl rfl) ⟨rfl, rfl⟩
 rw [if_neg h3]
 cases h4 : r.vs.any (valB t)
 all_goals
  rw [h4] at k3
  repeat' (first | refine goH ?_ | refine goV ?_ | refine goB (fun b => ?_) | refine goI ?_ | (refine Cw.k_cond ?_; first | (refine Cw.cond_dec rfl ?_ ?_ <;> intro hc <;> try omega) | refine Cw.cond_bool rfl ?_ ?_ <;> intro hc) | (refine Ops.k_calla ?_; first | (refine Ops.k_callf 86 ?_; refine Ops.callV k1 (Evs.cons rfl Evs.nil) rfl ?_) | (refine Ops.k_callf 119 ?_; refine Ops.callV k2 (Evs.cons rfl Evs.nil) rfl ?_) | (refine Ops.k_callf 30 ?_; (refine Ops.call (k3 _) (Evs.cons rfl (Evs.cons rfl Evs.nil)) goPm rfl ?_; rintro x cs' ⟨rfl, rfl⟩))) | fail)
  exact Fin.ret (Ent.take goTk) (Outs.one rfl rfl) ⟨rfl, rfl⟩
end Lg
end
section
set_option linter.all false
set_option maxRecDepth 100000
set_option maxHeartbeats 4000000
namespace Lg
open Go Go.Proofs

/-- the length in bits of a small number: some number -/
theorem len64_fn (n : Int) (hn : 0 ≤ n ∧ n ≤ 200) : PFn Tryz.prog 101 [Tr.raw (.int .u64 n)] (fun r => ∃ v : Int, r = .int v) := by
 refine PFn.mk (Spec.body Tryz.func101 rfl rfl (Tryz.ntmps101) rfl fun w0 own0 M => ?_)
 repeat' (first | refine goH ?_ | (refine Ops.k_convert ?_; first | (refine Ops.convN Tryz.underlying195 Tryz.underlying5 rfl (wrap_u8 (by omega)) rfl ?_) | (refine Ops.convN Tryz.underlying5 Tryz.underlying3 rfl (wrap_i64 (by omega)) rfl ?_)) | (refine Ops.k_index ?_; first | (refine Ops.indexS_any Tryz.underlying9 rfl rfl (by refine ⟨by omega, ?_⟩; show n < 256; omega) rfl (fun v hv => ?_))) | refine goV ?_ | refine goI ?_ | (refine Cw.k_cond ?_; first | (refine Cw.cond_dec rfl ?_ ?_ <;> intro hc <;> try omega) | refine Cw.cond_bool rfl ?_ ?_ <;> intro hc) | fail)
 exact Fin.ret (Ent.take goTk) (Outs.one rfl rfl) ⟨rfl, _, rfl⟩
theorem bitsLen_fn (n : Int) (hn : 0 ≤ n ∧ n ≤ 200) : PFn Tryz.prog 62 [Tr.raw (.int .u64 n)] (fun r => ∃ v : Int, r = .int v) := by
 have h := len64_fn n hn
 unfold PFn at h
 refine PFn.mk (Spec.body Tryz.func62 rfl rfl (Tryz.ntmps62) rfl fun w0 own0 M => ?_)
 repeat' (first | refine goH ?_ | refine goV ?_ | refine goI ?_ | (refine Cw.k_cond ?_; first | (refine Cw.cond_dec rfl ?_ ?_ <;> intro hc <;> try omega) | refine Cw.cond_bool rfl ?_ ?_ <;> intro hc) | (refine Ops.k_calla ?_; first | (refine Ops.call (cf := []) h (Evs.cons rfl Evs.nil) (by simp) rfl ?_; rintro r cs' ⟨rfl, v, rfl⟩)) | fail)
 exact Fin.ret (Ent.take goTk) (Outs.one rfl rfl) ⟨rfl, _, rfl⟩
end Lg
end
section
set_option linter.all false
set_option maxRecDepth 100000
set_option maxHeartbeats 8000000
namespace Lg
open Go Go.Proofs

/-- insertion sort, of a slice of one's own, by a function that only reads -/
theorem insSort_rdg {n : Nat} {xs : List Rdg} {ad : Option Addr} {cap : Nat} {g : Nat} {caps : List Value} {cin : List Chunk} {lt : Rdg → Rdg → Bool} {cf : Rdg → Rdg → Int} (hlt : ∀ a b, lt a b = decide (cf a b < 0)) (hl : xs.length ≤ 1000000) (hn : n = xs.length)
  (hs : ∀ a b, a ∈ xs → b ∈ xs → Spec Tryz.prog g ([Tr.rdg a, Tr.rdg b] ++ caps.map Tr.raw) cin (fun r cs => r = Tr.int (cf a b) ∧ cs = cin)) :
  Spec Tryz.prog 151 [Tr.raw (.slice ad n cap), .int 0, .int n, Tr.raw (.func (.func g) #[] caps.toArray)] (Chunk.own ad cap 2 49 (xs.map Rdg.row) :: cin) (fun r cs => r = Tr.tup [] ∧ cs = Chunk.own ad cap 2 49 ((isort lt xs).map Rdg.row) :: cin) := by
 refine Spec.body Tryz.func151 rfl rfl (Tryz.ntmps151) rfl fun w0 own0 M => ?_
 repeat' (first | refine goH ?_ | refine goV ?_ | refine goG ?_ | (refine Ops.k_guard ?_; first | (refine Ops.guard_dec rfl rfl ?_ ?_ <;> intro hc <;> try omega) | refine Ops.guard_split rfl rfl ?_ ?_ <;> intro hc) | refine goI ?_ | (refine Cw.k_cond ?_; first | (refine Cw.cond_dec rfl ?_ ?_ <;> intro hc <;> try omega) | refine Cw.cond_bool rfl ?_ ?_ <;> intro hc) | refine goR ?_ | refine goP ?_ | apply PSeq.cons | apply PSeq.yes rfl rfl rfl | exact goW | fail)
 refine Cw.loopI [(0, _), (1, _), (2, _), (3, _)] cin (fun q e c => ∃ (i : Nat) (rows : List (List Tr)), q = n - i ∧ (1 ≤ i ∧ i ≤ max 1 n ∧ rows = (isort lt (xs.take i) ++ xs.drop i).map Rdg.row ∧ rows.length = n) ∧ e = [(8, .int i)] ∧ c = [Chunk.own ad cap 2 49 rows])
  ⟨_, _, _, (Ent.mkP goSub goPm), 1, xs.map Rdg.row, rfl, ⟨by omega, by omega, by rw [isort_take1, List.take_append_drop], by rw [List.length_map, hn]⟩, rfl, rfl⟩ ?_
 rintro _ _ _ ⟨i, rows, rfl, ⟨hi1, hi2, hrows, hrl⟩, rfl, rfl⟩
 by_cases hil : i < n
 ·obtain ⟨x, hx⟩ : ∃ x, xs[i]? = some x := at_lt (by omega)
  obtain ⟨S, hS⟩ : ∃ S, S = isort lt (xs.take i) := ⟨_, rfl⟩
  have hSl : S.length = i := by rw [hS, isort_len, List.length_take]; omega
  have hSm : ∀ y ∈ S, y ∈ xs := fun y hy => List.mem_of_mem_take ((isort_perm lt (xs.take i)).mem_iff.1 (by rw [← hS]; exact hy))
  have hxm : x ∈ xs := List.mem_of_getElem? hx
  have hnext : isort lt (xs.take (i + 1)) = insB lt x S := by rw [take_at hx, isort_snoc, ← hS]
  rw [← hS, drop_at hx] at hrows
  repeat' (first | refine goH ?_ | refine goV ?_ | refine goG ?_ | (refine Ops.k_guard ?_; first | (refine Ops.guard_dec rfl rfl ?_ ?_ <;> intro hc <;> try omega) | refine Ops.guard_split rfl rfl ?_ ?_ <;> intro hc) | refine goI ?_ | (refine Cw.k_cond ?_; first | (refine Cw.cond_dec rfl ?_ ?_ <;> intro hc <;> try omega) | refine Cw.cond_bool rfl ?_ ?_ <;> intro hc) | refine goR ?_ | refine goP ?_ | apply PSeq.cons | apply PSeq.yes rfl rfl rfl | exact goW | fail)
  refine Cw.loopI [(0, _), (1, _), (2, _), (3, _), (8, _)] cin (fun q e c => ∃ (f m : List Rdg) (rows : List (List Tr)) (j : Nat), q = f.length ∧ (f.length = j ∧ S = f ++ m ∧ insB lt x S = insB lt x f ++ m ∧ rows = (f ++ x :: (m ++ xs.drop (i + 1))).map Rdg.row ∧ rows.length = n) ∧ e = [(9, .int j)] ∧ c = [Chunk.own ad cap 2 49 rows])
   ⟨_, _, _, (Ent.mkP goSub goPm), S, [], rows, i, rfl, ⟨hSl, by simp, by simp, by rw [hrows]; simp, hrl⟩, rfl, rfl⟩ ?_
  clear hrows hrl
  rintro _ _ _ ⟨f, m, rows, j, rfl, ⟨hj, hfm, hins, hrows, hrl⟩, rfl, rfl⟩
  have hfl : j ≤ i := by rw [← hSl, hfm, List.length_append]; omega
  have hx0 : rows[((j : Nat) : Int).toNat]? = some [.int x.t, .ints x.vs] := by rw [hrows]; exact rows_at (by simp [← hj])
  have fin : ∀ rows' : List (List Tr), rows' = (f ++ x :: (m ++ xs.drop (i + 1))).map Rdg.row → insB lt x f = f ++ [x] → rows' = (isort lt (xs.take (i + 1)) ++ xs.drop (i + 1)).map Rdg.row := by
   intro rows' h1 h2
   rw [h1, hnext, hins, h2]
   simp
  rcases List.eq_nil_or_concat f with rfl | ⟨f', y, rfl⟩
  ·rw [List.length_nil] at hj
   subst hj
   have h0 := fin rows hrows (insB_nil lt x)
   repeat' (first | refine goH ?_ | refine goV ?_ | refine goG ?_ | (refine Ops.k_guard ?_; first | (refine Ops.guard_dec rfl rfl ?_ ?_ <;> intro hc <;> try omega) | refine Ops.guard_split rfl rfl ?_ ?_ <;> intro hc) | refine goI ?_ | (refine Cw.k_cond ?_; first | (refine Cw.cond_dec rfl ?_ ?_ <;> intro hc <;> try omega) | refine Cw.cond_bool rfl ?_ ?_ <;> intro hc) | refine goR ?_ | refine goP ?_ | apply PSeq.cons | apply PSeq.yes rfl rfl rfl | exact goW | fail)
   exact ⟨_, _, _, (Ent.mkP goSub goPm), ⟨i + 1, rows, rfl, ⟨by omega, by omega, h0, hrl⟩, rfl, rfl⟩, by omega⟩
  ·rw [List.concat_eq_append] at *
   have hym : y ∈ xs := hSm y (by rw [hfm]; simp)
   have hspec := hs x y hxm hym
   have hjl : (f' ++ [y]).length = f'.length + 1 := by simp
   rw [hjl] at hj
   subst hj
   have hy0 : rows[(((f'.length + 1 : Nat) : Int) - 1).toNat]? = some [.int y.t, .ints y.vs] := by
    rw [hrows, show (((f'.length + 1 : Nat) : Int) - 1).toNat = f'.length by omega]
    exact rows_at (by simp)
   cases hc0 : lt x y
   ·have hcf : ¬ cf x y < 0 := by rw [hlt] at hc0; simpa using hc0
    have h0 := fin rows hrows (insB_ge lt hc0)
    repeat' (first | refine goH ?_ | refine goV ?_ | refine goG ?_ | (refine Ops.k_guard ?_; first | (refine Ops.guard_dec rfl rfl ?_ ?_ <;> intro hc <;> try omega) | refine Ops.guard_split rfl rfl ?_ ?_ <;> intro hc) | refine goI ?_ | (refine Cw.k_cond ?_; first | (refine Cw.cond_dec rfl ?_ ?_ <;> intro hc <;> try omega) | refine Cw.cond_bool rfl ?_ ?_ <;> intro hc) | exact OpW.callS_fn rfl hspec (Evs.cons rfl (Evs.cons rfl Evs.nil)) List.perm_append_comm | refine goR ?_ | refine goP ?_ | apply PSeq.cons | apply PSeq.yes rfl rfl rfl | exact goW | fail)
    exact ⟨_, _, _, (Ent.mkP goSub goPm), ⟨i + 1, rows, rfl, ⟨by omega, by omega, h0, hrl⟩, rfl, rfl⟩, by omega⟩
   ·have hcf : cf x y < 0 := by rw [hlt] at hc0; simpa using hc0
    have hset : (rows.set ((f'.length + 1 : Nat) : Int).toNat [.int y.t, .ints y.vs])[(((f'.length + 1 : Nat) : Int) - 1).toNat]? = some [.int y.t, .ints y.vs] := by
     rw [List.getElem?_set_ne (by omega)]
     exact hy0
    have hlen2 : (rows.set ((f'.length + 1 : Nat) : Int).toNat [.int y.t, .ints y.vs]).length = n := by rw [List.length_set]; exact hrl
    have hres : (rows.set ((f'.length + 1 : Nat) : Int).toNat [.int y.t, .ints y.vs]).set (((f'.length + 1 : Nat) : Int) - 1).toNat [.int x.t, .ints x.vs] = (f' ++ x :: (y :: m ++ xs.drop (i + 1))).map Rdg.row := by
     rw [hrows, show (((f'.length + 1 : Nat) : Int) - 1).toNat = f'.length by omega, show ((f'.length + 1 : Nat) : Int).toNat = f'.length + 1 by omega]
     simp [List.set_append]
     all_goals (try exact ⟨rfl, rfl⟩)
    have hm : S = f' ++ (y :: m) := by rw [hfm]; simp
    have hins2 : insB lt x S = insB lt x f' ++ (y :: m) := by rw [hins, insB_lt lt hc0]; simp
    clear fin hnext hS hSl hSm hfm hins hrows
    repeat' (first | refine goH ?_ | refine goV ?_ | refine goG ?_ | (refine Ops.k_guard ?_; first | (refine Ops.guard_dec rfl rfl ?_ ?_ <;> intro hc <;> try omega) | refine Ops.guard_split rfl rfl ?_ ?_ <;> intro hc) | refine goI ?_ | (refine Cw.k_cond ?_; first | (refine Cw.cond_dec rfl ?_ ?_ <;> intro hc <;> try omega) | refine Cw.cond_bool rfl ?_ ?_ <;> intro hc) | exact OpW.callS_fn rfl hspec (Evs.cons rfl (Evs.cons rfl Evs.nil)) List.perm_append_comm | refine goR ?_ | refine goP ?_ | apply PSeq.cons | apply PSeq.yes rfl rfl rfl | exact goW | fail)
    refine Cw.region_seqF (m := 15) [2, 3, 4] rfl (by decide +kernel) rfl (fun a w d => ?_) ?_
    ·have h9 := rd_raw (d.env 9 _ rfl)
     have hs : a.tmps.size = 53 := d.tmps
     have h9' : a.tmps[9]'(by omega) = .int .i64 ((f'.length + 1 : Nat) : Int) := by simpa [hs] using h9
     exact FlRun.move rfl rfl rfl rfl (FlRun.move rfl rfl rfl rfl (FlRun.sub1 (p := ((f'.length + 1 : Nat) : Int)) rfl rfl rfl rfl (by simp [Act.put, Act.eval, hs, h9']) FlRun.nil))
    repeat' (first | refine goH ?_ | refine goV ?_ | refine goG ?_ | (refine Ops.k_guard ?_; first | (refine Ops.guard_dec rfl rfl ?_ ?_ <;> intro hc <;> try omega) | refine Ops.guard_split rfl rfl ?_ ?_ <;> intro hc) | refine goI ?_ | (refine Cw.k_cond ?_; first | (refine Cw.cond_dec rfl ?_ ?_ <;> intro hc <;> try omega) | refine Cw.cond_bool rfl ?_ ?_ <;> intro hc) | refine NoP.norm ?_ | refine goR ?_ | refine goP ?_ | apply PSeq.cons | apply PSeq.yes rfl rfl rfl | exact goW | fail)
    refine ⟨_, _, _, ?_, ⟨f', y :: m, _, f'.length, rfl, ⟨rfl, hm, hins2, hres, by rw [List.length_set]; exact hlen2⟩, rfl, rfl⟩, by simp⟩
    rw [show ((f'.length + 1 : Nat) : Int) - 1 = (f'.length : Int) by omega]
    exact (Ent.mkP goSub goPm)
 ·have hin : xs.take i = xs := List.take_of_length_le (by omega)
  rw [hin, List.drop_eq_nil_of_le (by omega), List.append_nil] at hrows
  subst hrows
  repeat' (first | refine goH ?_ | refine goV ?_ | refine goG ?_ | (refine Ops.k_guard ?_; first | (refine Ops.guard_dec rfl rfl ?_ ?_ <;> intro hc <;> try omega) | refine Ops.guard_split rfl rfl ?_ ?_ <;> intro hc) | refine goI ?_ | (refine Cw.k_cond ?_; first | (refine Cw.cond_dec rfl ?_ ?_ <;> intro hc <;> try omega) | refine Cw.cond_bool rfl ?_ ?_ <;> intro hc) | refine goR ?_ | refine goP ?_ | apply PSeq.cons | apply PSeq.yes rfl rfl rfl | exact goW | fail)
  exact Fin.norm (Ent.mkP goSub goPm) (Outs.zero rfl) ⟨rfl, rfl⟩

/-- slices.SortStableFunc on a short slice -/
theorem stable_rdg {n : Nat} {xs : List Rdg} {ad : Option Addr} {cap : Nat} {g : Nat} {caps : List Value} {cin : List Chunk} {lt : Rdg → Rdg → Bool} {cf : Rdg → Rdg → Int} (hlt : ∀ a b, lt a b = decide (cf a b < 0)) (hl : xs.length < 20) (hn : n = xs.length)
  (hs : ∀ a b, a ∈ xs → b ∈ xs → Spec Tryz.prog g ([Tr.rdg a, Tr.rdg b] ++ caps.map Tr.raw) cin (fun r cs => r = Tr.int (cf a b) ∧ cs = cin)) :
  Spec Tryz.prog 121 [Tr.raw (.slice ad n cap), .int n, Tr.raw (.func (.func g) #[] caps.toArray)] (Chunk.own ad cap 2 49 (xs.map Rdg.row) :: cin) (fun r cs => r = Tr.tup [] ∧ cs = Chunk.own ad cap 2 49 ((isort lt xs).map Rdg.row) :: cin) := by
 have hi := insSort_rdg (ad := ad) (cap := cap) hlt (show xs.length ≤ 1000000 by omega) hn hs
 refine Spec.body Tryz.func121 rfl rfl (Tryz.ntmps121) rfl fun w0 own0 M => ?_
 repeat' (first | refine goH ?_ | refine goV ?_ | refine goI ?_ | (refine Cw.k_cond ?_; first | (refine Cw.cond_dec rfl ?_ ?_ <;> intro hc <;> try omega) | refine Cw.cond_bool rfl ?_ ?_ <;> intro hc) | fail)
 refine Cw.loopI [(0, _), (1, _), (2, _), (6, _)] _ (fun q e c => q = 0 ∧ e = [(7, .int 0), (8, .int 20)] ∧ c = []) ⟨_, _, _, (Ent.mkP goSub goPm), rfl, rfl, rfl⟩ ?_
 rintro _ _ _ ⟨rfl, rfl, rfl⟩
 repeat' (first | refine goH ?_ | refine goV ?_ | refine goI ?_ | (refine Cw.k_cond ?_; first | (refine Cw.cond_dec rfl ?_ ?_ <;> intro hc <;> try omega) | refine Cw.cond_bool rfl ?_ ?_ <;> intro hc) | (refine Ops.k_calla ?_; first | (refine Ops.call (cf := []) hi (Evs.cons rfl (Evs.cons rfl (Evs.cons rfl (Evs.cons rfl Evs.nil)))) (by simp) rfl ?_; rintro r cs' ⟨rfl, rfl⟩)) | fail)
 refine Cw.loopI [(0, _), (1, _), (2, _)] _ (fun q e c => q = 0 ∧ e = [(6, .int 20)] ∧ c = []) ⟨_, _, _, (Ent.mkP goSub goPm), rfl, rfl, rfl⟩ ?_
 rintro _ _ _ ⟨rfl, rfl, rfl⟩
 repeat' (first | refine goH ?_ | refine goV ?_ | refine goI ?_ | (refine Cw.k_cond ?_; first | (refine Cw.cond_dec rfl ?_ ?_ <;> intro hc <;> try omega) | refine Cw.cond_bool rfl ?_ ?_ <;> intro hc) | fail)
 exact Fin.norm (Ent.mkP goSub (by simp)) (Outs.zero rfl) ⟨rfl, rfl⟩
theorem sortStable_rdg {n : Nat} {xs : List Rdg} {ad : Option Addr} {cap : Nat} {g : Nat} {caps : List Value} {cin : List Chunk} {lt : Rdg → Rdg → Bool} {cf : Rdg → Rdg → Int} (hlt : ∀ a b, lt a b = decide (cf a b < 0)) (hl : xs.length < 20) (hn : n = xs.length)
  (hs : ∀ a b, a ∈ xs → b ∈ xs → Spec Tryz.prog g ([Tr.rdg a, Tr.rdg b] ++ caps.map Tr.raw) cin (fun r cs => r = Tr.int (cf a b) ∧ cs = cin)) :
  Spec Tryz.prog 89 [Tr.raw (.slice ad n cap), Tr.raw (.func (.func g) #[] caps.toArray)] (Chunk.own ad cap 2 49 (xs.map Rdg.row) :: cin) (fun r cs => r = Tr.tup [] ∧ cs = Chunk.own ad cap 2 49 ((isort lt xs).map Rdg.row) :: cin) := by
 have hi := stable_rdg (ad := ad) (cap := cap) hlt hl hn hs
 refine Spec.body Tryz.func89 rfl rfl (Tryz.ntmps89) rfl fun w0 own0 M => ?_
 repeat' (first | refine goH ?_ | refine goV ?_ | refine goI ?_ | (refine Cw.k_cond ?_; first | (refine Cw.cond_dec rfl ?_ ?_ <;> intro hc <;> try omega) | refine Cw.cond_bool rfl ?_ ?_ <;> intro hc) | (refine Ops.k_calla ?_; first | (refine Ops.call (cf := []) hi (Evs.cons rfl (Evs.cons rfl (Evs.cons rfl Evs.nil))) (by simp) rfl ?_; rintro r cs' ⟨rfl, rfl⟩)) | fail)
 exact Fin.norm (Ent.mkP goSub (by simp)) (Outs.zero rfl) ⟨rfl, rfl⟩


/-- a copy of its own -/
theorem clone_rdg (rows : List (List Tr)) (hk : ∀ r ∈ rows, r.length = 2) (hl : rows.length ≤ 1000000) : PFnO Tryz.prog 88 [.sl 2 rows] 2 49 (· = rows) := by
 unfold PFnO
 refine Spec.body Tryz.func88 rfl rfl (Tryz.ntmps88) rfl fun w0 own0 M => ?_
 repeat' (first | refine goH ?_ | ((fail_if_success refine Ops.k_b_eql ?_); (fail_if_success refine Ops.k_buildSlice ?_); refine goV ?_) | ((fail_if_success refine Ops.k_b_eql ?_); (fail_if_success refine Ops.k_buildSlice ?_); refine goC (fun ad cap => ?_)) | refine goI ?_ | (refine Cw.k_cond ?_; first | (refine Cw.cond_dec rfl ?_ ?_ <;> intro hc <;> try omega) | refine Cw.cond_bool rfl ?_ ?_ <;> intro hc) | fail)
 refine Ops.eql_nilS rfl rfl (fun b hb => ?_)
 cases b
 ·repeat' (first | refine goH ?_ | ((fail_if_success refine Ops.k_buildSlice ?_); refine goV ?_) | ((fail_if_success refine Ops.k_buildSlice ?_); refine goC (fun ad cap => ?_)) | refine goI ?_ | (refine Cw.k_cond ?_; first | (refine Cw.cond_dec rfl ?_ ?_ <;> intro hc <;> try omega) | refine Cw.cond_bool rfl ?_ ?_ <;> intro hc) | fail)
  refine Ops.buildSlice_own (by exact Parts.nil) rfl rfl rfl (fun ad cap => ?_)
  repeat' (first | refine goH ?_ | refine goV ?_ | refine goC (fun ad cap => ?_) | refine goI ?_ | (refine Cw.k_cond ?_; first | (refine Cw.cond_dec rfl ?_ ?_ <;> intro hc <;> try omega) | refine Cw.cond_bool rfl ?_ ?_ <;> intro hc) | fail)
  exact Fin.ret (Ent.take goTk) (Outs.one rfl rfl) ⟨_, _, _, rfl, rfl, rfl⟩
 ·have hr := hb rfl
  subst hr
  repeat' (first | refine goH ?_ | refine goV ?_ | refine goC (fun ad cap => ?_) | refine goI ?_ | (refine Cw.k_cond ?_; first | (refine Cw.cond_dec rfl ?_ ?_ <;> intro hc <;> try omega) | refine Cw.cond_bool rfl ?_ ?_ <;> intro hc) | fail)
  exact Fin.ret (Ent.trans (Ent.nil 2 49) (Ent.take goTk)) (Outs.one rfl rfl) ⟨none, 0, [], rfl, rfl, rfl⟩


end Lg
end
