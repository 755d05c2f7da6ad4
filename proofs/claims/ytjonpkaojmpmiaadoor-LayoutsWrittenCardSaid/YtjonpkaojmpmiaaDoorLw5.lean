/- A part of the proof of a law of this seat: it adds no condition. By an AI agent. -/
import Derived.Test.YtjonpkaojmpmiaaDoorSplT
set_option linter.all false
set_option maxRecDepth 100000
set_option maxHeartbeats 8000000
namespace Lg
open Go Go.Proofs

/-! ### Parse -/
def oddP (s : ByteArray) : Bool := decide (s ≠ dotB) && !isKey s
def undot (s : ByteArray) : ByteArray := if s = dotB then eL else s
def badP (C : Nat) (w : ByteArray) : Bool := decide ((splS 32 w).length ≠ C) || (splS 32 w).any oddP
def lpF (R C : Nat) : List ByteArray → Nat → List ByteArray → List ByteArray × Int × Int
  | [], n, out => (out, 0, 0)
  | [s], n, out => if s = eL then (if n = R then (out, 0, 0) else ([], 0, 3)) else ([], n, 9)
  | w :: s :: l, n, out => if badP C w = true then ([], n, 9) else lpF R C (s :: l) (n + 1) (out ++ (splS 32 w).map undot)
theorem lpF_one (R C : Nat) (s : ByteArray) (n : Nat) (out : List ByteArray) : lpF R C [s] n out = if s = eL then (if n = R then (out, (0 : Int), (0 : Int)) else ([], (0 : Int), (3 : Int))) else ([], (n : Int), (9 : Int)) := rfl
theorem lpF_cons (R C : Nat) (w : ByteArray) {l : List ByteArray} (h : l ≠ []) (n : Nat) (out : List ByteArray) : lpF R C (w :: l) n out = if badP C w = true then ([], (n : Int), (9 : Int)) else lpF R C l (n + 1) (out ++ (splS 32 w).map undot) := by
  cases l with
  | nil => exact absurd rfl h
  | cons a l => rfl
theorem splS_ne (c : UInt8) (s : ByteArray) : splS c s ≠ [] := by
  unfold splS
  intro h
  exact splL_ne c _ (List.map_eq_nil_iff.1 h)
theorem splS_nil (c : UInt8) : splS c eL = [eL] := rfl
theorem eL_size {s : ByteArray} : s = eL ↔ s.size = 0 := (str_emptyB s).symm
def lpE (R C : Int) (s : ByteArray) : Int := if rackE R C ≠ 0 then rackE R C else if s.size > 200000 then 2 else 0
def lpT (p : List ByteArray × Int × Int) : Tr := .tup [.strs p.1, .int p.2.1, .int p.2.2]
theorem oddPP_fn (s : ByteArray) : PFn Tryd.prog 46 [.str s] (· = .bool (oddP s)) := by
  have k1 := key_fn s
  refine PFn.mk (Spec.body Tryd.func46 rfl rfl (Tryd.ntmps46) rfl fun w0 own0 M => ?_)
  unfold oddP
  by_cases h : s = dotB
  · subst h
    repeat' (first | refine goH ?_ | refine goV ?_ | refine goG ?_ | (refine Ops.k_guard ?_; first | (refine Ops.guard_dec rfl rfl (fun hc => ?_) (fun hc => ?_) <;> try (exfalso; omega)) | refine Ops.guard_split rfl rfl (fun hc => ?_) (fun hc => ?_)) | refine goI ?_ | (refine Cw.k_cond ?_; first | (refine Cw.cond_dec rfl (fun hc => ?_) (fun hc => ?_) <;> try (exfalso; omega)) | refine Cw.cond_bool rfl (fun hc => ?_) (fun hc => ?_)) | (refine Ops.k_calla ?_; first | (refine Ops.k_callf 47 ?_; refine Ops.callV k1 (Evs.cons rfl Evs.nil) rfl ?_)) | fail)
    all_goals first | (refine Fin.ret (Ent.take goTk) (Outs.one rfl rfl) ⟨rfl, ?_⟩; rfl) | (exfalso; simp_all; done)
  · generalize isKey s = b at *
    repeat' (first | refine goH ?_ | refine goV ?_ | refine goG ?_ | (refine Ops.k_guard ?_; first | (refine Ops.guard_dec rfl rfl (fun hc => ?_) (fun hc => ?_) <;> try (exfalso; omega)) | refine Ops.guard_split rfl rfl (fun hc => ?_) (fun hc => ?_)) | refine goI ?_ | (refine Cw.k_cond ?_; first | (refine Cw.cond_dec rfl (fun hc => ?_) (fun hc => ?_) <;> try (exfalso; omega)) | refine Cw.cond_bool rfl (fun hc => ?_) (fun hc => ?_)) | (refine Ops.k_calla ?_; first | (refine Ops.k_callf 47 ?_; refine Ops.callV k1 (Evs.cons rfl Evs.nil) rfl ?_)) | fail)
    all_goals first | (refine Fin.ret (Ent.take goTk) (Outs.one rfl rfl) ⟨rfl, congrArg Tr.bool ?_⟩; simp [h]; done) | (exfalso; simp_all; done)
theorem oddPR_fn (s : ByteArray) : PFn Tryd.prog 48 [.str s] (· = .bool (oddP s)) := by
  have k1 := keyOf_fn s
  refine PFn.mk (Spec.body Tryd.func48 rfl rfl (Tryd.ntmps48) rfl fun w0 own0 M => ?_)
  unfold oddP
  by_cases h : s = dotB
  · subst h
    repeat' (first | refine goH ?_ | refine goV ?_ | refine goG ?_ | (refine Ops.k_guard ?_; first | (refine Ops.guard_dec rfl rfl (fun hc => ?_) (fun hc => ?_) <;> try (exfalso; omega)) | refine Ops.guard_split rfl rfl (fun hc => ?_) (fun hc => ?_)) | refine goI ?_ | (refine Cw.k_cond ?_; first | (refine Cw.cond_dec rfl (fun hc => ?_) (fun hc => ?_) <;> try (exfalso; omega)) | refine Cw.cond_bool rfl (fun hc => ?_) (fun hc => ?_)) | (refine Ops.k_calla ?_; first | (refine Ops.k_callf 49 ?_; refine Ops.callV k1 (Evs.cons rfl Evs.nil) rfl ?_)) | fail)
    all_goals first | (refine Fin.ret (Ent.take goTk) (Outs.one rfl rfl) ⟨rfl, ?_⟩; rfl) | (exfalso; simp_all; done)
  · generalize isKey s = b at *
    repeat' (first | refine goH ?_ | refine goV ?_ | refine goG ?_ | (refine Ops.k_guard ?_; first | (refine Ops.guard_dec rfl rfl (fun hc => ?_) (fun hc => ?_) <;> try (exfalso; omega)) | refine Ops.guard_split rfl rfl (fun hc => ?_) (fun hc => ?_)) | refine goI ?_ | (refine Cw.k_cond ?_; first | (refine Cw.cond_dec rfl (fun hc => ?_) (fun hc => ?_) <;> try (exfalso; omega)) | refine Cw.cond_bool rfl (fun hc => ?_) (fun hc => ?_)) | (refine Ops.k_calla ?_; first | (refine Ops.k_callf 49 ?_; refine Ops.callV k1 (Evs.cons rfl Evs.nil) rfl ?_)) | fail)
    all_goals first | (refine Fin.ret (Ent.take goTk) (Outs.one rfl rfl) ⟨rfl, congrArg Tr.bool ?_⟩; simp [h]; done) | (exfalso; simp_all; done)
theorem parse_bad (R C : Int) (s : ByteArray) (hs : s.size ≤ 1000000000) (h : lpE R C s ≠ 0) : PFn Tryd.prog 19 [.agg [.int R, .int C], .str s] (· = lpT ([], 0, lpE R C s)) := by
  have k1 := checkRack_fn R C
  unfold lpT
  unfold lpE at h ⊢
  by_cases h1 : rackE R C ≠ 0
  · rw [if_pos h1]
    clear h
    generalize rackE R C = E at *
    refine PFn.mk (Spec.body Tryd.func19 rfl rfl (Tryd.ntmps19) rfl fun w0 own0 M => ?_)
    repeat' (first | refine goH ?_ | refine goV ?_ | refine goB (fun b => ?_) | refine goC (fun ad cap => ?_) | refine goG ?_ | (refine Ops.k_guard ?_; first | (refine Ops.guard_dec rfl rfl (fun hc => ?_) (fun hc => ?_) <;> try (exfalso; omega)) | refine Ops.guard_split rfl rfl (fun hc => ?_) (fun hc => ?_)) | refine goI ?_ | (refine Cw.k_cond ?_; first | (refine Cw.cond_dec rfl (fun hc => ?_) (fun hc => ?_) <;> try (exfalso; omega)) | refine Cw.cond_bool rfl (fun hc => ?_) (fun hc => ?_)) | (refine Ops.k_calla ?_; first | (refine Ops.k_callf 37 ?_; refine Ops.callV k1 (Evs.cons rfl Evs.nil) rfl ?_)) | fail)
    refine Fin.ret (Ent.trans (Ent.nilsl 1 (s := 4) rfl) (Ent.take goTk)) (Outs.many rfl (OutL.cons goOe (OutL.cons goOe (OutL.cons goOe OutL.nil))) rfl) ⟨rfl, rfl⟩
  rw [if_neg h1] at h ⊢
  have h2 : s.size > 200000 := Classical.byContradiction fun h2 => h (by rw [if_neg h2])
  rw [if_pos h2]
  rw [show rackE R C = 0 by omega] at k1
  refine PFn.mk (Spec.body Tryd.func19 rfl rfl (Tryd.ntmps19) rfl fun w0 own0 M => ?_)
  repeat' (first | refine goH ?_ | refine goV ?_ | refine goB (fun b => ?_) | refine goC (fun ad cap => ?_) | refine goG ?_ | (refine Ops.k_guard ?_; first | (refine Ops.guard_dec rfl rfl (fun hc => ?_) (fun hc => ?_) <;> try (exfalso; omega)) | refine Ops.guard_split rfl rfl (fun hc => ?_) (fun hc => ?_)) | refine goI ?_ | (refine Cw.k_cond ?_; first | (refine Cw.cond_dec rfl (fun hc => ?_) (fun hc => ?_) <;> try (exfalso; omega)) | refine Cw.cond_bool rfl (fun hc => ?_) (fun hc => ?_)) | (refine Ops.k_calla ?_; first | (refine Ops.k_callf 37 ?_; refine Ops.callV k1 (Evs.cons rfl Evs.nil) rfl ?_)) | fail)
  refine Fin.ret (Ent.trans (Ent.nilsl 1 (s := 4) rfl) (Ent.take goTk)) (Outs.many rfl (OutL.cons goOe (OutL.cons goOe (OutL.cons goOe OutL.nil))) rfl) ⟨rfl, rfl⟩
theorem layoutFrom_bad (R C : Int) (s : ByteArray) (hs : s.size ≤ 1000000000) (h : lpE R C s ≠ 0) : PFn Tryd.prog 20 [.agg [.int R, .int C], .str s] (· = lpT ([], 0, lpE R C s)) := by
  have k1 := rackFault_fn R C
  unfold lpT
  unfold lpE at h ⊢
  by_cases h1 : rackE R C ≠ 0
  · rw [if_pos h1]
    clear h
    generalize rackE R C = E at *
    refine PFn.mk (Spec.body Tryd.func20 rfl rfl (Tryd.ntmps20) rfl fun w0 own0 M => ?_)
    repeat' (first | refine goH ?_ | refine goV ?_ | refine goB (fun b => ?_) | refine goC (fun ad cap => ?_) | refine goG ?_ | (refine Ops.k_guard ?_; first | (refine Ops.guard_dec rfl rfl (fun hc => ?_) (fun hc => ?_) <;> try (exfalso; omega)) | refine Ops.guard_split rfl rfl (fun hc => ?_) (fun hc => ?_)) | refine goI ?_ | (refine Cw.k_cond ?_; first | (refine Cw.cond_dec rfl (fun hc => ?_) (fun hc => ?_) <;> try (exfalso; omega)) | refine Cw.cond_bool rfl (fun hc => ?_) (fun hc => ?_)) | (refine Ops.k_calla ?_; first | (refine Ops.k_callf 42 ?_; refine Ops.callV k1 (Evs.cons rfl Evs.nil) rfl ?_)) | fail)
    refine Fin.ret (Ent.trans (Ent.nilsl 1 (s := 4) rfl) (Ent.take goTk)) (Outs.many rfl (OutL.cons goOe (OutL.cons goOe (OutL.cons goOe OutL.nil))) rfl) ⟨rfl, rfl⟩
  rw [if_neg h1] at h ⊢
  have h2 : s.size > 200000 := Classical.byContradiction fun h2 => h (by rw [if_neg h2])
  rw [if_pos h2]
  rw [show rackE R C = 0 by omega] at k1
  refine PFn.mk (Spec.body Tryd.func20 rfl rfl (Tryd.ntmps20) rfl fun w0 own0 M => ?_)
  repeat' (first | refine goH ?_ | refine goV ?_ | refine goB (fun b => ?_) | refine goC (fun ad cap => ?_) | refine goG ?_ | (refine Ops.k_guard ?_; first | (refine Ops.guard_dec rfl rfl (fun hc => ?_) (fun hc => ?_) <;> try (exfalso; omega)) | refine Ops.guard_split rfl rfl (fun hc => ?_) (fun hc => ?_)) | refine goI ?_ | (refine Cw.k_cond ?_; first | (refine Cw.cond_dec rfl (fun hc => ?_) (fun hc => ?_) <;> try (exfalso; omega)) | refine Cw.cond_bool rfl (fun hc => ?_) (fun hc => ?_)) | (refine Ops.k_calla ?_; first | (refine Ops.k_callf 42 ?_; refine Ops.callV k1 (Evs.cons rfl Evs.nil) rfl ?_)) | fail)
  refine Fin.ret (Ent.trans (Ent.nilsl 1 (s := 4) rfl) (Ent.take goTk)) (Outs.many rfl (OutL.cons goOe (OutL.cons goOe (OutL.cons goOe OutL.nil))) rfl) ⟨rfl, rfl⟩
theorem parse_ok (R C : Nat) (hR : R ≤ 10) (hC : C ≤ 10) (hE : rackE R C = 0) (s0 : ByteArray) (hs : s0.size ≤ 200000) : PFn Tryd.prog 19 [.agg [.int R, .int C], .str s0] (· = lpT (lpF R C (splS 10 s0) 0 [])) := by
  have k1 := checkRack_fn R C
  rw [hE] at k1
  generalize hP : lpF R C (splS 10 s0) 0 [] = P
  refine PFn.mk (Spec.body Tryd.func19 rfl rfl (Tryd.ntmps19) rfl fun w0 own0 M => ?_)
  repeat' (first | refine goH ?_ | refine goV ?_ | refine goB (fun b => ?_) | refine goC (fun ad cap => ?_) | refine goG ?_ | (refine Ops.k_guard ?_; first | (refine Ops.guard_dec rfl rfl (fun hc => ?_) (fun hc => ?_) <;> try (exfalso; omega)) | refine Ops.guard_split rfl rfl (fun hc => ?_) (fun hc => ?_)) | refine goI ?_ | (refine Cw.k_cond ?_; first | (refine Cw.cond_dec rfl (fun hc => ?_) (fun hc => ?_) <;> try (exfalso; omega)) | refine Cw.cond_bool rfl (fun hc => ?_) (fun hc => ?_)) | (refine Ops.k_calla ?_; first | (refine Ops.k_callf 37 ?_; refine Ops.callV k1 (Evs.cons rfl Evs.nil) rfl ?_)) | fail)
  all_goals try (exfalso; omega)
  refine Cw.loopI [(2, _)] _ (fun q e c => ∃ (n : Nat) (s : ByteArray) (out : List ByteArray) (ad : Option Addr) (cap : Nat) (rows : List (List Tr)), q = s.size ∧ (n + s.size ≤ s0.size ∧ lpF R C (splS 10 s) n out = P ∧ rows = strRows out ∧ rows.length ≤ 10 * n) ∧ e = [(1, .str s), (8, Tr.raw (.slice ad rows.length cap)), (9, .int n)] ∧ c = [Chunk.own ad cap 1 9 rows])
    ⟨_, _, _, Ent.trans (Ent.nil 1 9) (Ent.mkP goSub goPm), 0, s0, [], none, 0, [], rfl, ⟨by omega, hP, rfl, by simp⟩, rfl, rfl⟩ ?_
  clear hP k1
  rintro _ _ _ ⟨n, s, out, ad, cap, rows, rfl, ⟨hn, hP, hrows, hrl⟩, rfl, rfl⟩
  by_cases hse : s = eL
  · rw [hse, splS_nil, lpF_one, if_pos rfl] at hP
    by_cases hnR : n = R
    · rw [if_pos hnR] at hP
      repeat' (first | refine goH ?_ | refine goV ?_ | refine goB (fun b => ?_) | refine goC (fun ad cap => ?_) | refine goG ?_ | (refine Ops.k_guard ?_; first | (refine Ops.guard_dec rfl rfl (fun hc => ?_) (fun hc => ?_) <;> try (exfalso; omega)) | refine Ops.guard_split rfl rfl (fun hc => ?_) (fun hc => ?_)) | refine goI ?_ | (refine Cw.k_cond ?_; first | (refine Cw.cond_dec rfl (fun hc => ?_) (fun hc => ?_) <;> try (exfalso; omega)) | refine Cw.cond_bool rfl (fun hc => ?_) (fun hc => ?_)) | fail)
      all_goals first | (exfalso; omega) | (exfalso; contradiction) | (refine Fin.ret (Ent.trans (Ent.settle (s := 4) rfl goPk rfl) (Ent.take goTk)) (Outs.many rfl (OutL.cons goOe (OutL.cons goOe (OutL.cons goOe OutL.nil))) rfl) ⟨rfl, by rw [← hP, hrows]; rfl⟩)
    · rw [if_neg hnR] at hP
      repeat' (first | refine goH ?_ | refine goV ?_ | refine goB (fun b => ?_) | refine goC (fun ad cap => ?_) | refine goG ?_ | (refine Ops.k_guard ?_; first | (refine Ops.guard_dec rfl rfl (fun hc => ?_) (fun hc => ?_) <;> try (exfalso; omega)) | refine Ops.guard_split rfl rfl (fun hc => ?_) (fun hc => ?_)) | refine goI ?_ | (refine Cw.k_cond ?_; first | (refine Cw.cond_dec rfl (fun hc => ?_) (fun hc => ?_) <;> try (exfalso; omega)) | refine Cw.cond_bool rfl (fun hc => ?_) (fun hc => ?_)) | fail)
      all_goals first | (exfalso; omega) | (exfalso; contradiction) | (refine Fin.ret (Ent.trans (Ent.nilsl 1 (s := 4) rfl) (Ent.take goTk)) (Outs.many rfl (OutL.cons goOe (OutL.cons goOe (OutL.cons goOe OutL.nil))) rfl) ⟨rfl, by rw [← hP]; rfl⟩)
  have hs0 : s.size ≠ 0 := fun h => hse (eL_size.2 h)
  have kC := cut1_fn s (by omega) 10
  rcases idx_cases s.data.toList 10 with h | ⟨m, h⟩
  · rw [cutS_none h] at kC
    rw [splS_none h, lpF_one, if_neg hse] at hP
    have kS := split1_fn s (by omega) 32
    generalize splS 32 s = W at *
    repeat' (first | refine goH ?_ | refine goV ?_ | refine goB (fun b => ?_) | refine goC (fun ad cap => ?_) | refine goG ?_ | (refine Ops.k_guard ?_; first | (refine Ops.guard_dec rfl rfl (fun hc => ?_) (fun hc => ?_) <;> try (exfalso; omega)) | refine Ops.guard_split rfl rfl (fun hc => ?_) (fun hc => ?_)) | refine goI ?_ | (refine Cw.k_cond ?_; first | (refine Cw.cond_dec rfl (fun hc => ?_) (fun hc => ?_) <;> try (exfalso; omega)) | refine Cw.cond_bool rfl (fun hc => ?_) (fun hc => ?_)) | (refine Ops.k_calla ?_; first | (refine Ops.k_callf 44 ?_; refine Ops.callV kC (Evs.cons rfl (Evs.cons rfl Evs.nil)) rfl ?_) | (refine Ops.k_callf 45 ?_; refine Ops.callV kS (Evs.cons rfl (Evs.cons rfl Evs.nil)) rfl ?_)) | fail)
    all_goals first | (exfalso; contradiction) | (refine Fin.ret (Ent.trans (Ent.nilsl 1 (s := 4) rfl) (Ent.take goTk)) (Outs.many rfl (OutL.cons goOe (OutL.cons goOe (OutL.cons goOe OutL.nil))) rfl) ⟨rfl, by rw [← hP]; rfl⟩)
  · rw [cutS_some h] at kC
    obtain ⟨h1, hm⟩ := splS_some h
    rw [h1, lpF_cons R C _ (splS_ne _ _)] at hP
    have hw : (s.extract 0 m).size ≤ s.size := by rw [ByteArray.size_extract]; omega
    have hrest : (s.extract (m + 1) s.size).size = s.size - (m + 1) := by rw [ByteArray.size_extract]; omega
    clear h1 h
    generalize s.extract 0 m = w at *
    generalize s.extract (m + 1) s.size = s2 at *
    have kS := split1_fn w (by omega) 32
    have hSl := strRows_len (splS 32 w)
    have kB := containsFunc_str (cin := []) (caps := []) (g := 46) (p := oddP) (l := splS 32 w) (by have := splS_len 32 w; have := countByte_le w.data.toList 32; have := str_list w; omega) (fun x _ => (oddPP_fn x).lend)
    rw [show ((splS 32 w).map fun x => [Tr.str x]) = strRows (splS 32 w) from rfl] at kB
    by_cases hwC : (splS 32 w).length ≠ C
    · rw [if_pos (show badP C w = true by unfold badP; rw [decide_eq_true hwC]; rfl)] at hP
      generalize splS 32 w = W at *
      repeat' (first | refine goH ?_ | refine goV ?_ | refine goB (fun b => ?_) | refine goC (fun ad cap => ?_) | refine goG ?_ | (refine Ops.k_guard ?_; first | (refine Ops.guard_dec rfl rfl (fun hc => ?_) (fun hc => ?_) <;> try (exfalso; omega)) | refine Ops.guard_split rfl rfl (fun hc => ?_) (fun hc => ?_)) | refine goI ?_ | (refine Cw.k_cond ?_; first | (refine Cw.cond_dec rfl (fun hc => ?_) (fun hc => ?_) <;> try (exfalso; omega)) | refine Cw.cond_bool rfl (fun hc => ?_) (fun hc => ?_)) | (refine Ops.k_calla ?_; first | (refine Ops.k_callf 44 ?_; refine Ops.callV kC (Evs.cons rfl (Evs.cons rfl Evs.nil)) rfl ?_) | (refine Ops.k_callf 45 ?_; refine Ops.callV kS (Evs.cons rfl (Evs.cons rfl Evs.nil)) rfl ?_) | (refine Ops.k_callf 29 ?_; refine Ops.callS kB (Evs.cons rfl (Evs.cons rfl Evs.nil)) (List.Perm.refl _) rfl ?_)) | fail)
      all_goals first | (exfalso; omega) | (exfalso; contradiction) | (refine Fin.ret (Ent.trans (Ent.nilsl 1 (s := 4) rfl) (Ent.take goTk)) (Outs.many rfl (OutL.cons goOe (OutL.cons goOe (OutL.cons goOe OutL.nil))) rfl) ⟨rfl, by rw [← hP]; rfl⟩)
    cases hwo : (splS 32 w).any oddP with
    | true =>
      rw [if_pos (show badP C w = true by unfold badP; rw [hwo, Bool.or_true])] at hP
      rw [hwo] at kB
      generalize splS 32 w = W at *
      repeat' (first | refine goH ?_ | refine goV ?_ | refine goB (fun b => ?_) | refine goC (fun ad cap => ?_) | refine goG ?_ | (refine Ops.k_guard ?_; first | (refine Ops.guard_dec rfl rfl (fun hc => ?_) (fun hc => ?_) <;> try (exfalso; omega)) | refine Ops.guard_split rfl rfl (fun hc => ?_) (fun hc => ?_)) | refine goI ?_ | (refine Cw.k_cond ?_; first | (refine Cw.cond_dec rfl (fun hc => ?_) (fun hc => ?_) <;> try (exfalso; omega)) | refine Cw.cond_bool rfl (fun hc => ?_) (fun hc => ?_)) | (refine Ops.k_calla ?_; first | (refine Ops.k_callf 44 ?_; refine Ops.callV kC (Evs.cons rfl (Evs.cons rfl Evs.nil)) rfl ?_) | (refine Ops.k_callf 45 ?_; refine Ops.callV kS (Evs.cons rfl (Evs.cons rfl Evs.nil)) rfl ?_) | (refine Ops.k_callf 29 ?_; refine Ops.callS kB (Evs.cons rfl (Evs.cons rfl Evs.nil)) (List.Perm.refl _) rfl ?_)) | fail)
      all_goals first | (exfalso; omega) | (exfalso; contradiction) | (refine Fin.ret (Ent.trans (Ent.nilsl 1 (s := 4) rfl) (Ent.take goTk)) (Outs.many rfl (OutL.cons goOe (OutL.cons goOe (OutL.cons goOe OutL.nil))) rfl) ⟨rfl, by rw [← hP]; rfl⟩)
    | false =>
      rw [if_neg (show ¬ badP C w = true by unfold badP; rw [hwo, decide_eq_false hwC]; simp)] at hP
      rw [hwo] at kB
      repeat' (first | refine goH ?_ | refine goV ?_ | refine goB (fun b => ?_) | refine goC (fun ad cap => ?_) | refine goG ?_ | (refine Ops.k_guard ?_; first | (refine Ops.guard_dec rfl rfl (fun hc => ?_) (fun hc => ?_) <;> try (exfalso; omega)) | refine Ops.guard_split rfl rfl (fun hc => ?_) (fun hc => ?_)) | refine goI ?_ | (refine Cw.k_cond ?_; first | (refine Cw.cond_dec rfl (fun hc => ?_) (fun hc => ?_) <;> try (exfalso; omega)) | refine Cw.cond_bool rfl (fun hc => ?_) (fun hc => ?_)) | (refine Ops.k_calla ?_; first | (refine Ops.k_callf 44 ?_; refine Ops.callV kC (Evs.cons rfl (Evs.cons rfl Evs.nil)) rfl ?_) | (refine Ops.k_callf 45 ?_; refine Ops.callV kS (Evs.cons rfl (Evs.cons rfl Evs.nil)) rfl ?_) | (refine Ops.k_callf 29 ?_; refine Ops.callS kB (Evs.cons rfl (Evs.cons rfl Evs.nil)) (List.Perm.refl _) rfl ?_)) | fail)
      all_goals try first | (exfalso; omega) | (exfalso; contradiction)
      clear kC kS kB
      have hwC2 : (splS 32 w).length = C := Classical.byContradiction hwC
      clear hwC hwo
      generalize splS 32 w = W at *
      refine Cw.loopI [(2, _), (9, _), (11, _), (50, _), (51, _)] _ (fun q e c => ∃ (j : Nat) (ad : Option Addr) (cap : Nat) (rows2 : List (List Tr)), q = W.length - j ∧ (j ≤ W.length ∧ rows2 = strRows (out ++ (W.take j).map undot) ∧ rows2.length ≤ 10 * n + j) ∧ e = [(8, Tr.raw (.slice ad rows2.length cap)), (52, .int j)] ∧ c = [Chunk.own ad cap 1 9 rows2])
        ⟨_, _, _, (Ent.mkP goSub goPm), 0, ad, cap, rows, rfl, ⟨by omega, by rw [hrows]; simp, by omega⟩, rfl, rfl⟩ ?_
      rintro _ _ _ ⟨j, ad, cap, rows2, rfl, ⟨hj, hrows2, hrl2⟩, rfl, rfl⟩
      by_cases hjl : j < W.length
      · obtain ⟨u, hu⟩ := at_lt hjl
        have hrowu := strRows_at hu
        have hst := take_at hu
        have key : rows2 ++ [[Tr.str (undot u)]] = strRows (out ++ (W.take (j + 1)).map undot) := by rw [hst, List.map_append, ← List.append_assoc, strRows_app, ← hrows2]; rfl
        by_cases hud : u = dotB
        · rw [show undot u = eL by unfold undot; rw [if_pos hud]] at key
          repeat' (first | refine goH ?_ | refine goV ?_ | refine goB (fun b => ?_) | refine goC (fun ad cap => ?_) | refine goG ?_ | (refine Ops.k_guard ?_; first | (refine Ops.guard_dec rfl rfl (fun hc => ?_) (fun hc => ?_) <;> try (exfalso; omega)) | refine Ops.guard_split rfl rfl (fun hc => ?_) (fun hc => ?_)) | refine goI ?_ | (refine Cw.k_cond ?_; first | (refine Cw.cond_dec rfl (fun hc => ?_) (fun hc => ?_) <;> try (exfalso; omega)) | refine Cw.cond_bool rfl (fun hc => ?_) (fun hc => ?_)) | fail)
          all_goals first | (exfalso; contradiction) | (rw [key]; exact ⟨_, _, _, (Ent.mk goSub goTk), ⟨j + 1, _, _, _, rfl, ⟨by omega, rfl, by rw [← key, List.length_append]; simp; omega⟩, rfl, rfl⟩, by omega⟩)
        · rw [show undot u = u by unfold undot; rw [if_neg hud]] at key
          repeat' (first | refine goH ?_ | refine goV ?_ | refine goB (fun b => ?_) | refine goC (fun ad cap => ?_) | refine goG ?_ | (refine Ops.k_guard ?_; first | (refine Ops.guard_dec rfl rfl (fun hc => ?_) (fun hc => ?_) <;> try (exfalso; omega)) | refine Ops.guard_split rfl rfl (fun hc => ?_) (fun hc => ?_)) | refine goI ?_ | (refine Cw.k_cond ?_; first | (refine Cw.cond_dec rfl (fun hc => ?_) (fun hc => ?_) <;> try (exfalso; omega)) | refine Cw.cond_bool rfl (fun hc => ?_) (fun hc => ?_)) | fail)
          all_goals first | (exfalso; contradiction) | (rw [key]; exact ⟨_, _, _, (Ent.mk goSub goTk), ⟨j + 1, _, _, _, rfl, ⟨by omega, rfl, by rw [← key, List.length_append]; simp; omega⟩, rfl, rfl⟩, by omega⟩)
      · rw [List.take_of_length_le (by omega)] at hrows2
        repeat' (first | refine goH ?_ | refine goV ?_ | refine goB (fun b => ?_) | refine goC (fun ad cap => ?_) | refine goG ?_ | (refine Ops.k_guard ?_; first | (refine Ops.guard_dec rfl rfl (fun hc => ?_) (fun hc => ?_) <;> try (exfalso; omega)) | refine Ops.guard_split rfl rfl (fun hc => ?_) (fun hc => ?_)) | refine goI ?_ | (refine Cw.k_cond ?_; first | (refine Cw.cond_dec rfl (fun hc => ?_) (fun hc => ?_) <;> try (exfalso; omega)) | refine Cw.cond_bool rfl (fun hc => ?_) (fun hc => ?_)) | fail)
        exact ⟨_, _, _, (Ent.mk goSub goTk), ⟨n + 1, s2, _, _, _, rows2, rfl, ⟨by omega, hP, hrows2, by omega⟩, rfl, rfl⟩, by omega⟩

theorem layoutFrom_ok (R C : Nat) (hR : R ≤ 10) (hC : C ≤ 10) (hE : rackE R C = 0) (s0 : ByteArray) (hs : s0.size ≤ 200000) : PFn Tryd.prog 20 [.agg [.int R, .int C], .str s0] (· = lpT (lpF R C (splS 10 s0) 0 [])) := by
  have k1 := rackFault_fn R C
  rw [hE] at k1
  have kL := split1_fn s0 (by omega) 10
  have hcb := splS_len 10 s0
  have hcb2 := countByte_le s0.data.toList 10
  have hcb3 := str_list s0
  have hsz : ∀ w ∈ splS 10 s0, w.size ≤ 200000 := fun w hw => Nat.le_trans (splS_size hw) hs
  have hne := splS_ne 10 s0
  generalize splS 10 s0 = L at *
  have hLL := strRows_len L
  have hpos : 0 < L.length := List.length_pos_iff.2 hne
  generalize hP : lpF R C L 0 [] = P
  refine PFn.mk (Spec.body Tryd.func20 rfl rfl (Tryd.ntmps20) rfl fun w0 own0 M => ?_)
  repeat' (first | refine goH ?_ | refine goV ?_ | refine goB (fun b => ?_) | refine goC (fun ad cap => ?_) | refine goG ?_ | (refine Ops.k_guard ?_; first | (refine Ops.guard_dec rfl rfl (fun hc => ?_) (fun hc => ?_) <;> try (exfalso; omega)) | refine Ops.guard_split rfl rfl (fun hc => ?_) (fun hc => ?_)) | refine goI ?_ | (refine Cw.k_cond ?_; first | (refine Cw.cond_dec rfl (fun hc => ?_) (fun hc => ?_) <;> try (exfalso; omega)) | refine Cw.cond_bool rfl (fun hc => ?_) (fun hc => ?_)) | (refine Ops.k_calla ?_; first | (refine Ops.k_callf 42 ?_; refine Ops.callV k1 (Evs.cons rfl Evs.nil) rfl ?_) | (refine Ops.k_callf 45 ?_; refine Ops.callV kL (Evs.cons rfl (Evs.cons rfl Evs.nil)) rfl ?_)) | fail)
  all_goals try (exfalso; omega)
  clear k1 kL
  have hTl : ((strRows L).take ((((strRows L).length : Nat) : Int) - 1).toNat).length = L.length - 1 := by rw [List.length_take, hLL]; omega
  have hTa : ∀ k : Nat, k + 1 < L.length → ∀ w, L[k]? = some w → ((strRows L).take ((((strRows L).length : Nat) : Int) - 1).toNat)[((k : Nat) : Int).toNat]? = some [Tr.str w] := fun k hk w hw => by
    rw [Int.toNat_natCast, List.getElem?_take_of_lt (by omega)]
    exact strRows_at hw
  generalize hZ : (strRows L).take ((((strRows L).length : Nat) : Int) - 1).toNat = Z at *
  refine Cw.loopI [(2, _), (8, _), (29, _), (30, _)] _ (fun q e c => ∃ (n : Nat) (out : List ByteArray) (ad : Option Addr) (cap : Nat) (rows : List (List Tr)), q = L.length - n ∧ (n + 1 ≤ L.length ∧ lpF R C (L.drop n) n out = P ∧ rows = strRows out ∧ rows.length ≤ 10 * n) ∧ e = [(9, Tr.raw (.slice ad rows.length cap)), (31, .int n)] ∧ c = [Chunk.own ad cap 1 9 rows])
    ⟨_, _, _, Ent.trans (Ent.nil 1 9) (Ent.mkP goSub goPm), 0, [], none, 0, [], rfl, ⟨by omega, hP, rfl, by simp⟩, rfl, rfl⟩ ?_
  clear hP
  rintro _ _ _ ⟨n, out, ad, cap, rows, rfl, ⟨hn, hP, hrows, hrl⟩, rfl, rfl⟩
  obtain ⟨w, hw⟩ := at_lt (l := L) (k := n) (by omega)
  rw [drop_at hw] at hP
  by_cases hnl : n + 1 < L.length
  rotate_left
  · rw [List.drop_of_length_le (by omega), lpF_one] at hP
    have hrowl : (strRows L)[((((strRows L).length : Nat) : Int) - 1).toNat]? = some [Tr.str w] := by
      rw [show ((((strRows L).length : Nat) : Int) - 1).toNat = n by omega]
      exact strRows_at hw
    by_cases hwe : w = eL
    · rw [if_pos hwe] at hP
      by_cases hnR : n = R
      · rw [if_pos hnR] at hP
        repeat' (first | refine goH ?_ | refine goV ?_ | refine goB (fun b => ?_) | refine goC (fun ad cap => ?_) | refine goG ?_ | (refine Ops.k_guard ?_; first | (refine Ops.guard_dec rfl rfl (fun hc => ?_) (fun hc => ?_) <;> try (exfalso; omega)) | refine Ops.guard_split rfl rfl (fun hc => ?_) (fun hc => ?_)) | refine goI ?_ | (refine Cw.k_cond ?_; first | (refine Cw.cond_dec rfl (fun hc => ?_) (fun hc => ?_) <;> try (exfalso; omega)) | refine Cw.cond_bool rfl (fun hc => ?_) (fun hc => ?_)) | fail)
        all_goals first | (exfalso; omega) | (exfalso; contradiction) | (refine Fin.ret (Ent.trans (Ent.settle (s := 4) rfl goPk rfl) (Ent.take goTk)) (Outs.many rfl (OutL.cons goOe (OutL.cons goOe (OutL.cons goOe OutL.nil))) rfl) ⟨rfl, by rw [← hP, hrows]; rfl⟩)
      · rw [if_neg hnR] at hP
        repeat' (first | refine goH ?_ | refine goV ?_ | refine goB (fun b => ?_) | refine goC (fun ad cap => ?_) | refine goG ?_ | (refine Ops.k_guard ?_; first | (refine Ops.guard_dec rfl rfl (fun hc => ?_) (fun hc => ?_) <;> try (exfalso; omega)) | refine Ops.guard_split rfl rfl (fun hc => ?_) (fun hc => ?_)) | refine goI ?_ | (refine Cw.k_cond ?_; first | (refine Cw.cond_dec rfl (fun hc => ?_) (fun hc => ?_) <;> try (exfalso; omega)) | refine Cw.cond_bool rfl (fun hc => ?_) (fun hc => ?_)) | fail)
        all_goals first | (exfalso; omega) | (exfalso; contradiction) | (refine Fin.ret (Ent.trans (Ent.nilsl 1 (s := 4) rfl) (Ent.take goTk)) (Outs.many rfl (OutL.cons goOe (OutL.cons goOe (OutL.cons goOe OutL.nil))) rfl) ⟨rfl, by rw [← hP]; rfl⟩)
    · rw [if_neg hwe] at hP
      have hln : (((strRows L).length : Nat) : Int) - 1 = (n : Int) := by omega
      repeat' (first | refine goH ?_ | refine goV ?_ | refine goB (fun b => ?_) | refine goC (fun ad cap => ?_) | refine goG ?_ | (refine Ops.k_guard ?_; first | (refine Ops.guard_dec rfl rfl (fun hc => ?_) (fun hc => ?_) <;> try (exfalso; omega)) | refine Ops.guard_split rfl rfl (fun hc => ?_) (fun hc => ?_)) | refine goI ?_ | (refine Cw.k_cond ?_; first | (refine Cw.cond_dec rfl (fun hc => ?_) (fun hc => ?_) <;> try (exfalso; omega)) | refine Cw.cond_bool rfl (fun hc => ?_) (fun hc => ?_)) | fail)
      all_goals first | (exfalso; omega) | (exfalso; contradiction) | (refine Fin.ret (Ent.trans (Ent.nilsl 1 (s := 4) rfl) (Ent.take goTk)) (Outs.many rfl (OutL.cons goOe (OutL.cons goOe (OutL.cons goOe OutL.nil))) rfl) ⟨rfl, by rw [← hP, hln]; rfl⟩)
  rw [lpF_cons R C _ (by intro h; have := congrArg List.length h; rw [List.length_drop, List.length_nil] at this; omega)] at hP
  have hrowz := hTa n hnl w hw
  have hwz := hsz w (List.mem_of_getElem? hw)
  have kS := split1_fn w (by omega) 32
  have hSl := strRows_len (splS 32 w)
  have kB := containsFunc_str (cin := []) (caps := []) (g := 48) (p := oddP) (l := splS 32 w) (by have := splS_len 32 w; have := countByte_le w.data.toList 32; have := str_list w; omega) (fun x _ => (oddPR_fn x).lend)
  rw [show ((splS 32 w).map fun x => [Tr.str x]) = strRows (splS 32 w) from rfl] at kB
  clear hTa hsz
  by_cases hwC : (splS 32 w).length ≠ C
  · rw [if_pos (show badP C w = true by unfold badP; rw [decide_eq_true hwC]; rfl)] at hP
    generalize splS 32 w = W at *
    repeat' (first | refine goH ?_ | refine goV ?_ | refine goB (fun b => ?_) | refine goC (fun ad cap => ?_) | refine goG ?_ | (refine Ops.k_guard ?_; first | (refine Ops.guard_dec rfl rfl (fun hc => ?_) (fun hc => ?_) <;> try (exfalso; omega)) | refine Ops.guard_split rfl rfl (fun hc => ?_) (fun hc => ?_)) | refine goI ?_ | (refine Cw.k_cond ?_; first | (refine Cw.cond_dec rfl (fun hc => ?_) (fun hc => ?_) <;> try (exfalso; omega)) | refine Cw.cond_bool rfl (fun hc => ?_) (fun hc => ?_)) | (refine Ops.k_calla ?_; first | (refine Ops.k_callf 45 ?_; refine Ops.callV kS (Evs.cons rfl (Evs.cons rfl Evs.nil)) rfl ?_) | (refine Ops.k_callf 29 ?_; refine Ops.callS kB (Evs.cons rfl (Evs.cons rfl Evs.nil)) (List.Perm.refl _) rfl ?_)) | fail)
    all_goals first | (exfalso; omega) | (exfalso; contradiction) | (refine Fin.ret (Ent.trans (Ent.nilsl 1 (s := 4) rfl) (Ent.take goTk)) (Outs.many rfl (OutL.cons goOe (OutL.cons goOe (OutL.cons goOe OutL.nil))) rfl) ⟨rfl, by rw [← hP]; rfl⟩)
  cases hwo : (splS 32 w).any oddP with
  | true =>
    rw [if_pos (show badP C w = true by unfold badP; rw [hwo, Bool.or_true])] at hP
    rw [hwo] at kB
    generalize splS 32 w = W at *
    repeat' (first | refine goH ?_ | refine goV ?_ | refine goB (fun b => ?_) | refine goC (fun ad cap => ?_) | refine goG ?_ | (refine Ops.k_guard ?_; first | (refine Ops.guard_dec rfl rfl (fun hc => ?_) (fun hc => ?_) <;> try (exfalso; omega)) | refine Ops.guard_split rfl rfl (fun hc => ?_) (fun hc => ?_)) | refine goI ?_ | (refine Cw.k_cond ?_; first | (refine Cw.cond_dec rfl (fun hc => ?_) (fun hc => ?_) <;> try (exfalso; omega)) | refine Cw.cond_bool rfl (fun hc => ?_) (fun hc => ?_)) | (refine Ops.k_calla ?_; first | (refine Ops.k_callf 45 ?_; refine Ops.callV kS (Evs.cons rfl (Evs.cons rfl Evs.nil)) rfl ?_) | (refine Ops.k_callf 29 ?_; refine Ops.callS kB (Evs.cons rfl (Evs.cons rfl Evs.nil)) (List.Perm.refl _) rfl ?_)) | fail)
    all_goals first | (exfalso; omega) | (exfalso; contradiction) | (refine Fin.ret (Ent.trans (Ent.nilsl 1 (s := 4) rfl) (Ent.take goTk)) (Outs.many rfl (OutL.cons goOe (OutL.cons goOe (OutL.cons goOe OutL.nil))) rfl) ⟨rfl, by rw [← hP]; rfl⟩)
  | false =>
    rw [if_neg (show ¬ badP C w = true by unfold badP; rw [hwo, decide_eq_false hwC]; simp)] at hP
    rw [hwo] at kB
    repeat' (first | refine goH ?_ | refine goV ?_ | refine goB (fun b => ?_) | refine goC (fun ad cap => ?_) | refine goG ?_ | (refine Ops.k_guard ?_; first | (refine Ops.guard_dec rfl rfl (fun hc => ?_) (fun hc => ?_) <;> try (exfalso; omega)) | refine Ops.guard_split rfl rfl (fun hc => ?_) (fun hc => ?_)) | refine goI ?_ | (refine Cw.k_cond ?_; first | (refine Cw.cond_dec rfl (fun hc => ?_) (fun hc => ?_) <;> try (exfalso; omega)) | refine Cw.cond_bool rfl (fun hc => ?_) (fun hc => ?_)) | (refine Ops.k_calla ?_; first | (refine Ops.k_callf 45 ?_; refine Ops.callV kS (Evs.cons rfl (Evs.cons rfl Evs.nil)) rfl ?_) | (refine Ops.k_callf 29 ?_; refine Ops.callS kB (Evs.cons rfl (Evs.cons rfl Evs.nil)) (List.Perm.refl _) rfl ?_)) | fail)
    all_goals try first | (exfalso; omega) | (exfalso; contradiction)
    clear kS kB
    have hwC2 : (splS 32 w).length = C := Classical.byContradiction hwC
    clear hwC hwo
    generalize splS 32 w = W at *
    refine Cw.loopI [(2, _), (8, _), (29, _), (30, _), (31, _), (48, _), (49, _)] _ (fun q e c => ∃ (j : Nat) (ad : Option Addr) (cap : Nat) (rows2 : List (List Tr)), q = W.length - j ∧ (j ≤ W.length ∧ rows2 = strRows (out ++ (W.take j).map undot) ∧ rows2.length ≤ 10 * n + j) ∧ e = [(9, Tr.raw (.slice ad rows2.length cap)), (50, .int j)] ∧ c = [Chunk.own ad cap 1 9 rows2])
      ⟨_, _, _, (Ent.mkP goSub goPm), 0, ad, cap, rows, rfl, ⟨by omega, by rw [hrows]; simp, by omega⟩, rfl, rfl⟩ ?_
    rintro _ _ _ ⟨j, ad, cap, rows2, rfl, ⟨hj, hrows2, hrl2⟩, rfl, rfl⟩
    by_cases hjl : j < W.length
    · obtain ⟨u, hu⟩ := at_lt hjl
      have hrowu := strRows_at hu
      have hst := take_at hu
      have key : rows2 ++ [[Tr.str (undot u)]] = strRows (out ++ (W.take (j + 1)).map undot) := by rw [hst, List.map_append, ← List.append_assoc, strRows_app, ← hrows2]; rfl
      by_cases hud : u = dotB
      · rw [show undot u = eL by unfold undot; rw [if_pos hud]] at key
        repeat' (first | refine goH ?_ | refine goV ?_ | refine goB (fun b => ?_) | refine goC (fun ad cap => ?_) | refine goG ?_ | (refine Ops.k_guard ?_; first | (refine Ops.guard_dec rfl rfl (fun hc => ?_) (fun hc => ?_) <;> try (exfalso; omega)) | refine Ops.guard_split rfl rfl (fun hc => ?_) (fun hc => ?_)) | refine goI ?_ | (refine Cw.k_cond ?_; first | (refine Cw.cond_dec rfl (fun hc => ?_) (fun hc => ?_) <;> try (exfalso; omega)) | refine Cw.cond_bool rfl (fun hc => ?_) (fun hc => ?_)) | fail)
        all_goals first | (exfalso; contradiction) | (rw [key]; exact ⟨_, _, _, (Ent.mk goSub goTk), ⟨j + 1, _, _, _, rfl, ⟨by omega, rfl, by rw [← key, List.length_append]; simp; omega⟩, rfl, rfl⟩, by omega⟩)
      · rw [show undot u = u by unfold undot; rw [if_neg hud]] at key
        repeat' (first | refine goH ?_ | refine goV ?_ | refine goB (fun b => ?_) | refine goC (fun ad cap => ?_) | refine goG ?_ | (refine Ops.k_guard ?_; first | (refine Ops.guard_dec rfl rfl (fun hc => ?_) (fun hc => ?_) <;> try (exfalso; omega)) | refine Ops.guard_split rfl rfl (fun hc => ?_) (fun hc => ?_)) | refine goI ?_ | (refine Cw.k_cond ?_; first | (refine Cw.cond_dec rfl (fun hc => ?_) (fun hc => ?_) <;> try (exfalso; omega)) | refine Cw.cond_bool rfl (fun hc => ?_) (fun hc => ?_)) | fail)
        all_goals first | (exfalso; contradiction) | (rw [key]; exact ⟨_, _, _, (Ent.mk goSub goTk), ⟨j + 1, _, _, _, rfl, ⟨by omega, rfl, by rw [← key, List.length_append]; simp; omega⟩, rfl, rfl⟩, by omega⟩)
    · rw [List.take_of_length_le (by omega)] at hrows2
      repeat' (first | refine goH ?_ | refine goV ?_ | refine goB (fun b => ?_) | refine goC (fun ad cap => ?_) | refine goG ?_ | (refine Ops.k_guard ?_; first | (refine Ops.guard_dec rfl rfl (fun hc => ?_) (fun hc => ?_) <;> try (exfalso; omega)) | refine Ops.guard_split rfl rfl (fun hc => ?_) (fun hc => ?_)) | refine goI ?_ | (refine Cw.k_cond ?_; first | (refine Cw.cond_dec rfl (fun hc => ?_) (fun hc => ?_) <;> try (exfalso; omega)) | refine Cw.cond_bool rfl (fun hc => ?_) (fun hc => ?_)) | fail)
      exact ⟨_, _, _, (Ent.mk goSub goTk), ⟨n + 1, _, _, _, rows2, rfl, ⟨by omega, hP, hrows2, by omega⟩, rfl, rfl⟩, by omega⟩

end Lg
