/- A part of the proof of a law of this seat: it adds no condition. By an AI agent. -/
import Derived.Test.YthgcdnfhfejijaaGreatDoorRd3
section
set_option linter.all false
set_option maxRecDepth 100000
set_option maxHeartbeats 8000000
namespace Lg
open Go Go.Proofs

/-- a copy of its own -/
theorem clone_int (rows : List (List Tr)) (hk : ∀ r ∈ rows, r.length = 1) (hl : rows.length ≤ 1000000) : PFnO Tryz.prog 20 [.sl 1 rows] 1 3 (· = rows) := by
 unfold PFnO
 refine Spec.body Tryz.func20 rfl rfl (Tryz.ntmps20) rfl fun w0 own0 M => ?_
 repeat' (first | refine goH ?_ | ((fail_if_success refine Ops.k_b_eql ?_); (fail_if_success refine Ops.k_buildSlice ?_); refine goV ?_) | ((fail_if_success refine Ops.k_b_eql ?_); (fail_if_success refine Ops.k_buildSlice ?_); refine goC (fun ad cap => ?_)) | refine goI ?_ | (refine Cw.k_cond ?_; first | (refine Cw.cond_dec rfl ?_ ?_ <;> intro hc <;> try omega) | refine Cw.cond_bool rfl ?_ ?_ <;> intro hc) | fail)
 refine Ops.eql_nilS rfl rfl (fun b hb => ?_)
 cases b
 ·repeat' (first | refine goH ?_ | ((fail_if_success refine Ops.k_buildSlice ?_); refine goV ?_) | ((fail_if_success refine Ops.k_buildSlice ?_); refine goC (fun ad cap => ?_)) | refine goI ?_ | (refine Cw.k_cond ?_; first | (refine Cw.cond_dec rfl ?_ ?_ <;> intro hc <;> try omega) | refine Cw.cond_bool rfl ?_ ?_ <;> intro hc) | fail)
  refine Ops.buildSlice_own (by exact Parts.nil) rfl rfl rfl (fun ad cap => ?_)
  repeat' (first | refine goH ?_ | refine goV ?_ | refine goC (fun ad cap => ?_) | refine goI ?_ | (refine Cw.k_cond ?_; first | (refine Cw.cond_dec rfl ?_ ?_ <;> intro hc <;> try omega) | refine Cw.cond_bool rfl ?_ ?_ <;> intro hc) | fail)
  exact Fin.ret (Ent.take goTk) (Outs.one rfl rfl) ⟨_, _, _, rfl, rfl, rfl⟩
 ·have hr := hb rfl
  subst hr
  repeat' (first | refine goH ?_ | refine goV ?_ | refine goC (fun ad cap => ?_) | refine goI ?_ | (refine Cw.k_cond ?_; first | (refine Cw.cond_dec rfl ?_ ?_ <;> intro hc <;> try omega) | refine Cw.cond_bool rfl ?_ ?_ <;> intro hc) | fail)
  exact Fin.ret (Ent.trans (Ent.nil 1 3) (Ent.take goTk)) (Outs.one rfl rfl) ⟨none, 0, [], rfl, rfl, rfl⟩

theorem intRows_k (l : List Int) : ∀ r ∈ intRows l, r.length = 1 := by
 intro r hr
 obtain ⟨x, _, rfl⟩ := List.mem_map.1 hr
 rfl
theorem rdgRows_k (l : List Rdg) : ∀ r ∈ l.map Rdg.row, r.length = 2 := by
 intro r hr
 obtain ⟨x, _, rfl⟩ := List.mem_map.1 hr
 rfl
def rdgAt (c t f : Int) (l : List Rdg) (i : Nat) : Int := match l[i]? with
 |none => 0
 |some r => rdgE c t f r
def rdsE (c t f : Int) (l : List Rdg) : Int := if mtrE c t f ≠ 0 then mtrE c t f else if l.length > 2000 then 2 else firstE (rdgAt c t f l) 0 l.length
def srtO (c t f : Int) (l : List Rdg) : Tr := if rdsE c t f l ≠ 0 then .tup [.sl 2 [], .int (rdsE c t f l)] else match dedA [] (isort rlt l) with
 |none => .tup [.sl 2 [], .int 13]
 |some D => .tup [.sl 2 (D.map Rdg.row), .int 0]
theorem rlt_cmp (a b : Rdg) : rlt a b = decide (cmpI a.t b.t < 0) := by
 unfold rlt
 rw [Bool.eq_iff_iff, decide_eq_true_iff, decide_eq_true_iff, cmpI_lt]
theorem sortD1_fn (a b : Rdg) : PFn Tryz.prog 90 [.rdg a, .rdg b] (· = .int (cmpI a.t b.t)) := by
 have hc := compare_fn a.t b.t
 generalize cmpI a.t b.t = r at *
 refine PFn.mk (Spec.body Tryz.func90 rfl rfl (Tryz.ntmps90) rfl fun w0 own0 M => ?_)
 repeat' (first | refine goH ?_ | refine goV ?_ | refine goB (fun b => ?_) | refine goI ?_ | (refine Cw.k_cond ?_; first | (refine Cw.cond_dec rfl ?_ ?_ <;> intro hc <;> try omega) | refine Cw.cond_bool rfl ?_ ?_ <;> intro hc) | (refine Ops.k_calla ?_; first | (refine Ops.k_callf 36 ?_; refine Ops.callV hc (Evs.cons rfl (Evs.cons rfl Evs.nil)) rfl ?_)) | fail)
 exact Fin.ret (Ent.take goTk) (Outs.one rfl rfl) ⟨rfl, rfl⟩
end Lg
end
section
set_option linter.all false
set_option maxRecDepth 100000
set_option maxHeartbeats 8000000
namespace Lg
open Go Go.Proofs

theorem srtO_bad {c t f : Int} {l : List Rdg} {e : Int} (h : rdsE c t f l = e) (h0 : e ≠ 0) : srtO c t f l = .tup [.sl 2 [], .int e] := by
 unfold srtO
 rw [h, if_pos h0]
theorem srtO_no {c t f : Int} {l : List Rdg} (h : rdsE c t f l = 0) (hd : dedA [] (isort rlt l) = none) : srtO c t f l = .tup [.sl 2 [], .int 13] := by
 unfold srtO
 rw [h, if_neg (by decide), hd]
theorem srtO_yes {c t f : Int} {l D : List Rdg} (h : rdsE c t f l = 0) (hd : dedA [] (isort rlt l) = some D) : srtO c t f l = .tup [.sl 2 (D.map Rdg.row), .int 0] := by
 unfold srtO
 rw [h, if_neg (by decide), hd]
theorem dedA_nil {s : List Rdg} {k : Nat} {r : Rdg} (h : s[k]? = some r) : dedA [] (s.drop k) = dedA [r] (s.drop (k + 1)) := by
 rw [drop_at h, dedA]
 rfl
theorem dedA_ne {acc s : List Rdg} {k : Nat} {r x : Rdg} (h : s[k]? = some r) (hn : x.t ≠ r.t) : dedA (acc ++ [x]) (s.drop k) = dedA (acc ++ [x] ++ [r]) (s.drop (k + 1)) := by
 rw [drop_at h, dedA]
 simp [hn]
theorem dedA_eq {acc s : List Rdg} {k : Nat} {r x : Rdg} (h : s[k]? = some r) (hn : x.t = r.t) (hv : x.vs = r.vs) : dedA (acc ++ [x]) (s.drop k) = dedA (acc ++ [x]) (s.drop (k + 1)) := by
 rw [drop_at h, dedA]
 simp [hn, hv]
theorem dedA_no {acc s : List Rdg} {k : Nat} {r x : Rdg} (h : s[k]? = some r) (hn : x.t = r.t) (hv : x.vs ≠ r.vs) : dedA (acc ++ [x]) (s.drop k) = none := by
 rw [drop_at h, dedA]
 simp [hn, hv]
theorem dedA_end {acc s : List Rdg} {k : Nat} (h : s.length ≤ k) : dedA acc (s.drop k) = some acc := by
 rw [List.drop_of_length_le h, dedA]
theorem rdgRows_snoc (acc : List Rdg) (r : Rdg) : acc.map Rdg.row ++ [[Tr.int r.t, Tr.ints r.vs]] = (acc ++ [r]).map Rdg.row := by
 rw [List.map_append]
 rfl
attribute [local irreducible] intRows isort dedA
theorem sort_fn (c t f : Int) (l : List Rdg) (hl : l.length ≤ 12) (hv : ∀ r ∈ l, r.vs.length ≤ 1000) (ht : -1000000000000 ≤ t ∧ t ≤ 1000000000000) : PFn Tryz.prog 56 [.mtr c t f, .sl 2 (l.map Rdg.row)] (· = srtO c t f l) := by
 have k1 := checkMeter_fn c t f
 have hL : (l.map Rdg.row).length = l.length := List.length_map _
 have he : rdsE c t f l = if mtrE c t f ≠ 0 then mtrE c t f else if l.length > 2000 then 2 else firstE (rdgAt c t f l) 0 l.length := rfl
 refine PFn.mk (Spec.body Tryz.func56 rfl rfl (Tryz.ntmps56) rfl fun w0 own0 M => ?_)
 by_cases h1 : mtrE c t f ≠ 0
 ·rw [if_pos h1] at he
  rw [srtO_bad he h1]
  clear he
  generalize mtrE c t f = e at *
  repeat' (first | refine goH ?_ | refine goV ?_ | refine goB (fun b => ?_) | refine goC (fun ad cap => ?_) | refine goG ?_ | (refine Ops.k_guard ?_; first | (refine Ops.guard_dec rfl rfl ?_ ?_ <;> intro hc <;> try omega) | refine Ops.guard_split rfl rfl ?_ ?_ <;> intro hc) | refine goI ?_ | (refine Cw.k_cond ?_; first | (refine Cw.cond_dec rfl ?_ ?_ <;> intro hc <;> try omega) | refine Cw.cond_bool rfl ?_ ?_ <;> intro hc) | (refine Ops.k_calla ?_; first | (refine Ops.k_callf 86 ?_; refine Ops.callV k1 (Evs.cons rfl Evs.nil) rfl ?_)) | (apply OpW.k_call; first | (apply OpW.k_callf 86; exact OpW.callV k1 (Evs.cons rfl Evs.nil))) | refine goR ?_ | refine goP ?_ | apply PSeq.cons | apply PSeq.yes rfl rfl rfl | exact goW | fail)
  refine Fin.ret (Ent.trans (Ent.nilsl 2 (s := 4) rfl) (Ent.take goTk)) (Outs.many rfl (OutL.cons goOe (OutL.cons goOe OutL.nil)) rfl) ⟨rfl, rfl⟩
 rw [if_neg h1, if_neg (by omega)] at he
 have e0 : mtrE c t f = 0 := by omega
 rw [e0] at k1
 clear e0 h1
 repeat' (first | refine goH ?_ | refine goV ?_ | refine goB (fun b => ?_) | refine goC (fun ad cap => ?_) | refine goG ?_ | (refine Ops.k_guard ?_; first | (refine Ops.guard_dec rfl rfl ?_ ?_ <;> intro hc <;> try omega) | refine Ops.guard_split rfl rfl ?_ ?_ <;> intro hc) | refine goI ?_ | (refine Cw.k_cond ?_; first | (refine Cw.cond_dec rfl ?_ ?_ <;> intro hc <;> try omega) | refine Cw.cond_bool rfl ?_ ?_ <;> intro hc) | (refine Ops.k_calla ?_; first | (refine Ops.k_callf 86 ?_; refine Ops.callV k1 (Evs.cons rfl Evs.nil) rfl ?_)) | (apply OpW.k_call; first | (apply OpW.k_callf 86; exact OpW.callV k1 (Evs.cons rfl Evs.nil))) | refine goR ?_ | refine goP ?_ | apply PSeq.cons | apply PSeq.yes rfl rfl rfl | exact goW | fail)
 rename Nat => b2
 refine Cw.loopI [(1, _), (2, _), (23, _), (24, _)] _ (fun q e cc => ∃ (k : Nat), q = l.length - k ∧ (k ≤ l.length ∧ rdsE c t f l = firstE (rdgAt c t f l) k (l.length - k)) ∧ e = [(25, .int k)] ∧ cc = []) ⟨_, _, _, (Ent.mkP goSub goPm), 0, rfl, ⟨by omega, he⟩, rfl, rfl⟩ ?_
 clear he
 rintro _ _ _ ⟨k, rfl, ⟨hk, hV⟩, rfl, rfl⟩
 by_cases hkl : k < l.length
 ·obtain ⟨x, hx⟩ := at_lt hkl
  have hrow : (l.map Rdg.row)[k]? = some [.int x.t, .ints x.vs] := rows_at hx
  have kR := checkReading_fn c t f x ht (by have := hv x (List.mem_of_getElem? hx); omega)
  have hE : rdgAt c t f l k = rdgE c t f x := by unfold rdgAt; rw [hx]
  by_cases g : rdgE c t f x ≠ 0
  ·have hf := hV.trans (firstE_bad hkl hE g)
   rw [srtO_bad hf g]
   clear hV hf hE
   generalize rdgE c t f x = e at *
   repeat' (first | refine goH ?_ | refine goV ?_ | refine goB (fun b => ?_) | refine goC (fun ad cap => ?_) | refine goG ?_ | (refine Ops.k_guard ?_; first | (refine Ops.guard_dec rfl rfl ?_ ?_ <;> intro hc <;> try omega) | refine Ops.guard_split rfl rfl ?_ ?_ <;> intro hc) | refine goI ?_ | (refine Cw.k_cond ?_; first | (refine Cw.cond_dec rfl ?_ ?_ <;> intro hc <;> try omega) | refine Cw.cond_bool rfl ?_ ?_ <;> intro hc) | (refine Ops.k_calla ?_; first | (refine Ops.k_callf 87 ?_; refine Ops.callV kR (Evs.cons rfl (Evs.cons rfl Evs.nil)) rfl ?_)) | (apply OpW.k_call; first | (apply OpW.k_callf 87; exact OpW.callV kR (Evs.cons rfl (Evs.cons rfl Evs.nil)))) | refine goR ?_ | refine goP ?_ | apply PSeq.cons | apply PSeq.yes rfl rfl rfl | exact goW | fail)
   refine Fin.ret (Ent.trans (Ent.nilsl 2 (s := 4) rfl) (Ent.take goTk)) (Outs.many rfl (OutL.cons goOe (OutL.cons goOe OutL.nil)) rfl) ⟨rfl, rfl⟩
  ·have g0 : rdgE c t f x = 0 := by omega
   have hN := hV.trans (firstE_ok hkl (hE.trans g0))
   rw [g0] at kR
   clear hV hE
   repeat' (first | refine goH ?_ | refine goV ?_ | refine goB (fun b => ?_) | refine goC (fun ad cap => ?_) | refine goG ?_ | (refine Ops.k_guard ?_; first | (refine Ops.guard_dec rfl rfl ?_ ?_ <;> intro hc <;> try omega) | refine Ops.guard_split rfl rfl ?_ ?_ <;> intro hc) | refine goI ?_ | (refine Cw.k_cond ?_; first | (refine Cw.cond_dec rfl ?_ ?_ <;> intro hc <;> try omega) | refine Cw.cond_bool rfl ?_ ?_ <;> intro hc) | (refine Ops.k_calla ?_; first | (refine Ops.k_callf 87 ?_; refine Ops.callV kR (Evs.cons rfl (Evs.cons rfl Evs.nil)) rfl ?_)) | (apply OpW.k_call; first | (apply OpW.k_callf 87; exact OpW.callV kR (Evs.cons rfl (Evs.cons rfl Evs.nil)))) | refine goR ?_ | refine goP ?_ | apply PSeq.cons | apply PSeq.yes rfl rfl rfl | exact goW | fail)
   exact ⟨_, _, _, (Ent.mk goSub goTk), ⟨k + 1, rfl, ⟨by omega, hN⟩, rfl, rfl⟩, by omega⟩
 rw [firstE_end hkl] at hV
 have kC := clone_rdg (l.map Rdg.row) (rdgRows_k l) (by omega)
 have kS : ∀ (ad : Option Addr) (cap : Nat), Spec Tryz.prog 89 [Tr.raw (.slice ad l.length cap), Tr.raw (.func (.func 90) #[] #[])] [Chunk.own ad cap 2 49 (l.map Rdg.row)] (fun r cs => r = Tr.tup [] ∧ cs = [Chunk.own ad cap 2 49 ((isort rlt l).map Rdg.row)]) := fun ad cap => sortStable_rdg (caps := []) (cin := []) rlt_cmp (by omega) rfl (fun a b _ _ => (sortD1_fn a b).lend)
 repeat' (first | refine goH ?_ | refine goV ?_ | refine goB (fun b => ?_) | refine goC (fun ad cap => ?_) | refine goG ?_ | (refine Ops.k_guard ?_; first | (refine Ops.guard_dec rfl rfl ?_ ?_ <;> intro hc <;> try omega) | refine Ops.guard_split rfl rfl ?_ ?_ <;> intro hc) | refine goI ?_ | (refine Cw.k_cond ?_; first | (refine Cw.cond_dec rfl ?_ ?_ <;> intro hc <;> try omega) | refine Cw.cond_bool rfl ?_ ?_ <;> intro hc) | (refine Ops.k_calla ?_; first | (refine Ops.k_callf 88 ?_; (refine Ops.callO kC (Evs.cons rfl Evs.nil) rfl (fun ad cap rows hr => ?_); subst hr; rw [hL])) | (refine Ops.k_callf 89 ?_; (refine Ops.call (kS _ _) (Evs.cons rfl (Evs.cons rfl Evs.nil)) goPm rfl ?_; rintro r cs' ⟨rfl, rfl⟩))) | refine goR ?_ | refine goP ?_ | apply PSeq.cons | apply PSeq.yes rfl rfl rfl | exact goW | fail)
 obtain ⟨s, hs⟩ : ∃ s, s = isort rlt l := ⟨_, rfl⟩
 have hno : dedA [] s = none → srtO c t f l = .tup [.sl 2 [], .int 13] := fun h => srtO_no hV (by rw [← hs]; exact h)
 have hyes : ∀ D, dedA [] s = some D → srtO c t f l = .tup [.sl 2 (D.map Rdg.row), .int 0] := fun D h => srtO_yes hV (by rw [← hs]; exact h)
 clear hV
 have hsl : (s.map Rdg.row).length = l.length := by rw [List.length_map, hs, isort_len]
 have hsv : ∀ r ∈ s, r.vs.length ≤ 1000 := fun r hr => hv r ((isort_perm rlt l).mem_iff.1 (by rw [← hs]; exact hr))
 have hsn : s.length = l.length := by rw [hs, isort_len]
 rw [← hs]
 clear hs kC kS
 refine Cw.loopI [(40, _), (41, _)] _ (fun q e cc => ∃ (k : Nat) (acc : List Rdg) (ad2 : Option Addr) (cap2 : Nat) (n2 : Nat), q = l.length - k ∧ (k ≤ l.length ∧ dedA [] s = dedA acc (s.drop k) ∧ n2 = acc.length ∧ n2 ≤ k ∧ ∀ r ∈ acc, r.vs.length ≤ 1000) ∧ e = [(11, Tr.raw (.slice ad2 n2 cap2)), (42, .int k)] ∧ cc = [Chunk.own ad2 cap2 2 49 (acc.map Rdg.row)])
  ⟨_, _, _, Ent.trans (Ent.nil 2 49) (Ent.mkP goSub goPm), 0, [], none, 0, 0, rfl, ⟨by omega, by rw [List.drop_zero], rfl, by omega, by simp⟩, rfl, rfl⟩ ?_
 rintro _ _ _ ⟨k, acc, ad2, cap2, n2, rfl, ⟨hk, hV, hn2, hnk, hav⟩, rfl, rfl⟩
 have haccl : (acc.map Rdg.row).length = n2 := by rw [List.length_map, hn2]
 by_cases hkl : k < l.length
 ·obtain ⟨r, hr⟩ := at_lt (l := s) (k := k) (by omega)
  have hrow : (s.map Rdg.row)[k]? = some [.int r.t, .ints r.vs] := rows_at hr
  have hrv := hsv r (List.mem_of_getElem? hr)
  have kCl := (clone_int (intRows r.vs) (intRows_k _) (by rw [intRows_len]; omega)).val
  rcases List.eq_nil_or_concat acc with rfl | ⟨A, x, rfl⟩
  ·rw [dedA_nil hr] at hV
   simp only [List.length_nil] at hn2
   subst hn2
   repeat' (first | refine goH ?_ | refine goV ?_ | refine goB (fun b => ?_) | refine goC (fun ad cap => ?_) | refine goG ?_ | (refine Ops.k_guard ?_; first | (refine Ops.guard_dec rfl rfl ?_ ?_ <;> intro hc <;> try omega) | refine Ops.guard_split rfl rfl ?_ ?_ <;> intro hc) | refine goI ?_ | (refine Cw.k_cond ?_; first | (refine Cw.cond_dec rfl ?_ ?_ <;> intro hc <;> try omega) | refine Cw.cond_bool rfl ?_ ?_ <;> intro hc) | fail)
   refine goR ?_
   repeat' (first | refine goH ?_ | refine goV ?_ | refine goB (fun b => ?_) | refine goC (fun ad cap => ?_) | refine goG ?_ | (refine Ops.k_guard ?_; first | (refine Ops.guard_dec rfl rfl ?_ ?_ <;> intro hc <;> try omega) | refine Ops.guard_split rfl rfl ?_ ?_ <;> intro hc) | refine goI ?_ | (refine Cw.k_cond ?_; first | (refine Cw.cond_dec rfl ?_ ?_ <;> intro hc <;> try omega) | refine Cw.cond_bool rfl ?_ ?_ <;> intro hc) | refine goP ?_ | apply PSeq.cons | apply PSeq.yes rfl rfl rfl | exact goW | fail)
   first | refine Cw.region_YP (fun ξ S => Chunk.own ad cap 2 49 (s.map Rdg.row) :: Chunk.box b2 39 [.int c, .int t, .int f] :: Chunk.box b 49 [.int r.t, .ints r.vs] :: stg (S 8) (Chunk.own ad2 cap2 2 49 (([] : List Rdg).map Rdg.row)) (ownV (ξ 8) 2 49 (([] : List Rdg).map Rdg.row ++ [[.int r.t, .ints r.vs]])) :: []) rfl (by decide +kernel) rfl ((fun (ξ : Nat → Value) (S : Nat → Bool) => Chunk.own ad cap 2 49 (s.map Rdg.row) :: Chunk.box b2 39 [.int c, .int t, .int f] :: Chunk.box b 49 [.int r.t, .ints r.vs] :: stg (S 8) (Chunk.own ad2 cap2 2 49 (([] : List Rdg).map Rdg.row)) (ownV (ξ 8) 2 49 (([] : List Rdg).map Rdg.row ++ [[.int r.t, .ints r.vs]])) :: []) (fun _ => undef) (fun _ => false)) (by simp only [upd_same, updD_same, upd_ne, updD_ne, ne_eq, Nat.reduceEqDiff, not_false_eq_true, stg_t, stg_f, vAd_s, vCap_s, blk_p, List.cons_append, List.nil_append, b2n_t, b2n_f]; exact goXm) (fun _ => rfl) ?_ | fail
   apply YSeq.w (by intro _ _ _; rfl)
   ·intro ξ S h1 h2 h3 h4
    have hN0_8 := closed_false h1 h3 (k := 8) rfl (by decide)
    try simp only [upd_same, updD_same, upd_ne, updD_ne, ne_eq, Nat.reduceEqDiff, not_false_eq_true, stg_t, stg_f, vAd_s, vCap_s, blk_p, List.cons_append, List.nil_append, b2n_t, b2n_f, hN0_8]
    exact goW
   ·intro ξ v; rfl
   ·intro ξ k v S h3 hn hk
    first
    |rfl
   apply YSeq.w (by intro _ _ _; rfl)
   ·intro ξ S h1 h2 h3 h4
    have hN1_2 := closed_false h1 h3 (k := 2) rfl (by decide)
    have hN1_6 := closed_false hN1_2 h3 (k := 6) rfl (by decide)
    have hN1_7 := closed_false hN1_6 h3 (k := 7) rfl (by decide)
    have hN1_8 := closed_false hN1_7 h3 (k := 8) rfl (by decide)
    try simp only [upd_same, updD_same, upd_ne, updD_ne, ne_eq, Nat.reduceEqDiff, not_false_eq_true, stg_t, stg_f, vAd_s, vCap_s, blk_p, List.cons_append, List.nil_append, b2n_t, b2n_f, hN1_8]
    exact goW
   ·intro ξ v; rfl
   ·intro ξ k v S h3 hn hk
    first
    |rfl
   apply YSeq.w (by intro _ _ _; rfl)
   ·intro ξ S h1 h2 h3 h4
    have hN2_6 := closed_false h1 h3 (k := 6) rfl (by decide)
    have hN2_7 := closed_false hN2_6 h3 (k := 7) rfl (by decide)
    have hN2_8 := closed_false hN2_7 h3 (k := 8) rfl (by decide)
    try simp only [upd_same, updD_same, upd_ne, updD_ne, ne_eq, Nat.reduceEqDiff, not_false_eq_true, stg_t, stg_f, vAd_s, vCap_s, blk_p, List.cons_append, List.nil_append, b2n_t, b2n_f, hN2_8]
    exact goW
   ·intro ξ v; rfl
   ·intro ξ k v S h3 hn hk
    first
    |rfl
   apply YSeq.w (by intro _ _ _; rfl)
   ·intro ξ S h1 h2 h3 h4
    have hN3_4 := closed_false h1 h3 (k := 4) rfl (by decide)
    have hN3_5 := closed_false hN3_4 h3 (k := 5) rfl (by decide)
    have hN3_8 := closed_false hN3_5 h3 (k := 8) rfl (by decide)
    try simp only [upd_same, updD_same, upd_ne, updD_ne, ne_eq, Nat.reduceEqDiff, not_false_eq_true, stg_t, stg_f, vAd_s, vCap_s, blk_p, List.cons_append, List.nil_append, b2n_t, b2n_f, hN3_8]
    exact goW
   ·intro ξ v; rfl
   ·intro ξ k v S h3 hn hk
    first
    |rfl
   apply YSeq.w (by intro _ _ _; rfl)
   ·intro ξ S h1 h2 h3 h4
    have hN4_5 := closed_false h1 h3 (k := 5) rfl (by decide)
    have hN4_8 := closed_false hN4_5 h3 (k := 8) rfl (by decide)
    try simp only [upd_same, updD_same, upd_ne, updD_ne, ne_eq, Nat.reduceEqDiff, not_false_eq_true, stg_t, stg_f, vAd_s, vCap_s, blk_p, List.cons_append, List.nil_append, b2n_t, b2n_f, hN4_8]
    exact goW
   ·intro ξ v; rfl
   ·intro ξ k v S h3 hn hk
    first
    |rfl
   apply YSeq.callV (by intro _ _ _; rfl)
   ·intro ξ S h1 h2 h3 h4
    have hN5_8 := closed_false h1 h3 (k := 8) rfl (by decide)
    try simp only [upd_same, updD_same, upd_ne, updD_ne, ne_eq, Nat.reduceEqDiff, not_false_eq_true, stg_t, stg_f, vAd_s, vCap_s, blk_p, List.cons_append, List.nil_append, b2n_t, b2n_f, hN5_8]
    exact ⟨_, (Evs.cons rfl Evs.nil), kCl⟩
   ·intro ξ v; rfl
   ·intro ξ k v S h3 hn hk
    first
    |rfl
   apply YSeq.w (by intro _ _ _; rfl)
   ·intro ξ S h1 h2 h3 h4
    have hN6_7 := closed_false h1 h3 (k := 7) rfl (by decide)
    have hN6_8 := closed_false hN6_7 h3 (k := 8) rfl (by decide)
    try simp only [upd_same, updD_same, upd_ne, updD_ne, ne_eq, Nat.reduceEqDiff, not_false_eq_true, stg_t, stg_f, vAd_s, vCap_s, blk_p, List.cons_append, List.nil_append, b2n_t, b2n_f, hN6_8]
    exact goW
   ·intro ξ v; rfl
   ·intro ξ k v S h3 hn hk
    first
    |rfl
   apply YSeq.w (by intro _ _ _; rfl)
   ·intro ξ S h1 h2 h3 h4
    have hN7_8 := closed_false h1 h3 (k := 8) rfl (by decide)
    try simp only [upd_same, updD_same, upd_ne, updD_ne, ne_eq, Nat.reduceEqDiff, not_false_eq_true, stg_t, stg_f, vAd_s, vCap_s, blk_p, List.cons_append, List.nil_append, b2n_t, b2n_f, hN7_8]
    exact goW
   ·intro ξ v; rfl
   ·intro ξ k v S h3 hn hk
    first
    |rfl
   apply YSeq.append (1)
   ·intro ξ S h1 h2 h3 h4
    simp only [upd_same, updD_same, upd_ne, updD_ne, ne_eq, Nat.reduceEqDiff, not_false_eq_true, stg_t, stg_f, vAd_s, vCap_s, blk_p, List.cons_append, List.nil_append, b2n_t, b2n_f, h1]
    refine ⟨_, _, _, _, _, _, rfl, rfl, goXp, (by first | rfl | (simp; done) | omega), (by first | rfl | omega | (simp; done) | (simp; omega)), (by first | omega | (simp; done) | (simp; omega)), (by first | omega | (simp; done) | (simp; omega)), fun ad' cap' => ?_⟩
    exact goXm
   apply YSeq.w (by intro _ _ _; rfl)
   ·intro ξ S h1 h2 h3 h4
    have hY9_8 : S 8 = true := h2 8 (by decide)
    try simp only [upd_same, updD_same, upd_ne, updD_ne, ne_eq, Nat.reduceEqDiff, not_false_eq_true, stg_t, stg_f, vAd_s, vCap_s, blk_p, List.cons_append, List.nil_append, b2n_t, b2n_f, hY9_8]
    exact goW
   ·intro ξ v; rfl
   ·intro ξ k v S h3 hn hk
    first
    |rfl
    |skip
     have hY9_8 : S 8 = true := h3 9 _ rfl hn 8 (by decide)
     simp only [upd_S hY9_8 hk]
   refine YSeq.nil fun ξ hf => ?_
   refine ⟨[(11, _), (40, _), (41, _), (42, _)], _, Ent.trans (Ent.eqc rfl (by first | (simp only [upd_same, updD_same, upd_ne, updD_ne, ne_eq, Nat.reduceEqDiff, not_false_eq_true, stg_t, stg_f, vAd_s, vCap_s, blk_p, List.cons_append, List.nil_append, b2n_t, b2n_f, ownV, slV, ptV] <;> rfl) | rfl)) (Ent.sub goSub), ?_⟩
   clear hf
   generalize vAd (ξ 8) = ad78
   generalize vCap (ξ 8) = cap78
   rw [rdgRows_snoc]
   repeat' (first | refine goH ?_ | refine goV ?_ | refine goB (fun b => ?_) | refine goC (fun ad cap => ?_) | refine goG ?_ | (refine Ops.k_guard ?_; first | (refine Ops.guard_dec rfl rfl ?_ ?_ <;> intro hc <;> try omega) | refine Ops.guard_split rfl rfl ?_ ?_ <;> intro hc) | refine goI ?_ | (refine Cw.k_cond ?_; first | (refine Cw.cond_dec rfl ?_ ?_ <;> intro hc <;> try omega) | refine Cw.cond_bool rfl ?_ ?_ <;> intro hc) | refine goR ?_ | refine goP ?_ | apply PSeq.cons | apply PSeq.yes rfl rfl rfl | exact goW | fail)
   exact ⟨_, _, _, (Ent.mk goSub goTk), ⟨k + 1, _, _, _, 1, rfl, ⟨by omega, hV, rfl, by omega, by intro y hy; rw [List.mem_singleton] at hy; rw [hy]; exact hrv⟩, rfl, rfl⟩, by omega⟩
  ·rw [List.concat_eq_append] at *
   have hrx : ((A ++ [x]).map Rdg.row)[((n2 : Int) - 1).toNat]? = some [.int x.t, .ints x.vs] := rows_at (by rw [hn2]; simp)
   have hxv := hav x (by simp)
   have hn1 : 1 ≤ n2 := by rw [hn2]; simp
   have hAl : A.length + 1 = n2 := by rw [hn2]; simp
   have kE := equalInts_fn x.vs r.vs (by omega) (by omega)
   by_cases ht : x.t = r.t
   ·by_cases hvs : x.vs = r.vs
    ·rw [dedA_eq hr ht hvs] at hV
     rw [decide_eq_true hvs] at kE
     repeat' (first | refine goH ?_ | refine goV ?_ | refine goB (fun b => ?_) | refine goC (fun ad cap => ?_) | refine goG ?_ | (refine Ops.k_guard ?_; first | (refine Ops.guard_dec rfl rfl ?_ ?_ <;> intro hc <;> try omega) | refine Ops.guard_split rfl rfl ?_ ?_ <;> intro hc) | refine goI ?_ | (refine Cw.k_cond ?_; first | (refine Cw.cond_dec rfl ?_ ?_ <;> intro hc <;> try omega) | refine Cw.cond_bool rfl ?_ ?_ <;> intro hc) | (refine Ops.k_calla ?_; first | (refine Ops.k_callf 44 ?_; refine Ops.callV kE (Evs.cons rfl (Evs.cons rfl Evs.nil)) rfl ?_)) | (apply OpW.k_call; first | (apply OpW.k_callf 44; exact OpW.callV kE (Evs.cons rfl (Evs.cons rfl Evs.nil)))) | refine goR ?_ | refine goP ?_ | apply PSeq.cons | apply PSeq.yes rfl rfl rfl | exact goW | fail)
     exact ⟨_, _, _, (Ent.mk goSub goTk), ⟨k + 1, _, _, _, n2, rfl, ⟨by omega, hV, hn2, by omega, hav⟩, rfl, rfl⟩, by omega⟩
    ·rw [dedA_no hr ht hvs] at hV
     rw [decide_eq_false hvs] at kE
     rw [hno hV]
     repeat' (first | refine goH ?_ | refine goV ?_ | refine goB (fun b => ?_) | refine goC (fun ad cap => ?_) | refine goG ?_ | (refine Ops.k_guard ?_; first | (refine Ops.guard_dec rfl rfl ?_ ?_ <;> intro hc <;> try omega) | refine Ops.guard_split rfl rfl ?_ ?_ <;> intro hc) | refine goI ?_ | (refine Cw.k_cond ?_; first | (refine Cw.cond_dec rfl ?_ ?_ <;> intro hc <;> try omega) | refine Cw.cond_bool rfl ?_ ?_ <;> intro hc) | (refine Ops.k_calla ?_; first | (refine Ops.k_callf 44 ?_; refine Ops.callV kE (Evs.cons rfl (Evs.cons rfl Evs.nil)) rfl ?_)) | (apply OpW.k_call; first | (apply OpW.k_callf 44; exact OpW.callV kE (Evs.cons rfl (Evs.cons rfl Evs.nil)))) | refine goR ?_ | refine goP ?_ | apply PSeq.cons | apply PSeq.yes rfl rfl rfl | exact goW | fail)
     refine Fin.ret (Ent.trans (Ent.nilsl 2 (s := 4) rfl) (Ent.take goTk)) (Outs.many rfl (OutL.cons goOe (OutL.cons goOe OutL.nil)) rfl) ⟨rfl, rfl⟩
   ·rw [dedA_ne hr ht] at hV
    repeat' (first | refine goH ?_ | refine goV ?_ | refine goB (fun b => ?_) | refine goC (fun ad cap => ?_) | refine goG ?_ | (refine Ops.k_guard ?_; first | (refine Ops.guard_dec rfl rfl ?_ ?_ <;> intro hc <;> try omega) | refine Ops.guard_split rfl rfl ?_ ?_ <;> intro hc) | refine goI ?_ | (refine Cw.k_cond ?_; first | (refine Cw.cond_dec rfl ?_ ?_ <;> intro hc <;> try omega) | refine Cw.cond_bool rfl ?_ ?_ <;> intro hc) | fail)
    refine goR ?_
    repeat' (first | refine goH ?_ | refine goV ?_ | refine goB (fun b => ?_) | refine goC (fun ad cap => ?_) | refine goG ?_ | (refine Ops.k_guard ?_; first | (refine Ops.guard_dec rfl rfl ?_ ?_ <;> intro hc <;> try omega) | refine Ops.guard_split rfl rfl ?_ ?_ <;> intro hc) | refine goI ?_ | (refine Cw.k_cond ?_; first | (refine Cw.cond_dec rfl ?_ ?_ <;> intro hc <;> try omega) | refine Cw.cond_bool rfl ?_ ?_ <;> intro hc) | refine goP ?_ | apply PSeq.cons | apply PSeq.yes rfl rfl rfl | exact goW | fail)
    first | refine Cw.region_YP (fun ξ S => Chunk.own ad cap 2 49 (s.map Rdg.row) :: Chunk.box b2 39 [.int c, .int t, .int f] :: Chunk.box b 49 [.int r.t, .ints r.vs] :: stg (S 8) (Chunk.own ad2 cap2 2 49 ((A ++ [x]).map Rdg.row)) (ownV (ξ 8) 2 49 ((A ++ [x]).map Rdg.row ++ [[.int r.t, .ints r.vs]])) :: []) rfl (by decide +kernel) rfl ((fun (ξ : Nat → Value) (S : Nat → Bool) => Chunk.own ad cap 2 49 (s.map Rdg.row) :: Chunk.box b2 39 [.int c, .int t, .int f] :: Chunk.box b 49 [.int r.t, .ints r.vs] :: stg (S 8) (Chunk.own ad2 cap2 2 49 ((A ++ [x]).map Rdg.row)) (ownV (ξ 8) 2 49 ((A ++ [x]).map Rdg.row ++ [[.int r.t, .ints r.vs]])) :: []) (fun _ => undef) (fun _ => false)) (by simp only [upd_same, updD_same, upd_ne, updD_ne, ne_eq, Nat.reduceEqDiff, not_false_eq_true, stg_t, stg_f, vAd_s, vCap_s, blk_p, List.cons_append, List.nil_append, b2n_t, b2n_f]; exact goXm) (fun _ => rfl) ?_ | fail
    apply YSeq.w (by intro _ _ _; rfl)
    ·intro ξ S h1 h2 h3 h4
     have hN0_8 := closed_false h1 h3 (k := 8) rfl (by decide)
     try simp only [upd_same, updD_same, upd_ne, updD_ne, ne_eq, Nat.reduceEqDiff, not_false_eq_true, stg_t, stg_f, vAd_s, vCap_s, blk_p, List.cons_append, List.nil_append, b2n_t, b2n_f, hN0_8]
     exact goW
    ·intro ξ v; rfl
    ·intro ξ k v S h3 hn hk
     first
     |rfl
    apply YSeq.w (by intro _ _ _; rfl)
    ·intro ξ S h1 h2 h3 h4
     have hN1_2 := closed_false h1 h3 (k := 2) rfl (by decide)
     have hN1_6 := closed_false hN1_2 h3 (k := 6) rfl (by decide)
     have hN1_7 := closed_false hN1_6 h3 (k := 7) rfl (by decide)
     have hN1_8 := closed_false hN1_7 h3 (k := 8) rfl (by decide)
     try simp only [upd_same, updD_same, upd_ne, updD_ne, ne_eq, Nat.reduceEqDiff, not_false_eq_true, stg_t, stg_f, vAd_s, vCap_s, blk_p, List.cons_append, List.nil_append, b2n_t, b2n_f, hN1_8]
     exact goW
    ·intro ξ v; rfl
    ·intro ξ k v S h3 hn hk
     first
     |rfl
    apply YSeq.w (by intro _ _ _; rfl)
    ·intro ξ S h1 h2 h3 h4
     have hN2_6 := closed_false h1 h3 (k := 6) rfl (by decide)
     have hN2_7 := closed_false hN2_6 h3 (k := 7) rfl (by decide)
     have hN2_8 := closed_false hN2_7 h3 (k := 8) rfl (by decide)
     try simp only [upd_same, updD_same, upd_ne, updD_ne, ne_eq, Nat.reduceEqDiff, not_false_eq_true, stg_t, stg_f, vAd_s, vCap_s, blk_p, List.cons_append, List.nil_append, b2n_t, b2n_f, hN2_8]
     exact goW
    ·intro ξ v; rfl
    ·intro ξ k v S h3 hn hk
     first
     |rfl
    apply YSeq.w (by intro _ _ _; rfl)
    ·intro ξ S h1 h2 h3 h4
     have hN3_4 := closed_false h1 h3 (k := 4) rfl (by decide)
     have hN3_5 := closed_false hN3_4 h3 (k := 5) rfl (by decide)
     have hN3_8 := closed_false hN3_5 h3 (k := 8) rfl (by decide)
     try simp only [upd_same, updD_same, upd_ne, updD_ne, ne_eq, Nat.reduceEqDiff, not_false_eq_true, stg_t, stg_f, vAd_s, vCap_s, blk_p, List.cons_append, List.nil_append, b2n_t, b2n_f, hN3_8]
     exact goW
    ·intro ξ v; rfl
    ·intro ξ k v S h3 hn hk
     first
     |rfl
    apply YSeq.w (by intro _ _ _; rfl)
    ·intro ξ S h1 h2 h3 h4
     have hN4_5 := closed_false h1 h3 (k := 5) rfl (by decide)
     have hN4_8 := closed_false hN4_5 h3 (k := 8) rfl (by decide)
     try simp only [upd_same, updD_same, upd_ne, updD_ne, ne_eq, Nat.reduceEqDiff, not_false_eq_true, stg_t, stg_f, vAd_s, vCap_s, blk_p, List.cons_append, List.nil_append, b2n_t, b2n_f, hN4_8]
     exact goW
    ·intro ξ v; rfl
    ·intro ξ k v S h3 hn hk
     first
     |rfl
    apply YSeq.callV (by intro _ _ _; rfl)
    ·intro ξ S h1 h2 h3 h4
     have hN5_8 := closed_false h1 h3 (k := 8) rfl (by decide)
     try simp only [upd_same, updD_same, upd_ne, updD_ne, ne_eq, Nat.reduceEqDiff, not_false_eq_true, stg_t, stg_f, vAd_s, vCap_s, blk_p, List.cons_append, List.nil_append, b2n_t, b2n_f, hN5_8]
     exact ⟨_, (Evs.cons rfl Evs.nil), kCl⟩
    ·intro ξ v; rfl
    ·intro ξ k v S h3 hn hk
     first
     |rfl
    apply YSeq.w (by intro _ _ _; rfl)
    ·intro ξ S h1 h2 h3 h4
     have hN6_7 := closed_false h1 h3 (k := 7) rfl (by decide)
     have hN6_8 := closed_false hN6_7 h3 (k := 8) rfl (by decide)
     try simp only [upd_same, updD_same, upd_ne, updD_ne, ne_eq, Nat.reduceEqDiff, not_false_eq_true, stg_t, stg_f, vAd_s, vCap_s, blk_p, List.cons_append, List.nil_append, b2n_t, b2n_f, hN6_8]
     exact goW
    ·intro ξ v; rfl
    ·intro ξ k v S h3 hn hk
     first
     |rfl
    apply YSeq.w (by intro _ _ _; rfl)
    ·intro ξ S h1 h2 h3 h4
     have hN7_8 := closed_false h1 h3 (k := 8) rfl (by decide)
     try simp only [upd_same, updD_same, upd_ne, updD_ne, ne_eq, Nat.reduceEqDiff, not_false_eq_true, stg_t, stg_f, vAd_s, vCap_s, blk_p, List.cons_append, List.nil_append, b2n_t, b2n_f, hN7_8]
     exact goW
    ·intro ξ v; rfl
    ·intro ξ k v S h3 hn hk
     first
     |rfl
    apply YSeq.append (n2 + 1)
    ·intro ξ S h1 h2 h3 h4
     simp only [upd_same, updD_same, upd_ne, updD_ne, ne_eq, Nat.reduceEqDiff, not_false_eq_true, stg_t, stg_f, vAd_s, vCap_s, blk_p, List.cons_append, List.nil_append, b2n_t, b2n_f, h1]
     refine ⟨_, _, _, _, _, _, rfl, rfl, goXp, (by first | rfl | (simp; done) | omega), (by first | rfl | omega | (simp; done) | (simp; omega)), (by first | omega | (simp; done) | (simp; omega)), (by first | omega | (simp; done) | (simp; omega)), fun ad' cap' => ?_⟩
     exact goXm
    apply YSeq.w (by intro _ _ _; rfl)
    ·intro ξ S h1 h2 h3 h4
     have hY9_8 : S 8 = true := h2 8 (by decide)
     try simp only [upd_same, updD_same, upd_ne, updD_ne, ne_eq, Nat.reduceEqDiff, not_false_eq_true, stg_t, stg_f, vAd_s, vCap_s, blk_p, List.cons_append, List.nil_append, b2n_t, b2n_f, hY9_8]
     exact goW
    ·intro ξ v; rfl
    ·intro ξ k v S h3 hn hk
     first
     |rfl
     |skip
      have hY9_8 : S 8 = true := h3 9 _ rfl hn 8 (by decide)
      simp only [upd_S hY9_8 hk]
    refine YSeq.nil fun ξ hf => ?_
    refine ⟨[(11, _), (40, _), (41, _), (42, _)], _, Ent.trans (Ent.eqc rfl (by first | (simp only [upd_same, updD_same, upd_ne, updD_ne, ne_eq, Nat.reduceEqDiff, not_false_eq_true, stg_t, stg_f, vAd_s, vCap_s, blk_p, List.cons_append, List.nil_append, b2n_t, b2n_f, ownV, slV, ptV] <;> rfl) | rfl)) (Ent.sub goSub), ?_⟩
    clear hf
    generalize vAd (ξ 8) = ad78
    generalize vCap (ξ 8) = cap78
    rw [rdgRows_snoc]
    repeat' (first | refine goH ?_ | refine goV ?_ | refine goB (fun b => ?_) | refine goC (fun ad cap => ?_) | refine goG ?_ | (refine Ops.k_guard ?_; first | (refine Ops.guard_dec rfl rfl ?_ ?_ <;> intro hc <;> try omega) | refine Ops.guard_split rfl rfl ?_ ?_ <;> intro hc) | refine goI ?_ | (refine Cw.k_cond ?_; first | (refine Cw.cond_dec rfl ?_ ?_ <;> intro hc <;> try omega) | refine Cw.cond_bool rfl ?_ ?_ <;> intro hc) | refine goR ?_ | refine goP ?_ | apply PSeq.cons | apply PSeq.yes rfl rfl rfl | exact goW | fail)
    exact ⟨_, _, _, (Ent.mk goSub goTk), ⟨k + 1, _, _, _, n2 + 1, rfl, ⟨by omega, hV, by rw [List.length_append, ← hn2]; rfl, by omega, by intro y hy; rcases List.mem_append.1 hy with h | h; exact hav y h; rw [List.mem_singleton.1 h]; exact hrv⟩, rfl, rfl⟩, by omega⟩
 ·rw [dedA_end (by omega)] at hV
  rw [hyes _ hV]
  clear hV hno hyes
  rw [← haccl]
  repeat' (first | refine goH ?_ | refine goV ?_ | refine goB (fun b => ?_) | refine goC (fun ad cap => ?_) | refine goG ?_ | (refine Ops.k_guard ?_; first | (refine Ops.guard_dec rfl rfl ?_ ?_ <;> intro hc <;> try omega) | refine Ops.guard_split rfl rfl ?_ ?_ <;> intro hc) | refine goI ?_ | (refine Cw.k_cond ?_; first | (refine Cw.cond_dec rfl ?_ ?_ <;> intro hc <;> try omega) | refine Cw.cond_bool rfl ?_ ?_ <;> intro hc) | refine goR ?_ | refine goP ?_ | apply PSeq.cons | apply PSeq.yes rfl rfl rfl | exact goW | fail)
  refine Fin.ret (Ent.trans (Ent.settle (s := 4) rfl goPk rfl) (Ent.take goTk)) (Outs.many rfl (OutL.cons goOe (OutL.cons goOe OutL.nil)) rfl) ⟨rfl, rfl⟩
end Lg
end
section
set_option linter.all false
set_option maxRecDepth 100000
set_option maxHeartbeats 8000000
namespace Lg
open Go Go.Proofs

attribute [local irreducible] intRows isort

end Lg
end
