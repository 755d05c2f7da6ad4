/- A part of the proof of a law of this seat: it adds no condition. By an AI agent. -/
import Derived.Test.YtfgcjpkkbhnkgaaGreatDoorMv2
import Derived.Test.YtfgcjpkkbhnkgaaGreatDoorDem2
section
set_option linter.all false
set_option maxRecDepth 100000
set_option maxHeartbeats 2000000
namespace Lg
open Go Go.Proofs

def soldP (p : Sales → Bool) : List Sales → Int
 |[] => 0
 |d :: l => (if (!d.out && p d) = true then d.sold else 0) + soldP p l
def cntP (p : Sales → Bool) : List Sales → Int
 |[] => 0
 |d :: l => (if (!d.out && p d) = true then 1 else 0) + cntP p l
theorem soldP_cons (p : Sales → Bool) (d : Sales) (l : List Sales) : soldP p (d :: l) = (if (!d.out && p d) = true then d.sold else 0) + soldP p l := rfl
theorem cntP_cons (p : Sales → Bool) (d : Sales) (l : List Sales) : cntP p (d :: l) = (if (!d.out && p d) = true then 1 else 0) + cntP p l := rfl
theorem soldP_bd (p : Sales → Bool) : ∀ {l : List Sales}, (∀ d ∈ l, 0 ≤ d.sold ∧ d.sold ≤ 1000) → 0 ≤ soldP p l ∧ soldP p l ≤ 1000 * cntP p l ∧ 0 ≤ cntP p l ∧ cntP p l ≤ l.length
 |[], _ => by simp [soldP, cntP]
 |d :: l, h => by
  have := soldP_bd p (l := l) (fun x hx => h x (List.mem_cons_of_mem _ hx))
  have hd := h d (by simp)
  unfold soldP cntP
  rw [List.length_cons]
  split <;> omega
theorem sum_spec {l : List Sales} {p : Sales → Bool} {g : Nat} {caps : List Value} {cin : List Chunk} (hr : Right l)
  (hs : ∀ x, x ∈ l → Spec Tryz.prog g ([Tr.agg x.row] ++ caps.map Tr.raw) cin (fun r cs => r = Tr.bool (p x) ∧ cs = cin)) :
  Spec Tryz.prog 83 [.sales l, Tr.raw (.func (.func g) #[] caps.toArray)] cin (fun r cs => r = .tup [.int (soldP p l), .int (cntP p l)] ∧ cs = cin) := by
 refine Spec.body Tryz.func83 rfl rfl (Tryz.ntmps83) rfl fun w0 own0 M => ?_
 have hL : (l.map Sales.row).length = l.length := List.length_map _
 have h400 := hr.len
 repeat' (first | refine goH ?_ | refine goV ?_ | refine goB (fun b => ?_) | refine goG ?_ | (refine Ops.k_guard ?_; first | (refine Ops.guard_dec rfl rfl ?_ ?_ <;> intro hc <;> try omega) | refine Ops.guard_split rfl rfl ?_ ?_ <;> intro hc) | refine goI ?_ | (refine Cw.k_cond ?_; first | (refine Cw.cond_dec rfl ?_ ?_ <;> intro hc <;> try omega) | refine Cw.cond_bool rfl ?_ ?_ <;> intro hc) | fail)
 refine Cw.loop (ι := Nat × Int × Int) (fun s => s.1 ≤ l.length ∧ s.2.1 + soldP p (l.drop s.1) = soldP p l ∧ s.2.2 + cntP p (l.drop s.1) = cntP p l ∧ 0 ≤ s.2.1 ∧ s.2.1 ≤ 1000 * s.1 ∧ 0 ≤ s.2.2 ∧ s.2.2 ≤ s.1)
  (fun s => [(1, Tr.raw (.func (.func g) #[] caps.toArray)), (8, .sales l), (9, .int (l.map Sales.row).length), (4, .int s.2.1), (5, .int s.2.2), (10, .int s.1)]) (fun _ => cin) (fun s => l.length - s.1) ⟨(0, 0, 0), by simp, Ent.sub goSub⟩ ?_
 rintro ⟨k, S, C⟩ ⟨hk, h1, h2, h3, h4, h5, h6⟩
 simp only at hk h1 h2 h3 h4 h5 h6 ⊢
 by_cases hkl : k < l.length
 ·obtain ⟨d, hd⟩ := at_lt hkl
  have hsd := hr.sold d (List.mem_of_getElem? hd)
  have hsp := hs d (List.mem_of_getElem? hd)
  have hrow : (l.map Sales.row)[k]? = some [Tr.int d.day, Tr.int d.sold, Tr.bool d.out] := rows_at hd
  rw [drop_at hd] at h1 h2
  rw [soldP_cons] at h1
  rw [cntP_cons] at h2
  obtain ⟨dd, ds, dout⟩ := d
  simp only at hrow hsd h1 h2
  cases dout
  ·cases hp : p ⟨dd, ds, false⟩
   ·rw [hp] at hsp
    simp only [hp, Bool.not_false, Bool.and_false, Bool.false_eq_true, if_false] at h1 h2
    repeat' (first | refine goH ?_ | refine goV ?_ | refine goB (fun b => ?_) | refine goG ?_ | (refine Ops.k_guard ?_; first | (refine Ops.guard_dec rfl rfl ?_ ?_ <;> intro hc <;> try omega) | refine Ops.guard_split rfl rfl ?_ ?_ <;> intro hc) | refine goI ?_ | (refine Cw.k_cond ?_; first | (refine Cw.cond_dec rfl ?_ ?_ <;> intro hc <;> try omega) | refine Cw.cond_bool rfl ?_ ?_ <;> intro hc) | (refine Ops.k_calla ?_; first | refine Ops.callS_fn rfl hsp (Evs.cons rfl Evs.nil) (List.perm_append_singleton _ _).symm rfl ?_) | fail)
    exact ⟨(k + 1, S, C), ⟨by omega, by simp only; omega, by simp only; omega, by simp only; omega, by simp only; omega, by simp only; omega, by simp only; omega⟩, by simp only; omega, Ent.trans Ent.drop (Ent.sub goSub)⟩
   ·rw [hp] at hsp
    simp only [hp, Bool.not_false, Bool.and_true, Bool.true_and, if_true] at h1 h2
    repeat' (first | refine goH ?_ | refine goV ?_ | refine goB (fun b => ?_) | refine goG ?_ | (refine Ops.k_guard ?_; first | (refine Ops.guard_dec rfl rfl ?_ ?_ <;> intro hc <;> try omega) | refine Ops.guard_split rfl rfl ?_ ?_ <;> intro hc) | refine goI ?_ | (refine Cw.k_cond ?_; first | (refine Cw.cond_dec rfl ?_ ?_ <;> intro hc <;> try omega) | refine Cw.cond_bool rfl ?_ ?_ <;> intro hc) | (refine Ops.k_calla ?_; first | refine Ops.callS_fn rfl hsp (Evs.cons rfl Evs.nil) (List.perm_append_singleton _ _).symm rfl ?_) | fail)
    exact ⟨(k + 1, S + ds, C + 1), ⟨by omega, by simp only; omega, by simp only; omega, by simp only; omega, by simp only; omega, by simp only; omega, by simp only; omega⟩, by simp only; omega, Ent.trans Ent.drop (Ent.sub goSub)⟩
  ·simp only [Bool.not_true, Bool.false_and, Bool.false_eq_true, if_false] at h1 h2
   repeat' (first | refine goH ?_ | refine goV ?_ | refine goB (fun b => ?_) | refine goG ?_ | (refine Ops.k_guard ?_; first | (refine Ops.guard_dec rfl rfl ?_ ?_ <;> intro hc <;> try omega) | refine Ops.guard_split rfl rfl ?_ ?_ <;> intro hc) | refine goI ?_ | (refine Cw.k_cond ?_; first | (refine Cw.cond_dec rfl ?_ ?_ <;> intro hc <;> try omega) | refine Cw.cond_bool rfl ?_ ?_ <;> intro hc) | fail)
   exact ⟨(k + 1, S, C), ⟨by omega, by simp only; omega, by simp only; omega, by simp only; omega, by simp only; omega, by simp only; omega, by simp only; omega⟩, by simp only; omega, Ent.trans Ent.drop (Ent.sub goSub)⟩
 ·rw [List.drop_eq_nil_of_le (by omega)] at h1 h2
  simp only [soldP, cntP, Int.add_zero] at h1 h2
  repeat' (first | refine goH ?_ | refine goV ?_ | refine goB (fun b => ?_) | refine goG ?_ | (refine Ops.k_guard ?_; first | (refine Ops.guard_dec rfl rfl ?_ ?_ <;> intro hc <;> try omega) | refine Ops.guard_split rfl rfl ?_ ?_ <;> intro hc) | refine goI ?_ | (refine Cw.k_cond ?_; first | (refine Cw.cond_dec rfl ?_ ?_ <;> intro hc <;> try omega) | refine Cw.cond_bool rfl ?_ ?_ <;> intro hc) | fail)
  exact Fin.ret Ent.refl (Outs.two rfl rfl rfl) ⟨by rw [h1, h2], rfl⟩

end Lg
end
section
set_option linter.all false
set_option maxRecDepth 100000
set_option maxHeartbeats 2000000
namespace Lg
open Go Go.Proofs

theorem tup_fi {f : Frac} {e : Int} {p : Frac × Int} (h : (f, e) = p) : Tr.tup [.agg f.row, .int e] = Tr.tup [.agg p.1.row, .int p.2] := by
 subst h
 rfl

theorem every_fn (d : Sales) : PFn Tryz.prog 84 [.agg d.row] (· = .bool true) := by
 refine PFn.mk (Spec.body Tryz.func84 rfl rfl (Tryz.ntmps84) rfl fun w0 own0 M => ?_)
 repeat' (first | refine goH ?_ | refine goV ?_ | refine goB (fun b => ?_) | refine goI ?_ | (refine Cw.k_cond ?_; first | (refine Cw.cond_dec rfl ?_ ?_ <;> intro hc <;> try omega) | refine Cw.cond_bool rfl ?_ ?_ <;> intro hc) | fail)
 all_goals exact Fin.ret (Ent.take goTk) (Outs.one rfl rfl) ⟨rfl, rfl⟩
abbrev yes : Sales → Bool := fun _ => true
theorem sumAll {l : List Sales} (hr : Right l) : Spec Tryz.prog 83 [.sales l, Tr.raw (.func (.func 84) #[] #[])] [] (fun r cs => r = .tup [.int (soldP yes l), .int (cntP yes l)] ∧ cs = []) := sum_spec (p := yes) (g := 84) (caps := []) (cin := []) hr (fun x _ => (every_fn x).lend)
def rate1 (l : List Sales) : Frac × Int := if daysFault l ≠ 0 then (⟨0, 0⟩, daysFault l) else if cntP yes l = 0 then (⟨0, 0⟩, 8) else (frac (soldP yes l) (cntP yes l), 0)
theorem rate_fn (l : List Sales) : PFn Tryz.prog 47 [.sales l] (· = .tup [.agg (rate1 l).1.row, .int (rate1 l).2]) := by
 refine PFn.mk (Spec.body Tryz.func47 rfl rfl (Tryz.ntmps47) rfl fun w0 own0 M => ?_)
 by_cases h0 : daysFault l = 0
 ·have hr := daysFault_right h0
  have hs := sumAll hr
  have hbd := soldP_bd yes hr.sold
  have h400 := hr.len
  by_cases hc : cntP yes l = 0
  ·repeat' (first | refine goH ?_ | refine goV ?_ | refine goB (fun b => ?_) | refine goI ?_ | (refine Cw.k_cond ?_; first | (refine Cw.cond_dec rfl ?_ ?_ <;> intro hc <;> try omega) | refine Cw.cond_bool rfl ?_ ?_ <;> intro hc) | (refine Ops.k_calla ?_; first | (refine Ops.k_callf 82 ?_; refine Ops.callV (checkDays_fn l) (Evs.cons rfl Evs.nil) rfl ?_) | (refine Ops.k_callf 83 ?_; refine Ops.callS hs (Evs.cons rfl (Evs.cons rfl Evs.nil)) (List.Perm.refl _) rfl ?_)) | fail)
   refine Fin.ret (Ent.trans (Ent.setbox (s := 2) rfl goPk) (Ent.take goTk)) (Outs.many rfl (OutL.cons (OutE.agg inferInstance rfl rfl) (OutL.cons (OutE.tmp rfl) OutL.nil)) rfl) ⟨rfl, tup_fi (f := ⟨0, 0⟩) ?_⟩
   unfold rate1
   rw [if_neg (by omega), if_pos hc]
  ·repeat' (first | refine goH ?_ | refine goV ?_ | refine goB (fun b => ?_) | refine goI ?_ | (refine Cw.k_cond ?_; first | (refine Cw.cond_dec rfl ?_ ?_ <;> intro hc <;> try omega) | refine Cw.cond_bool rfl ?_ ?_ <;> intro hc) | (refine Ops.k_calla ?_; first | (refine Ops.k_callf 82 ?_; refine Ops.callV (checkDays_fn l) (Evs.cons rfl Evs.nil) rfl ?_) | (refine Ops.k_callf 83 ?_; refine Ops.callS hs (Evs.cons rfl (Evs.cons rfl Evs.nil)) (List.Perm.refl _) rfl ?_) | (refine Ops.k_callf 85 ?_; refine Ops.callV (fraction_fn _ _ (by omega) (by omega)) (Evs.cons rfl (Evs.cons rfl Evs.nil)) rfl ?_)) | fail)
   refine Fin.ret (Ent.trans (Ent.setbox (s := 2) rfl goPk) (Ent.take goTk)) (Outs.many rfl (OutL.cons (OutE.agg inferInstance rfl rfl) (OutL.cons (OutE.tmp rfl) OutL.nil)) rfl) ⟨rfl, tup_fi (f := frac (soldP yes l) (cntP yes l)) ?_⟩
   unfold rate1
   rw [if_neg (by omega), if_neg hc]
 ·repeat' (first | refine goH ?_ | refine goV ?_ | refine goB (fun b => ?_) | refine goI ?_ | (refine Cw.k_cond ?_; first | (refine Cw.cond_dec rfl ?_ ?_ <;> intro hc <;> try omega) | refine Cw.cond_bool rfl ?_ ?_ <;> intro hc) | (refine Ops.k_calla ?_; first | (refine Ops.k_callf 82 ?_; refine Ops.callV (checkDays_fn l) (Evs.cons rfl Evs.nil) rfl ?_)) | fail)
  refine Fin.ret (Ent.trans (Ent.setbox (s := 2) rfl goPk) (Ent.take goTk)) (Outs.many rfl (OutL.cons (OutE.agg inferInstance rfl rfl) (OutL.cons (OutE.tmp rfl) OutL.nil)) rfl) ⟨rfl, tup_fi (f := ⟨0, 0⟩) ?_⟩
  unfold rate1
  rw [if_pos (by omega)]

end Lg
end
section
set_option linter.all false
set_option maxRecDepth 100000
set_option maxHeartbeats 4000000
namespace Lg
open Go Go.Proofs

structure Lot where
 id : ByteArray
 prod : ByteArray
 exp : Int
 many : Int
def Lot.row (x : Lot) : List Tr := [.str x.id, .str x.prod, .int x.exp, .int x.many]
abbrev Tr.lots (l : List Lot) : Tr := Tr.sl 4 (l.map Lot.row)
def lotErr (x : Lot) : Int := if isKey x.prod = false then 5 else if x.exp < 0 ∨ 4000 < x.exp ∨ x.many < 0 ∨ 100000 < x.many then 1 else 0
def lotE (l : List Lot) (k : Nat) : Int := match l[k]? with
 |none => 0
 |some x => if isKey x.id = false then 5 else if prevB (fun x y => strLe x.id y.id) l k x then 7 else lotErr x
def lotsErr (l : List Lot) : Int := if l.length > 500 then 2 else firstE (lotE l) 0 l.length

theorem lotFault_fn (x : Lot) : PFn Tryz.prog 122 [.agg x.row] (· = .int (lotErr x)) := by
 refine PFn.mk (Spec.body Tryz.func122 rfl rfl (Tryz.ntmps122) rfl fun w0 own0 M => ?_)
 have hd := day_fn x.exp
 have ho := out_fn x.many 0 100000
 have hk := key_fn x.prod
 unfold Lot.row
 cases h1 : isKey x.prod
 ·rw [h1] at hk
  repeat' (first | refine goH ?_ | refine goV ?_ | refine goB (fun b => ?_) | refine goG ?_ | (refine Ops.k_guard ?_; first | (refine Ops.guard_dec rfl rfl ?_ ?_ <;> intro hc <;> try omega) | refine Ops.guard_split rfl rfl ?_ ?_ <;> intro hc) | refine goI ?_ | (refine Cw.k_cond ?_; first | (refine Cw.cond_dec rfl ?_ ?_ <;> intro hc <;> try omega) | refine Cw.cond_bool rfl ?_ ?_ <;> intro hc) | (refine Ops.k_calla ?_; first | (refine Ops.k_callf 41 ?_; refine Ops.callV hk (Evs.cons rfl Evs.nil) rfl ?_)) | fail)
  refine Fin.ret (Ent.take goTk) (Outs.one rfl rfl) ⟨rfl, congrArg Tr.int ?_⟩
  simp [lotErr, h1]
 rw [h1] at hk
 by_cases h2 : x.exp < 0 ∨ 4000 < x.exp
 ·rw [show dayB x.exp = false by simp [dayB, outB]; omega] at hd
  repeat' (first | refine goH ?_ | refine goV ?_ | refine goB (fun b => ?_) | refine goG ?_ | (refine Ops.k_guard ?_; first | (refine Ops.guard_dec rfl rfl ?_ ?_ <;> intro hc <;> try omega) | refine Ops.guard_split rfl rfl ?_ ?_ <;> intro hc) | refine goI ?_ | (refine Cw.k_cond ?_; first | (refine Cw.cond_dec rfl ?_ ?_ <;> intro hc <;> try omega) | refine Cw.cond_bool rfl ?_ ?_ <;> intro hc) | (refine Ops.k_calla ?_; first | (refine Ops.k_callf 41 ?_; refine Ops.callV hk (Evs.cons rfl Evs.nil) rfl ?_) | (refine Ops.k_callf 71 ?_; refine Ops.callV hd (Evs.cons rfl Evs.nil) rfl ?_)) | fail)
  refine Fin.ret (Ent.take goTk) (Outs.one rfl rfl) ⟨rfl, congrArg Tr.int ?_⟩
  unfold lotErr
  rw [if_neg (by simp [h1]), if_pos (by omega)]
 rw [show dayB x.exp = true by simp [dayB, outB]; omega] at hd
 by_cases h3 : x.many < 0 ∨ 100000 < x.many
 ·rw [show outB x.many 0 100000 = true by simp [outB]; omega] at ho
  repeat' (first | refine goH ?_ | refine goV ?_ | refine goB (fun b => ?_) | refine goG ?_ | (refine Ops.k_guard ?_; first | (refine Ops.guard_dec rfl rfl ?_ ?_ <;> intro hc <;> try omega) | refine Ops.guard_split rfl rfl ?_ ?_ <;> intro hc) | refine goI ?_ | (refine Cw.k_cond ?_; first | (refine Cw.cond_dec rfl ?_ ?_ <;> intro hc <;> try omega) | refine Cw.cond_bool rfl ?_ ?_ <;> intro hc) | (refine Ops.k_calla ?_; first | (refine Ops.k_callf 41 ?_; refine Ops.callV hk (Evs.cons rfl Evs.nil) rfl ?_) | (refine Ops.k_callf 71 ?_; refine Ops.callV hd (Evs.cons rfl Evs.nil) rfl ?_) | (refine Ops.k_callf 19 ?_; refine Ops.callV ho (Evs.cons rfl (Evs.cons rfl (Evs.cons rfl Evs.nil))) rfl ?_)) | fail)
  refine Fin.ret (Ent.take goTk) (Outs.one rfl rfl) ⟨rfl, congrArg Tr.int ?_⟩
  unfold lotErr
  rw [if_neg (by simp [h1]), if_pos (by omega)]
 ·rw [show outB x.many 0 100000 = false by simp [outB]; omega] at ho
  repeat' (first | refine goH ?_ | refine goV ?_ | refine goB (fun b => ?_) | refine goG ?_ | (refine Ops.k_guard ?_; first | (refine Ops.guard_dec rfl rfl ?_ ?_ <;> intro hc <;> try omega) | refine Ops.guard_split rfl rfl ?_ ?_ <;> intro hc) | refine goI ?_ | (refine Cw.k_cond ?_; first | (refine Cw.cond_dec rfl ?_ ?_ <;> intro hc <;> try omega) | refine Cw.cond_bool rfl ?_ ?_ <;> intro hc) | (refine Ops.k_calla ?_; first | (refine Ops.k_callf 41 ?_; refine Ops.callV hk (Evs.cons rfl Evs.nil) rfl ?_) | (refine Ops.k_callf 71 ?_; refine Ops.callV hd (Evs.cons rfl Evs.nil) rfl ?_) | (refine Ops.k_callf 19 ?_; refine Ops.callV ho (Evs.cons rfl (Evs.cons rfl (Evs.cons rfl Evs.nil))) rfl ?_)) | fail)
  refine Fin.ret (Ent.take goTk) (Outs.one rfl rfl) ⟨rfl, congrArg Tr.int ?_⟩
  unfold lotErr
  rw [if_neg (by simp [h1]), if_neg (by omega)]

theorem checkLots_fn (l : List Lot) (hl : l.length ≤ 1000000) : PFn Tryz.prog 86 [.lots l] (· = .int (lotsErr l)) := by
 refine PFn.mk (Spec.body Tryz.func86 rfl rfl (Tryz.ntmps86) rfl fun w0 own0 M => ?_)
 have hL : (l.map Lot.row).length = l.length := List.length_map _
 by_cases h500 : l.length > 500
 ·repeat' (first | refine goH ?_ | refine goV ?_ | refine goB (fun b => ?_) | refine goG ?_ | (refine Ops.k_guard ?_; first | (refine Ops.guard_dec rfl rfl ?_ ?_ <;> intro hc <;> try omega) | refine Ops.guard_split rfl rfl ?_ ?_ <;> intro hc) | refine goI ?_ | (refine Cw.k_cond ?_; first | (refine Cw.cond_dec rfl ?_ ?_ <;> intro hc <;> try omega) | refine Cw.cond_bool rfl ?_ ?_ <;> intro hc) | refine goR ?_ | refine goP ?_ | apply PSeq.cons | apply PSeq.yes rfl rfl rfl | exact goW | fail)
  refine Fin.ret (Ent.take goTk) (Outs.one rfl rfl) ⟨rfl, congrArg Tr.int ?_⟩
  unfold lotsErr
  rw [if_pos h500]
 have hV0 : lotsErr l = firstE (lotE l) 0 (l.length - 0) := by unfold lotsErr; rw [if_neg h500]; rfl
 repeat' (first | refine goH ?_ | refine goV ?_ | refine goB (fun b => ?_) | refine goG ?_ | (refine Ops.k_guard ?_; first | (refine Ops.guard_dec rfl rfl ?_ ?_ <;> intro hc <;> try omega) | refine Ops.guard_split rfl rfl ?_ ?_ <;> intro hc) | refine goI ?_ | (refine Cw.k_cond ?_; first | (refine Cw.cond_dec rfl ?_ ?_ <;> intro hc <;> try omega) | refine Cw.cond_bool rfl ?_ ?_ <;> intro hc) | refine goR ?_ | refine goP ?_ | apply PSeq.cons | apply PSeq.yes rfl rfl rfl | exact goW | fail)
 refine Cw.loopI [(0, _), (9, _), (10, _)] _ (fun n e c => ∃ k : Nat, n = l.length - k ∧ (k ≤ l.length ∧ lotsErr l = firstE (lotE l) k (l.length - k)) ∧ e = [(11, .int k)] ∧ c = []) ⟨_, _, _, (Ent.mkP goSub goPm), 0, rfl, ⟨by omega, hV0⟩, rfl, rfl⟩ ?_
 rintro _ _ _ ⟨k, rfl, ⟨hk, hV⟩, rfl, rfl⟩
 by_cases hkl : k < l.length
 ·obtain ⟨x, hx⟩ := at_lt hkl
  have hrow : (l.map Lot.row)[k]? = some [.str x.id, .str x.prod, .int x.exp, .int x.many] := rows_at hx
  have hkey := key_fn x.id
  have hlot := lotFault_fn x
  unfold Lot.row at hlot
  cases k with
  |zero =>
   have he : lotE l 0 = if isKey x.id = false then 5 else lotErr x := by simp [lotE, hx, prevB]
   repeat' (first | refine goH ?_ | refine goV ?_ | refine goB (fun b => ?_) | refine goG ?_ | (refine Ops.k_guard ?_; first | (refine Ops.guard_dec rfl rfl ?_ ?_ <;> intro hc <;> try omega) | refine Ops.guard_split rfl rfl ?_ ?_ <;> intro hc) | refine goI ?_ | (refine Cw.k_cond ?_; first | (refine Cw.cond_dec rfl ?_ ?_ <;> intro hc <;> try omega) | refine Cw.cond_bool rfl ?_ ?_ <;> intro hc) | (refine Ops.k_calla ?_; first | (refine Ops.k_callf 41 ?_; refine Ops.callV hkey (Evs.cons rfl Evs.nil) rfl ?_) | (refine Ops.k_callf 122 ?_; refine Ops.callV hlot (Evs.cons rfl Evs.nil) rfl ?_)) | (apply OpW.k_call; first | (apply OpW.k_callf 41; exact OpW.callV hkey (Evs.cons rfl Evs.nil)) | (apply OpW.k_callf 122; exact OpW.callV hlot (Evs.cons rfl Evs.nil))) | refine goR ?_ | refine goP ?_ | apply PSeq.cons | apply PSeq.yes rfl rfl rfl | exact goW | fail)
   all_goals first | (refine Fin.ret (Ent.take goTk) (Outs.one rfl rfl) ⟨rfl, congrArg Tr.int ?_⟩; exact (hV.trans (firstE_bad hkl (by rw [he]; simp_all) (by first | decide | assumption))).symm) | exact ⟨_, _, _, (Ent.mk goSub goTk), ⟨_, rfl, ⟨by omega, hV.trans (firstE_ok hkl (by rw [he]; simp_all))⟩, rfl, rfl⟩, by omega⟩
  |succ j =>
   obtain ⟨y, hy⟩ := at_lt (l := l) (k := j) (by omega)
   have hrow2 : (l.map Lot.row)[(((j + 1 : Nat) : Int) - 1).toNat]? = some [.str y.id, .str y.prod, .int y.exp, .int y.many] := by rw [show (((j + 1 : Nat) : Int) - 1).toNat = j by omega]; exact rows_at hy
   have he : lotE l (j + 1) = if isKey x.id = false then 5 else if strLt x.id y.id || decide (x.id = y.id) then 7 else lotErr x := by simp [lotE, hx, hy, prevB, strLe]
   repeat' (first | refine goH ?_ | refine goV ?_ | refine goB (fun b => ?_) | refine goG ?_ | (refine Ops.k_guard ?_; first | (refine Ops.guard_dec rfl rfl ?_ ?_ <;> intro hc <;> try omega) | refine Ops.guard_split rfl rfl ?_ ?_ <;> intro hc) | refine goI ?_ | (refine Cw.k_cond ?_; first | (refine Cw.cond_dec rfl ?_ ?_ <;> intro hc <;> try omega) | refine Cw.cond_bool rfl ?_ ?_ <;> intro hc) | (refine Ops.k_calla ?_; first | (refine Ops.k_callf 41 ?_; refine Ops.callV hkey (Evs.cons rfl Evs.nil) rfl ?_) | (refine Ops.k_callf 122 ?_; refine Ops.callV hlot (Evs.cons rfl Evs.nil) rfl ?_)) | (apply OpW.k_call; first | (apply OpW.k_callf 41; exact OpW.callV hkey (Evs.cons rfl Evs.nil)) | (apply OpW.k_callf 122; exact OpW.callV hlot (Evs.cons rfl Evs.nil))) | refine goR ?_ | refine goP ?_ | apply PSeq.cons | apply PSeq.yes rfl rfl rfl | exact goW | fail)
   all_goals first | (refine Fin.ret (Ent.take goTk) (Outs.one rfl rfl) ⟨rfl, congrArg Tr.int ?_⟩; exact (hV.trans (firstE_bad hkl (by rw [he]; simp_all) (by first | decide | assumption))).symm) | exact ⟨_, _, _, (Ent.mk goSub goTk), ⟨_, rfl, ⟨by omega, hV.trans (firstE_ok hkl (by rw [he]; simp_all))⟩, rfl, rfl⟩, by omega⟩
 ·repeat' (first | refine goH ?_ | refine goV ?_ | refine goB (fun b => ?_) | refine goG ?_ | (refine Ops.k_guard ?_; first | (refine Ops.guard_dec rfl rfl ?_ ?_ <;> intro hc <;> try omega) | refine Ops.guard_split rfl rfl ?_ ?_ <;> intro hc) | refine goI ?_ | (refine Cw.k_cond ?_; first | (refine Cw.cond_dec rfl ?_ ?_ <;> intro hc <;> try omega) | refine Cw.cond_bool rfl ?_ ?_ <;> intro hc) | refine goR ?_ | refine goP ?_ | apply PSeq.cons | apply PSeq.yes rfl rfl rfl | exact goW | fail)
  refine Fin.ret (Ent.take goTk) (Outs.one rfl rfl) ⟨rfl, congrArg Tr.int ?_⟩
  rw [hV, firstE_end hkl]
end Lg
end
