/- A part of the proof of a law of this seat: it adds no condition. By an AI agent. -/
import Derived.Test.YtfgcjpkkbhnkgaaGreatDoorOff
section
set_option linter.all false
set_option maxRecDepth 100000
set_option maxHeartbeats 4000000
namespace Lg
open Go Go.Proofs




end Lg
end
section
set_option linter.all false
set_option maxRecDepth 100000
set_option maxHeartbeats 4000000
namespace Lg
open Go Go.Proofs

theorem prBad1_fn (n : Int) : PFn Tryz.prog 123 [.int n] (· = .bool (prBad n)) := by
 refine PFn.mk (Spec.body Tryz.func123 rfl rfl (Tryz.ntmps123) rfl fun w0 own0 M => ?_)
 repeat' (first | refine goH ?_ | refine goV ?_ | refine goI ?_ | (refine Cw.k_cond ?_; first | (refine Cw.cond_dec rfl ?_ ?_ <;> intro hc <;> try omega) | refine Cw.cond_bool rfl ?_ ?_ <;> intro hc) | (refine Ops.k_calla ?_; first | (refine Ops.k_callf 19 ?_; refine Ops.callV (out_fn n (-1000000) 1000000) (Evs.cons rfl (Evs.cons rfl (Evs.cons rfl Evs.nil))) rfl ?_)) | fail)
 exact Fin.ret Ent.refl (Outs.one rfl rfl) ⟨rfl, rfl⟩
/-- bounded lists -/
def OBd (l : List Offer) : Prop := l.length ≤ 1000 ∧ ∀ x ∈ l, x.pr.length ≤ 1000 ∧ x.has.length ≤ 1000 ∧ x.hates.length ≤ 1000

theorem checkOffers_fn (l : List Offer) (hl : OBd l) : PFn Tryz.prog 87 [.offers l] (· = .int (offersE l)) := by
 refine PFn.mk (Spec.body Tryz.func87 rfl rfl (Tryz.ntmps87) rfl fun w0 own0 M => ?_)
 have hL : (l.map Offer.row).length = l.length := List.length_map _
 have hll := hl.1
 by_cases h30 : l.length > 30
 ·repeat' (first | refine goH ?_ | refine goV ?_ | refine goB (fun b => ?_) | refine goG ?_ | (refine Ops.k_guard ?_; first | (refine Ops.guard_dec rfl rfl ?_ ?_ <;> intro hc <;> try omega) | refine Ops.guard_split rfl rfl ?_ ?_ <;> intro hc) | refine goI ?_ | (refine Cw.k_cond ?_; first | (refine Cw.cond_dec rfl ?_ ?_ <;> intro hc <;> try omega) | refine Cw.cond_bool rfl ?_ ?_ <;> intro hc) | refine goR ?_ | refine goP ?_ | apply PSeq.cons | apply PSeq.yes rfl rfl rfl | exact goW | fail)
  refine Fin.ret (Ent.take goTk) (Outs.one rfl rfl) ⟨rfl, congrArg Tr.int ?_⟩
  unfold offersE
  rw [if_pos h30]
 have hV0 : offersE l = firstE (offerE l) 0 (l.length - 0) := by unfold offersE; rw [if_neg h30]; rfl
 repeat' (first | refine goH ?_ | refine goV ?_ | refine goB (fun b => ?_) | refine goG ?_ | (refine Ops.k_guard ?_; first | (refine Ops.guard_dec rfl rfl ?_ ?_ <;> intro hc <;> try omega) | refine Ops.guard_split rfl rfl ?_ ?_ <;> intro hc) | refine goI ?_ | (refine Cw.k_cond ?_; first | (refine Cw.cond_dec rfl ?_ ?_ <;> intro hc <;> try omega) | refine Cw.cond_bool rfl ?_ ?_ <;> intro hc) | refine goR ?_ | refine goP ?_ | apply PSeq.cons | apply PSeq.yes rfl rfl rfl | exact goW | fail)
 refine Cw.loopI [(0, _), (9, _), (10, _)] _ (fun n e c => ∃ k : Nat, n = l.length - k ∧ (k ≤ l.length ∧ offersE l = firstE (offerE l) k (l.length - k)) ∧ e = [(11, .int k)] ∧ c = []) ⟨_, _, _, (Ent.mkP goSub goPm), 0, rfl, ⟨by omega, hV0⟩, rfl, rfl⟩ ?_
 rintro _ _ _ ⟨k, rfl, ⟨hk, hV⟩, rfl, rfl⟩
 by_cases hkl : k < l.length
 rotate_left
 ·repeat' (first | refine goH ?_ | refine goV ?_ | refine goB (fun b => ?_) | refine goG ?_ | (refine Ops.k_guard ?_; first | (refine Ops.guard_dec rfl rfl ?_ ?_ <;> intro hc <;> try omega) | refine Ops.guard_split rfl rfl ?_ ?_ <;> intro hc) | refine goI ?_ | (refine Cw.k_cond ?_; first | (refine Cw.cond_dec rfl ?_ ?_ <;> intro hc <;> try omega) | refine Cw.cond_bool rfl ?_ ?_ <;> intro hc) | refine goR ?_ | refine goP ?_ | apply PSeq.cons | apply PSeq.yes rfl rfl rfl | exact goW | fail)
  refine Fin.ret (Ent.take goTk) (Outs.one rfl rfl) ⟨rfl, congrArg Tr.int ?_⟩
  rw [hV, firstE_end hkl]
 obtain ⟨x, hx⟩ := at_lt hkl
 obtain ⟨b1, b2, b3⟩ := hl.2 x (List.mem_of_getElem? hx)
 have hP := intRows_len x.pr
 have hH1 := strRows_len x.has
 have hH2 := strRows_len x.hates
 have hrow : (l.map Offer.row)[k]? = some [.str x.key, .str x.group, .ints x.pr, .strs x.has, .strs x.hates] := rows_at hx
 have hkey := key_fn x.key
 have hgrp := key_fn x.group
 have hany : Spec Tryz.prog 68 [.ints x.pr, Tr.raw (.func (.func 123) #[] #[])] [] (fun r cs => r = .bool (x.pr.any prBad) ∧ cs = []) := containsFunc_int (p := prBad) (g := 123) (caps := []) (cin := []) (l := x.pr) (by omega) (fun n _ => (prBad1_fn n).lend)
 have fin : ∀ c, offerE l k = c → c ≠ 0 → offersE l = c := fun c h1 h2 => hV.trans (firstE_bad hkl h1 h2)
 have nxt : offerE l k = 0 → offersE l = firstE (offerE l) (k + 1) (l.length - (k + 1)) := fun h1 => hV.trans (firstE_ok hkl h1)
 have hoe : offerE l k = if isKey x.key = false then 5 else if prevB (fun x y => strLe x.key y.key) l k x then 7 else if isKey x.group = false then 5 else if prE x.pr ≠ 0 then prE x.pr else if keysE x.has ≠ 0 then keysE x.has else keysE x.hates := by unfold offerE; rw [hx]
 clear hV
 by_cases g1 : isKey x.key = false
 ·rw [g1] at hkey
  rw [if_pos g1] at hoe
  repeat' (first | refine goH ?_ | refine goV ?_ | refine goB (fun b => ?_) | refine goG ?_ | (refine Ops.k_guard ?_; first | (refine Ops.guard_dec rfl rfl ?_ ?_ <;> intro hc <;> try omega) | refine Ops.guard_split rfl rfl ?_ ?_ <;> intro hc) | refine goI ?_ | (refine Cw.k_cond ?_; first | (refine Cw.cond_dec rfl ?_ ?_ <;> intro hc <;> try omega) | refine Cw.cond_bool rfl ?_ ?_ <;> intro hc) | (refine Ops.k_calla ?_; first | (refine Ops.k_callf 41 ?_; refine Ops.callV hkey (Evs.cons rfl Evs.nil) rfl ?_)) | (apply OpW.k_call; first | (apply OpW.k_callf 41; exact OpW.callV hkey (Evs.cons rfl Evs.nil))) | refine goR ?_ | refine goP ?_ | apply PSeq.cons | apply PSeq.yes rfl rfl rfl | exact goW | fail)
  exact Fin.ret (Ent.take goTk) (Outs.one rfl rfl) ⟨rfl, congrArg Tr.int (fin 5 hoe (by decide)).symm⟩
 rw [if_neg g1] at hoe
 replace g1 : isKey x.key = true := by simpa using g1
 rw [g1] at hkey
 -- the rest, once the order is known
 obtain ⟨pb, hpb⟩ : ∃ b, prevB (fun x y => strLe x.key y.key) l k x = b := ⟨_, rfl⟩
 have hprev : k = 0 ∧ pb = false ∨ ∃ (j : Nat) (y : Offer), k = j + 1 ∧ (l.map Offer.row)[(((j + 1 : Nat) : Int) - 1).toNat]? = some [.str y.key, .str y.group, .ints y.pr, .strs y.has, .strs y.hates] ∧ pb = (strLt x.key y.key || decide (x.key = y.key)) := by
  cases k with
  |zero => exact .inl ⟨rfl, by rw [← hpb]; rfl⟩
  |succ j =>
   obtain ⟨y, hy⟩ := at_lt (l := l) (k := j) (by omega)
   exact .inr ⟨j, y, rfl, by rw [show (((j + 1 : Nat) : Int) - 1).toNat = j by omega]; exact rows_at hy, by rw [← hpb]; simp [prevB, hy, strLe]⟩
 rw [hpb] at hoe
 clear hpb
 cases pb
 rotate_left
 ·rcases hprev with ⟨_, h⟩ | ⟨j, y, rfl, hrow2, h⟩
  ·cases h
  rw [if_pos rfl] at hoe
  have h := h.symm
  repeat' (first | refine goH ?_ | refine goV ?_ | refine goB (fun b => ?_) | refine goG ?_ | (refine Ops.k_guard ?_; first | (refine Ops.guard_dec rfl rfl ?_ ?_ <;> intro hc <;> try omega) | refine Ops.guard_split rfl rfl ?_ ?_ <;> intro hc) | refine goI ?_ | (refine Cw.k_cond ?_; first | (refine Cw.cond_dec rfl ?_ ?_ <;> intro hc <;> try omega) | refine Cw.cond_bool rfl ?_ ?_ <;> intro hc) | (refine Ops.k_calla ?_; first | (refine Ops.k_callf 41 ?_; refine Ops.callV hkey (Evs.cons rfl Evs.nil) rfl ?_)) | (apply OpW.k_call; first | (apply OpW.k_callf 41; exact OpW.callV hkey (Evs.cons rfl Evs.nil))) | refine goR ?_ | refine goP ?_ | apply PSeq.cons | apply PSeq.yes rfl rfl rfl | exact goW | fail)
  all_goals first | exact Bool.noConfusion (h.symm.trans hc) | exact Fin.ret (Ent.take goTk) (Outs.one rfl rfl) ⟨rfl, congrArg Tr.int (fin 7 hoe (by decide)).symm⟩
 rw [if_neg (by decide)] at hoe
 -- the case of the group
 by_cases g2 : isKey x.group = false
 ·rw [g2] at hgrp
  rw [if_pos g2] at hoe
  rcases hprev with ⟨rfl, _⟩ | ⟨j, y, rfl, hrow2, h⟩
  ·repeat' (first | refine goH ?_ | refine goV ?_ | refine goB (fun b => ?_) | refine goG ?_ | (refine Ops.k_guard ?_; first | (refine Ops.guard_dec rfl rfl ?_ ?_ <;> intro hc <;> try omega) | refine Ops.guard_split rfl rfl ?_ ?_ <;> intro hc) | refine goI ?_ | (refine Cw.k_cond ?_; first | (refine Cw.cond_dec rfl ?_ ?_ <;> intro hc <;> try omega) | refine Cw.cond_bool rfl ?_ ?_ <;> intro hc) | (refine Ops.k_calla ?_; first | (refine Ops.k_callf 41 ?_; refine Ops.callV hkey (Evs.cons rfl Evs.nil) rfl ?_) | (refine Ops.k_callf 41 ?_; refine Ops.callV hgrp (Evs.cons rfl Evs.nil) rfl ?_)) | (apply OpW.k_call; first | (apply OpW.k_callf 41; exact OpW.callV hkey (Evs.cons rfl Evs.nil)) | (apply OpW.k_callf 41; exact OpW.callV hgrp (Evs.cons rfl Evs.nil))) | refine goR ?_ | refine goP ?_ | apply PSeq.cons | apply PSeq.yes rfl rfl rfl | exact goW | fail)
   exact Fin.ret (Ent.take goTk) (Outs.one rfl rfl) ⟨rfl, congrArg Tr.int (fin 5 hoe (by decide)).symm⟩
  ·have h := h.symm
   repeat' (first | refine goH ?_ | refine goV ?_ | refine goB (fun b => ?_) | refine goG ?_ | (refine Ops.k_guard ?_; first | (refine Ops.guard_dec rfl rfl ?_ ?_ <;> intro hc <;> try omega) | refine Ops.guard_split rfl rfl ?_ ?_ <;> intro hc) | refine goI ?_ | (refine Cw.k_cond ?_; first | (refine Cw.cond_dec rfl ?_ ?_ <;> intro hc <;> try omega) | refine Cw.cond_bool rfl ?_ ?_ <;> intro hc) | (refine Ops.k_calla ?_; first | (refine Ops.k_callf 41 ?_; refine Ops.callV hkey (Evs.cons rfl Evs.nil) rfl ?_) | (refine Ops.k_callf 41 ?_; refine Ops.callV hgrp (Evs.cons rfl Evs.nil) rfl ?_)) | (apply OpW.k_call; first | (apply OpW.k_callf 41; exact OpW.callV hkey (Evs.cons rfl Evs.nil)) | (apply OpW.k_callf 41; exact OpW.callV hgrp (Evs.cons rfl Evs.nil))) | refine goR ?_ | refine goP ?_ | apply PSeq.cons | apply PSeq.yes rfl rfl rfl | exact goW | fail)
   all_goals first | exact Bool.noConfusion (h.symm.trans hc) | exact Fin.ret (Ent.take goTk) (Outs.one rfl rfl) ⟨rfl, congrArg Tr.int (fin 5 hoe (by decide)).symm⟩
 rw [if_neg g2] at hoe
 replace g2 : isKey x.group = true := by simpa using g2
 rw [g2] at hgrp
 by_cases g3 : prE x.pr ≠ 0
 ·rw [if_pos g3] at hoe
  have hfin := fin _ hoe g3
  have hpe : prE x.pr = if x.pr.length = 0 then 8 else if x.pr.length > 10 then 2 else if x.pr.any prBad then 1 else 0 := rfl
  rw [hpe] at hfin g3
  by_cases q1 : x.pr.length = 0
  ·rw [if_pos q1] at hfin
   rcases hprev with ⟨rfl, _⟩ | ⟨j, y, rfl, hrow2, h⟩
   ·repeat' (first | refine goH ?_ | refine goV ?_ | refine goB (fun b => ?_) | refine goG ?_ | (refine Ops.k_guard ?_; first | (refine Ops.guard_dec rfl rfl ?_ ?_ <;> intro hc <;> try omega) | refine Ops.guard_split rfl rfl ?_ ?_ <;> intro hc) | refine goI ?_ | (refine Cw.k_cond ?_; first | (refine Cw.cond_dec rfl ?_ ?_ <;> intro hc <;> try omega) | refine Cw.cond_bool rfl ?_ ?_ <;> intro hc) | (refine Ops.k_calla ?_; first | (refine Ops.k_callf 41 ?_; refine Ops.callV hkey (Evs.cons rfl Evs.nil) rfl ?_) | (refine Ops.k_callf 41 ?_; refine Ops.callV hgrp (Evs.cons rfl Evs.nil) rfl ?_)) | (apply OpW.k_call; first | (apply OpW.k_callf 41; exact OpW.callV hkey (Evs.cons rfl Evs.nil)) | (apply OpW.k_callf 41; exact OpW.callV hgrp (Evs.cons rfl Evs.nil))) | refine goR ?_ | refine goP ?_ | apply PSeq.cons | apply PSeq.yes rfl rfl rfl | exact goW | fail)
    exact Fin.ret (Ent.take goTk) (Outs.one rfl rfl) ⟨rfl, congrArg Tr.int hfin.symm⟩
   ·have h := h.symm
    repeat' (first | refine goH ?_ | refine goV ?_ | refine goB (fun b => ?_) | refine goG ?_ | (refine Ops.k_guard ?_; first | (refine Ops.guard_dec rfl rfl ?_ ?_ <;> intro hc <;> try omega) | refine Ops.guard_split rfl rfl ?_ ?_ <;> intro hc) | refine goI ?_ | (refine Cw.k_cond ?_; first | (refine Cw.cond_dec rfl ?_ ?_ <;> intro hc <;> try omega) | refine Cw.cond_bool rfl ?_ ?_ <;> intro hc) | (refine Ops.k_calla ?_; first | (refine Ops.k_callf 41 ?_; refine Ops.callV hkey (Evs.cons rfl Evs.nil) rfl ?_) | (refine Ops.k_callf 41 ?_; refine Ops.callV hgrp (Evs.cons rfl Evs.nil) rfl ?_)) | (apply OpW.k_call; first | (apply OpW.k_callf 41; exact OpW.callV hkey (Evs.cons rfl Evs.nil)) | (apply OpW.k_callf 41; exact OpW.callV hgrp (Evs.cons rfl Evs.nil))) | refine goR ?_ | refine goP ?_ | apply PSeq.cons | apply PSeq.yes rfl rfl rfl | exact goW | fail)
    all_goals first | exact Bool.noConfusion (h.symm.trans hc) | exact Fin.ret (Ent.take goTk) (Outs.one rfl rfl) ⟨rfl, congrArg Tr.int hfin.symm⟩
  by_cases q2 : x.pr.length > 10
  ·rw [if_neg q1, if_pos q2] at hfin
   rcases hprev with ⟨rfl, _⟩ | ⟨j, y, rfl, hrow2, h⟩
   ·repeat' (first | refine goH ?_ | refine goV ?_ | refine goB (fun b => ?_) | refine goG ?_ | (refine Ops.k_guard ?_; first | (refine Ops.guard_dec rfl rfl ?_ ?_ <;> intro hc <;> try omega) | refine Ops.guard_split rfl rfl ?_ ?_ <;> intro hc) | refine goI ?_ | (refine Cw.k_cond ?_; first | (refine Cw.cond_dec rfl ?_ ?_ <;> intro hc <;> try omega) | refine Cw.cond_bool rfl ?_ ?_ <;> intro hc) | (refine Ops.k_calla ?_; first | (refine Ops.k_callf 41 ?_; refine Ops.callV hkey (Evs.cons rfl Evs.nil) rfl ?_) | (refine Ops.k_callf 41 ?_; refine Ops.callV hgrp (Evs.cons rfl Evs.nil) rfl ?_)) | (apply OpW.k_call; first | (apply OpW.k_callf 41; exact OpW.callV hkey (Evs.cons rfl Evs.nil)) | (apply OpW.k_callf 41; exact OpW.callV hgrp (Evs.cons rfl Evs.nil))) | refine goR ?_ | refine goP ?_ | apply PSeq.cons | apply PSeq.yes rfl rfl rfl | exact goW | fail)
    exact Fin.ret (Ent.take goTk) (Outs.one rfl rfl) ⟨rfl, congrArg Tr.int hfin.symm⟩
   ·have h := h.symm
    repeat' (first | refine goH ?_ | refine goV ?_ | refine goB (fun b => ?_) | refine goG ?_ | (refine Ops.k_guard ?_; first | (refine Ops.guard_dec rfl rfl ?_ ?_ <;> intro hc <;> try omega) | refine Ops.guard_split rfl rfl ?_ ?_ <;> intro hc) | refine goI ?_ | (refine Cw.k_cond ?_; first | (refine Cw.cond_dec rfl ?_ ?_ <;> intro hc <;> try omega) | refine Cw.cond_bool rfl ?_ ?_ <;> intro hc) | (refine Ops.k_calla ?_; first | (refine Ops.k_callf 41 ?_; refine Ops.callV hkey (Evs.cons rfl Evs.nil) rfl ?_) | (refine Ops.k_callf 41 ?_; refine Ops.callV hgrp (Evs.cons rfl Evs.nil) rfl ?_)) | (apply OpW.k_call; first | (apply OpW.k_callf 41; exact OpW.callV hkey (Evs.cons rfl Evs.nil)) | (apply OpW.k_callf 41; exact OpW.callV hgrp (Evs.cons rfl Evs.nil))) | refine goR ?_ | refine goP ?_ | apply PSeq.cons | apply PSeq.yes rfl rfl rfl | exact goW | fail)
    all_goals first | exact Bool.noConfusion (h.symm.trans hc) | exact Fin.ret (Ent.take goTk) (Outs.one rfl rfl) ⟨rfl, congrArg Tr.int hfin.symm⟩
  rw [if_neg q1, if_neg q2] at hfin g3
  cases q3 : x.pr.any prBad
  ·rw [q3] at g3; exact absurd rfl g3
  rw [q3] at hfin hany
  rw [if_pos rfl] at hfin
  rcases hprev with ⟨rfl, _⟩ | ⟨j, y, rfl, hrow2, h⟩
  ·repeat' (first | refine goH ?_ | refine goV ?_ | refine goB (fun b => ?_) | refine goG ?_ | (refine Ops.k_guard ?_; first | (refine Ops.guard_dec rfl rfl ?_ ?_ <;> intro hc <;> try omega) | refine Ops.guard_split rfl rfl ?_ ?_ <;> intro hc) | refine goI ?_ | (refine Cw.k_cond ?_; first | (refine Cw.cond_dec rfl ?_ ?_ <;> intro hc <;> try omega) | refine Cw.cond_bool rfl ?_ ?_ <;> intro hc) | (refine Ops.k_calla ?_; first | (refine Ops.k_callf 41 ?_; refine Ops.callV hkey (Evs.cons rfl Evs.nil) rfl ?_) | (refine Ops.k_callf 41 ?_; refine Ops.callV hgrp (Evs.cons rfl Evs.nil) rfl ?_) | (refine Ops.k_callf 68 ?_; refine Ops.callS hany (Evs.cons rfl (Evs.cons rfl Evs.nil)) goPk rfl ?_)) | (apply OpW.k_call; first | (apply OpW.k_callf 41; exact OpW.callV hkey (Evs.cons rfl Evs.nil)) | (apply OpW.k_callf 41; exact OpW.callV hgrp (Evs.cons rfl Evs.nil)) | (apply OpW.k_callf 68; exact OpW.callS hany (Evs.cons rfl (Evs.cons rfl Evs.nil)) goPk)) | refine goR ?_ | refine goP ?_ | apply PSeq.cons | apply PSeq.yes rfl rfl rfl | exact goW | fail)
   exact Fin.ret (Ent.take goTk) (Outs.one rfl rfl) ⟨rfl, congrArg Tr.int hfin.symm⟩
  ·have h := h.symm
   repeat' (first | refine goH ?_ | refine goV ?_ | refine goB (fun b => ?_) | refine goG ?_ | (refine Ops.k_guard ?_; first | (refine Ops.guard_dec rfl rfl ?_ ?_ <;> intro hc <;> try omega) | refine Ops.guard_split rfl rfl ?_ ?_ <;> intro hc) | refine goI ?_ | (refine Cw.k_cond ?_; first | (refine Cw.cond_dec rfl ?_ ?_ <;> intro hc <;> try omega) | refine Cw.cond_bool rfl ?_ ?_ <;> intro hc) | (refine Ops.k_calla ?_; first | (refine Ops.k_callf 41 ?_; refine Ops.callV hkey (Evs.cons rfl Evs.nil) rfl ?_) | (refine Ops.k_callf 41 ?_; refine Ops.callV hgrp (Evs.cons rfl Evs.nil) rfl ?_) | (refine Ops.k_callf 68 ?_; refine Ops.callS hany (Evs.cons rfl (Evs.cons rfl Evs.nil)) goPk rfl ?_)) | (apply OpW.k_call; first | (apply OpW.k_callf 41; exact OpW.callV hkey (Evs.cons rfl Evs.nil)) | (apply OpW.k_callf 41; exact OpW.callV hgrp (Evs.cons rfl Evs.nil)) | (apply OpW.k_callf 68; exact OpW.callS hany (Evs.cons rfl (Evs.cons rfl Evs.nil)) goPk)) | refine goR ?_ | refine goP ?_ | apply PSeq.cons | apply PSeq.yes rfl rfl rfl | exact goW | fail)
   all_goals first | exact Bool.noConfusion (h.symm.trans hc) | exact Fin.ret (Ent.take goTk) (Outs.one rfl rfl) ⟨rfl, congrArg Tr.int hfin.symm⟩
 rw [if_neg g3] at hoe
 have hpe : prE x.pr = if x.pr.length = 0 then 8 else if x.pr.length > 10 then 2 else if x.pr.any prBad then 1 else 0 := rfl
 have g30 : prE x.pr = 0 := by omega
 have q1 : ¬ x.pr.length = 0 := fun h => by rw [hpe, if_pos h] at g30; omega
 rw [if_neg q1] at hpe
 have q2 : ¬ x.pr.length > 10 := fun h => by rw [hpe, if_pos h] at g30; omega
 rw [if_neg q2] at hpe
 have q3 : x.pr.any prBad = false := by
  cases q : x.pr.any prBad
  ·rfl
  ·rw [hpe, q, if_pos rfl] at g30; omega
 rw [q3] at hany
 clear hpe g3 g30
 have k1 := keysFault_fn x.has (by omega)
 have k2 := keysFault_fn x.hates (by omega)
 have k3 := cmpOr_fn [keysE x.has, keysE x.hates] (by simp)
 have ho : orI [keysE x.has, keysE x.hates] = offerE l k := by
  rw [hoe, orI_cons]
  by_cases h : keysE x.has ≠ 0
  ·rw [if_pos h, if_pos h]
  ·rw [if_neg h, if_neg h, orI_cons]
   by_cases h2 : keysE x.hates ≠ 0
   ·rw [if_pos h2]
   ·rw [if_neg h2, orI]; omega
 rw [ho] at k3
 by_cases g4 : offerE l k = 0
 ·rw [g4] at k3
  rcases hprev with ⟨rfl, _⟩ | ⟨j, y, rfl, hrow2, h⟩
  ·repeat' (first | refine goH ?_ | refine goV ?_ | refine goB (fun b => ?_) | refine goG ?_ | (refine Ops.k_guard ?_; first | (refine Ops.guard_dec rfl rfl ?_ ?_ <;> intro hc <;> try omega) | refine Ops.guard_split rfl rfl ?_ ?_ <;> intro hc) | refine goI ?_ | (refine Cw.k_cond ?_; first | (refine Cw.cond_dec rfl ?_ ?_ <;> intro hc <;> try omega) | refine Cw.cond_bool rfl ?_ ?_ <;> intro hc) | (refine Ops.k_calla ?_; first | (refine Ops.k_callf 41 ?_; refine Ops.callV hkey (Evs.cons rfl Evs.nil) rfl ?_) | (refine Ops.k_callf 41 ?_; refine Ops.callV hgrp (Evs.cons rfl Evs.nil) rfl ?_) | (refine Ops.k_callf 68 ?_; refine Ops.callS hany (Evs.cons rfl (Evs.cons rfl Evs.nil)) goPk rfl ?_) | (refine Ops.k_callf 124 ?_; refine Ops.callV k1 (Evs.cons rfl Evs.nil) rfl ?_) | (refine Ops.k_callf 124 ?_; refine Ops.callV k2 (Evs.cons rfl Evs.nil) rfl ?_) | (refine Ops.k_callf 24 ?_; refine Ops.callV k3 (Evs.cons rfl Evs.nil) rfl ?_)) | (apply OpW.k_call; first | (apply OpW.k_callf 41; exact OpW.callV hkey (Evs.cons rfl Evs.nil)) | (apply OpW.k_callf 41; exact OpW.callV hgrp (Evs.cons rfl Evs.nil)) | (apply OpW.k_callf 68; exact OpW.callS hany (Evs.cons rfl (Evs.cons rfl Evs.nil)) goPk) | (apply OpW.k_callf 124; exact OpW.callV k1 (Evs.cons rfl Evs.nil)) | (apply OpW.k_callf 124; exact OpW.callV k2 (Evs.cons rfl Evs.nil)) | (apply OpW.k_callf 24; exact OpW.callV k3 (Evs.cons rfl Evs.nil))) | refine goR ?_ | refine goP ?_ | apply PSeq.cons | apply PSeq.yes rfl rfl rfl | exact goW | fail)
   exact ⟨_, _, _, (Ent.mk goSub goTk), ⟨_, rfl, ⟨by omega, nxt g4⟩, rfl, rfl⟩, by omega⟩
  ·have h := h.symm
   repeat' (first | refine goH ?_ | refine goV ?_ | refine goB (fun b => ?_) | refine goG ?_ | (refine Ops.k_guard ?_; first | (refine Ops.guard_dec rfl rfl ?_ ?_ <;> intro hc <;> try omega) | refine Ops.guard_split rfl rfl ?_ ?_ <;> intro hc) | refine goI ?_ | (refine Cw.k_cond ?_; first | (refine Cw.cond_dec rfl ?_ ?_ <;> intro hc <;> try omega) | refine Cw.cond_bool rfl ?_ ?_ <;> intro hc) | (refine Ops.k_calla ?_; first | (refine Ops.k_callf 41 ?_; refine Ops.callV hkey (Evs.cons rfl Evs.nil) rfl ?_) | (refine Ops.k_callf 41 ?_; refine Ops.callV hgrp (Evs.cons rfl Evs.nil) rfl ?_) | (refine Ops.k_callf 68 ?_; refine Ops.callS hany (Evs.cons rfl (Evs.cons rfl Evs.nil)) goPk rfl ?_) | (refine Ops.k_callf 124 ?_; refine Ops.callV k1 (Evs.cons rfl Evs.nil) rfl ?_) | (refine Ops.k_callf 124 ?_; refine Ops.callV k2 (Evs.cons rfl Evs.nil) rfl ?_) | (refine Ops.k_callf 24 ?_; refine Ops.callV k3 (Evs.cons rfl Evs.nil) rfl ?_)) | (apply OpW.k_call; first | (apply OpW.k_callf 41; exact OpW.callV hkey (Evs.cons rfl Evs.nil)) | (apply OpW.k_callf 41; exact OpW.callV hgrp (Evs.cons rfl Evs.nil)) | (apply OpW.k_callf 68; exact OpW.callS hany (Evs.cons rfl (Evs.cons rfl Evs.nil)) goPk) | (apply OpW.k_callf 124; exact OpW.callV k1 (Evs.cons rfl Evs.nil)) | (apply OpW.k_callf 124; exact OpW.callV k2 (Evs.cons rfl Evs.nil)) | (apply OpW.k_callf 24; exact OpW.callV k3 (Evs.cons rfl Evs.nil))) | refine goR ?_ | refine goP ?_ | apply PSeq.cons | apply PSeq.yes rfl rfl rfl | exact goW | fail)
   all_goals first | exact Bool.noConfusion (h.symm.trans hc) | exact ⟨_, _, _, (Ent.mk goSub goTk), ⟨_, rfl, ⟨by omega, nxt g4⟩, rfl, rfl⟩, by omega⟩
 ·have hfin := fin _ rfl g4
  rcases hprev with ⟨rfl, _⟩ | ⟨j, y, rfl, hrow2, h⟩
  ·repeat' (first | refine goH ?_ | refine goV ?_ | refine goB (fun b => ?_) | refine goG ?_ | (refine Ops.k_guard ?_; first | (refine Ops.guard_dec rfl rfl ?_ ?_ <;> intro hc <;> try omega) | refine Ops.guard_split rfl rfl ?_ ?_ <;> intro hc) | refine goI ?_ | (refine Cw.k_cond ?_; first | (refine Cw.cond_dec rfl ?_ ?_ <;> intro hc <;> try omega) | refine Cw.cond_bool rfl ?_ ?_ <;> intro hc) | (refine Ops.k_calla ?_; first | (refine Ops.k_callf 41 ?_; refine Ops.callV hkey (Evs.cons rfl Evs.nil) rfl ?_) | (refine Ops.k_callf 41 ?_; refine Ops.callV hgrp (Evs.cons rfl Evs.nil) rfl ?_) | (refine Ops.k_callf 68 ?_; refine Ops.callS hany (Evs.cons rfl (Evs.cons rfl Evs.nil)) goPk rfl ?_) | (refine Ops.k_callf 124 ?_; refine Ops.callV k1 (Evs.cons rfl Evs.nil) rfl ?_) | (refine Ops.k_callf 124 ?_; refine Ops.callV k2 (Evs.cons rfl Evs.nil) rfl ?_) | (refine Ops.k_callf 24 ?_; refine Ops.callV k3 (Evs.cons rfl Evs.nil) rfl ?_)) | (apply OpW.k_call; first | (apply OpW.k_callf 41; exact OpW.callV hkey (Evs.cons rfl Evs.nil)) | (apply OpW.k_callf 41; exact OpW.callV hgrp (Evs.cons rfl Evs.nil)) | (apply OpW.k_callf 68; exact OpW.callS hany (Evs.cons rfl (Evs.cons rfl Evs.nil)) goPk) | (apply OpW.k_callf 124; exact OpW.callV k1 (Evs.cons rfl Evs.nil)) | (apply OpW.k_callf 124; exact OpW.callV k2 (Evs.cons rfl Evs.nil)) | (apply OpW.k_callf 24; exact OpW.callV k3 (Evs.cons rfl Evs.nil))) | refine goR ?_ | refine goP ?_ | apply PSeq.cons | apply PSeq.yes rfl rfl rfl | exact goW | fail)
   exact Fin.ret (Ent.take goTk) (Outs.one rfl rfl) ⟨rfl, congrArg Tr.int hfin.symm⟩
  ·have h := h.symm
   repeat' (first | refine goH ?_ | refine goV ?_ | refine goB (fun b => ?_) | refine goG ?_ | (refine Ops.k_guard ?_; first | (refine Ops.guard_dec rfl rfl ?_ ?_ <;> intro hc <;> try omega) | refine Ops.guard_split rfl rfl ?_ ?_ <;> intro hc) | refine goI ?_ | (refine Cw.k_cond ?_; first | (refine Cw.cond_dec rfl ?_ ?_ <;> intro hc <;> try omega) | refine Cw.cond_bool rfl ?_ ?_ <;> intro hc) | (refine Ops.k_calla ?_; first | (refine Ops.k_callf 41 ?_; refine Ops.callV hkey (Evs.cons rfl Evs.nil) rfl ?_) | (refine Ops.k_callf 41 ?_; refine Ops.callV hgrp (Evs.cons rfl Evs.nil) rfl ?_) | (refine Ops.k_callf 68 ?_; refine Ops.callS hany (Evs.cons rfl (Evs.cons rfl Evs.nil)) goPk rfl ?_) | (refine Ops.k_callf 124 ?_; refine Ops.callV k1 (Evs.cons rfl Evs.nil) rfl ?_) | (refine Ops.k_callf 124 ?_; refine Ops.callV k2 (Evs.cons rfl Evs.nil) rfl ?_) | (refine Ops.k_callf 24 ?_; refine Ops.callV k3 (Evs.cons rfl Evs.nil) rfl ?_)) | (apply OpW.k_call; first | (apply OpW.k_callf 41; exact OpW.callV hkey (Evs.cons rfl Evs.nil)) | (apply OpW.k_callf 41; exact OpW.callV hgrp (Evs.cons rfl Evs.nil)) | (apply OpW.k_callf 68; exact OpW.callS hany (Evs.cons rfl (Evs.cons rfl Evs.nil)) goPk) | (apply OpW.k_callf 124; exact OpW.callV k1 (Evs.cons rfl Evs.nil)) | (apply OpW.k_callf 124; exact OpW.callV k2 (Evs.cons rfl Evs.nil)) | (apply OpW.k_callf 24; exact OpW.callV k3 (Evs.cons rfl Evs.nil))) | refine goR ?_ | refine goP ?_ | apply PSeq.cons | apply PSeq.yes rfl rfl rfl | exact goW | fail)
   all_goals first | exact Bool.noConfusion (h.symm.trans hc) | exact Fin.ret (Ent.take goTk) (Outs.one rfl rfl) ⟨rfl, congrArg Tr.int hfin.symm⟩
end Lg
end
section
set_option linter.all false
set_option maxRecDepth 100000
set_option maxHeartbeats 4000000
namespace Lg
open Go Go.Proofs

theorem offersE_len {l : List Offer} (h : offersE l = 0) : l.length ≤ 30 := by
 unfold offersE at h
 split at h
 ·omega
 ·omega
theorem offersE_at {l : List Offer} (h : offersE l = 0) {k : Nat} {x : Offer} (hx : l[k]? = some x) : isKey x.key = true ∧ isKey x.group = true ∧ prE x.pr = 0 := by
 unfold offersE at h
 split at h
 ·omega
 ·have hk := (List.getElem?_eq_some_iff.1 hx).1
  have h2 := firstE_zero h k (Nat.zero_le _) (by omega)
  unfold offerE at h2
  rw [hx] at h2
  simp only at h2
  split at h2
  ·omega
  ·rename_i g1
   split at h2
   ·omega
   ·split at h2
    ·omega
    ·rename_i g2
     split at h2
     ·omega
     ·exact ⟨by simpa using g1, by simpa using g2, by omega⟩
theorem prE_ok {l : List Int} (h : prE l = 0) : (1 ≤ l.length ∧ l.length ≤ 10) ∧ ∀ n ∈ l, -1000000 ≤ n ∧ n ≤ 1000000 := by
 unfold prE at h
 split at h
 ·omega
 ·split at h
  ·omega
  ·split at h
   ·omega
   ·rename_i h3
    refine ⟨by omega, fun n hn => ?_⟩
    have : prBad n = false := by
     cases h4 : prBad n
     ·rfl
     ·exact absurd (List.any_eq_true.2 ⟨n, hn, h4⟩) h3
    simp [prBad] at this
    omega
def cE (l : List Offer) (c : List Int) (i : Nat) : Int := match c[i]?, l[i]? with
 |some n, some o => if n < 0 ∨ (o.pr.length : Int) < n then 1 else 0
 |_, _ => 0
def cntsE (l : List Offer) (c : List Int) : Int := if c.length ≠ l.length then 3 else firstE (cE l c) 0 c.length

theorem countsFault_fn (l : List Offer) (hl : OBd l) (c : List Int) (hc : c.length ≤ 1000) : PFn Tryz.prog 88 [.offers l, .ints c] (· = .int (cntsE l c)) := by
 have hL : (l.map Offer.row).length = l.length := List.length_map _
 have hC := intRows_len c
 refine PFn.mk (Spec.body Tryz.func88 rfl rfl (Tryz.ntmps88) rfl fun w0 own0 M => ?_)
 by_cases h1 : c.length = l.length
 rotate_left
 ·have e : cntsE l c = 3 := by unfold cntsE; rw [if_pos h1]
  repeat' (first | refine goH ?_ | refine goV ?_ | refine goI ?_ | (refine Cw.k_cond ?_; first | (refine Cw.cond_dec rfl ?_ ?_ <;> intro hc <;> try omega) | refine Cw.cond_bool rfl ?_ ?_ <;> intro hc) | fail)
  exact Fin.ret Ent.refl (Outs.one rfl rfl) ⟨rfl, congrArg Tr.int e.symm⟩
 have hV0 : cntsE l c = firstE (cE l c) 0 (c.length - 0) := by unfold cntsE; rw [if_neg (by omega)]; rfl
 repeat' (first | refine goH ?_ | refine goV ?_ | refine goI ?_ | (refine Cw.k_cond ?_; first | (refine Cw.cond_dec rfl ?_ ?_ <;> intro hc <;> try omega) | refine Cw.cond_bool rfl ?_ ?_ <;> intro hc) | fail)
 refine Cw.loopI [(0, _), (12, _), (13, _)] _ (fun n e cc => ∃ k : Nat, n = c.length - k ∧ (k ≤ c.length ∧ cntsE l c = firstE (cE l c) k (c.length - k)) ∧ e = [(14, .int k)] ∧ cc = []) ⟨_, _, _, (Ent.mkP goSub goPm), 0, rfl, ⟨by omega, hV0⟩, rfl, rfl⟩ ?_
 rintro _ _ _ ⟨k, rfl, ⟨hk, hV⟩, rfl, rfl⟩
 by_cases hkl : k < c.length
 ·obtain ⟨n, hn⟩ := at_lt hkl
  obtain ⟨o, ho⟩ := at_lt (l := l) (k := k) (by omega)
  have hrow := intRows_at hn
  have hrow2 : (l.map Offer.row)[((k : Nat) : Int).toNat]? = some [.str o.key, .str o.group, .ints o.pr, .strs o.has, .strs o.hates] := rows_at ho
  have hP := intRows_len o.pr
  have hob := (hl.2 o (List.mem_of_getElem? ho)).1
  have he : cE l c k = if n < 0 ∨ (o.pr.length : Int) < n then 1 else 0 := by unfold cE; rw [hn, ho]
  by_cases hb : n < 0 ∨ (o.pr.length : Int) < n
  ·rw [if_pos hb] at he
   have hfin := hV.trans (firstE_bad hkl he (by decide))
   by_cases hb2 : n < 0
   ·repeat' (first | refine goH ?_ | refine goV ?_ | refine goI ?_ | (refine Cw.k_cond ?_; first | (refine Cw.cond_dec rfl ?_ ?_ <;> intro hc <;> try omega) | refine Cw.cond_bool rfl ?_ ?_ <;> intro hc) | (refine Ops.k_calla ?_; first | (refine Ops.k_callf 19 ?_; refine Ops.callV (out_t n 0 (intRows o.pr).length (by omega)) (Evs.cons rfl (Evs.cons rfl (Evs.cons rfl Evs.nil))) rfl ?_)) | fail)
    exact Fin.ret Ent.refl (Outs.one rfl rfl) ⟨rfl, congrArg Tr.int hfin.symm⟩
   ·have hb3 : (o.pr.length : Int) < n := by omega
    repeat' (first | refine goH ?_ | refine goV ?_ | refine goI ?_ | (refine Cw.k_cond ?_; first | (refine Cw.cond_dec rfl ?_ ?_ <;> intro hc <;> try omega) | refine Cw.cond_bool rfl ?_ ?_ <;> intro hc) | (refine Ops.k_calla ?_; first | (refine Ops.k_callf 19 ?_; refine Ops.callV (out_t n 0 (intRows o.pr).length (by omega)) (Evs.cons rfl (Evs.cons rfl (Evs.cons rfl Evs.nil))) rfl ?_)) | fail)
    exact Fin.ret Ent.refl (Outs.one rfl rfl) ⟨rfl, congrArg Tr.int hfin.symm⟩
  ·rw [if_neg hb] at he
   repeat' (first | refine goH ?_ | refine goV ?_ | refine goI ?_ | (refine Cw.k_cond ?_; first | (refine Cw.cond_dec rfl ?_ ?_ <;> intro hc <;> try omega) | refine Cw.cond_bool rfl ?_ ?_ <;> intro hc) | (refine Ops.k_calla ?_; first | (refine Ops.k_callf 19 ?_; refine Ops.callV (out_f n 0 (intRows o.pr).length (by omega)) (Evs.cons rfl (Evs.cons rfl (Evs.cons rfl Evs.nil))) rfl ?_)) | fail)
   exact ⟨_, _, _, (Ent.mk goSub goTk), ⟨k + 1, rfl, ⟨by omega, hV.trans (firstE_ok hkl he)⟩, rfl, rfl⟩, by omega⟩
 ·repeat' (first | refine goH ?_ | refine goV ?_ | refine goI ?_ | (refine Cw.k_cond ?_; first | (refine Cw.cond_dec rfl ?_ ?_ <;> intro hc <;> try omega) | refine Cw.cond_bool rfl ?_ ?_ <;> intro hc) | fail)
  refine Fin.ret Ent.refl (Outs.one rfl rfl) ⟨rfl, congrArg Tr.int ?_⟩
  rw [hV, firstE_end hkl]

def sumLY (l : List Int) : Int := sumF (fun x => x) l
theorem sumLY_bd {l : List Int} (h : ∀ n ∈ l, -1000000 ≤ n ∧ n ≤ 1000000) : -(1000000 * (l.length : Int)) ≤ sumLY l ∧ sumLY l ≤ 1000000 * (l.length : Int) := by
 induction l with
 |nil => simp [sumLY, sumF]
 |cons x l ih =>
  have h1 := h x (by simp)
  have h2 := ih fun n hn => h n (List.mem_cons_of_mem _ hn)
  unfold sumLY at *
  rw [sumF_cons, List.length_cons]
  omega
theorem used_fn (o : Offer) (n : Nat) (hn : n ≤ o.pr.length) (hl : o.pr.length ≤ 1000) (hb : ∀ n ∈ o.pr, -1000000 ≤ n ∧ n ≤ 1000000) : PFn Tryz.prog 89 [.agg o.row, .int n] (· = .int (sumLY (o.pr.take n))) := by
 have hP := intRows_len o.pr
 have ht := intRows_take o.pr n
 refine PFn.mk (Spec.body Tryz.func89 rfl rfl (Tryz.ntmps89) rfl fun w0 own0 M => ?_)
 unfold Offer.row
 repeat' (first | refine goH ?_ | refine goV ?_ | refine goB (fun b => ?_) | refine goI ?_ | (refine Cw.k_cond ?_; first | (refine Cw.cond_dec rfl ?_ ?_ <;> intro hc <;> try omega) | refine Cw.cond_bool rfl ?_ ?_ <;> intro hc) | fail)
 rw [Int.toNat_natCast, ht]
 have hb' : ∀ x ∈ o.pr.take n, -1000000 ≤ x ∧ x ≤ 1000000 := fun x hx => hb x (List.mem_of_mem_take hx)
 have hT : (o.pr.take n).length = n := by rw [List.length_take]; omega
 generalize o.pr.take n = t at *
 have hTL := intRows_len t
 refine Cw.loopI [(11, _), (12, _)] _ (fun q e cc => ∃ (k : Nat) (s : Int), q = t.length - k ∧ (k ≤ t.length ∧ s + sumLY (t.drop k) = sumLY t ∧ -(1000000 * (k : Int)) ≤ s ∧ s ≤ 1000000 * (k : Int)) ∧ e = [(5, .int s), (13, .int k)] ∧ cc = []) ⟨_, _, _, (Ent.mkP goSub goPm), 0, 0, rfl, ⟨by omega, by simp, by omega, by omega⟩, rfl, rfl⟩ ?_
 rintro _ _ _ ⟨k, s, rfl, ⟨hk, hV, b1, b2⟩, rfl, rfl⟩
 by_cases hkl : k < t.length
 ·obtain ⟨x, hx⟩ := at_lt hkl
  have hrow := intRows_at hx
  have hxb := hb' x (List.mem_of_getElem? hx)
  rw [drop_at hx, sumLY, sumF_cons, ← sumLY] at hV
  repeat' (first | refine goH ?_ | refine goV ?_ | refine goB (fun b => ?_) | refine goI ?_ | (refine Cw.k_cond ?_; first | (refine Cw.cond_dec rfl ?_ ?_ <;> intro hc <;> try omega) | refine Cw.cond_bool rfl ?_ ?_ <;> intro hc) | fail)
  exact ⟨_, _, _, (Ent.mk goSub goTk), ⟨k + 1, _, rfl, ⟨by omega, by omega, by omega, by omega⟩, rfl, rfl⟩, by omega⟩
 ·rw [List.drop_eq_nil_of_le (by omega), sumLY, sumF] at hV
  repeat' (first | refine goH ?_ | refine goV ?_ | refine goB (fun b => ?_) | refine goI ?_ | (refine Cw.k_cond ?_; first | (refine Cw.cond_dec rfl ?_ ?_ <;> intro hc <;> try omega) | refine Cw.cond_bool rfl ?_ ?_ <;> intro hc) | fail)
  exact Fin.ret (Ent.take goTk) (Outs.one rfl rfl) ⟨rfl, congrArg Tr.int (by omega)⟩

def worthL : List Offer → List Int → Int
 |o :: l, n :: c => sumLY (o.pr.take n.toNat) + worthL l c
 |_, _ => 0
def worthE (l : List Offer) (c : List Int) : Int := if offersE l ≠ 0 then offersE l else cntsE l c
theorem cntsE_at {l : List Offer} {c : List Int} (h : cntsE l c = 0) : c.length = l.length ∧ ∀ (k : Nat) (n : Int) (o : Offer), c[k]? = some n → l[k]? = some o → 0 ≤ n ∧ n ≤ o.pr.length := by
 unfold cntsE at h
 split at h
 ·omega
 ·refine ⟨by omega, fun k n o hn ho => ?_⟩
  have := firstE_zero h k (Nat.zero_le _) (by have := (List.getElem?_eq_some_iff.1 hn).1; omega)
  unfold cE at this
  rw [hn, ho] at this
  simp only at this
  split at this
  ·omega
  ·omega
theorem worth_fn (l : List Offer) (hl : OBd l) (c : List Int) (hc : c.length ≤ 1000) : PFn Tryz.prog 49 [.offers l, .ints c] (· = .tup [.int (if worthE l c ≠ 0 then 0 else worthL l c), .int (worthE l c)]) := by
 have k1 := checkOffers_fn l hl
 have k2 := countsFault_fn l hl c hc
 have k3 := cmpOr_fn [offersE l] (by simp)
 rw [show orI [offersE l] = offersE l by rw [orI_cons]; by_cases h : offersE l = 0 <;> simp [orI, h]] at k3
 have hL : (l.map Offer.row).length = l.length := List.length_map _
 have hC := intRows_len c
 refine PFn.mk (Spec.body Tryz.func49 rfl rfl (Tryz.ntmps49) rfl fun w0 own0 M => ?_)
 by_cases h1 : offersE l ≠ 0
 ·have e : worthE l c = offersE l := by unfold worthE; rw [if_pos h1]
  rw [e, if_pos h1]
  generalize offersE l = oe at *
  repeat' (first | refine goH ?_ | refine goV ?_ | refine goB (fun b => ?_) | refine goI ?_ | (refine Cw.k_cond ?_; first | (refine Cw.cond_dec rfl ?_ ?_ <;> intro hc <;> try omega) | refine Cw.cond_bool rfl ?_ ?_ <;> intro hc) | (refine Ops.k_calla ?_; first | (refine Ops.k_callf 87 ?_; refine Ops.callV k1 (Evs.cons rfl Evs.nil) rfl ?_) | (refine Ops.k_callf 88 ?_; refine Ops.callV k2 (Evs.cons rfl (Evs.cons rfl Evs.nil)) rfl ?_) | (refine Ops.k_callf 24 ?_; refine Ops.callV k3 (Evs.cons rfl Evs.nil) rfl ?_)) | (apply OpW.k_call; first | (apply OpW.k_callf 87; exact OpW.callV k1 (Evs.cons rfl Evs.nil)) | (apply OpW.k_callf 88; exact OpW.callV k2 (Evs.cons rfl (Evs.cons rfl Evs.nil))) | (apply OpW.k_callf 24; exact OpW.callV k3 (Evs.cons rfl Evs.nil))) | refine goR ?_ | refine goP ?_ | apply PSeq.cons | apply PSeq.yes rfl rfl rfl | exact goW | fail)
  refine Fin.ret (Ent.take goTk) (Outs.many rfl (OutL.cons goOe (OutL.cons goOe OutL.nil)) rfl) ⟨rfl, rfl⟩
 have e : worthE l c = cntsE l c := by unfold worthE; rw [if_neg h1]
 rw [e]
 have h10 : offersE l = 0 := by omega
 rw [h10] at k1 k3
 by_cases h2 : cntsE l c ≠ 0
 ·rw [if_pos h2]
  generalize cntsE l c = ce at *
  repeat' (first | refine goH ?_ | refine goV ?_ | refine goB (fun b => ?_) | refine goI ?_ | (refine Cw.k_cond ?_; first | (refine Cw.cond_dec rfl ?_ ?_ <;> intro hc <;> try omega) | refine Cw.cond_bool rfl ?_ ?_ <;> intro hc) | (refine Ops.k_calla ?_; first | (refine Ops.k_callf 87 ?_; refine Ops.callV k1 (Evs.cons rfl Evs.nil) rfl ?_) | (refine Ops.k_callf 88 ?_; refine Ops.callV k2 (Evs.cons rfl (Evs.cons rfl Evs.nil)) rfl ?_) | (refine Ops.k_callf 24 ?_; refine Ops.callV k3 (Evs.cons rfl Evs.nil) rfl ?_)) | (apply OpW.k_call; first | (apply OpW.k_callf 87; exact OpW.callV k1 (Evs.cons rfl Evs.nil)) | (apply OpW.k_callf 88; exact OpW.callV k2 (Evs.cons rfl (Evs.cons rfl Evs.nil))) | (apply OpW.k_callf 24; exact OpW.callV k3 (Evs.cons rfl Evs.nil))) | refine goR ?_ | refine goP ?_ | apply PSeq.cons | apply PSeq.yes rfl rfl rfl | exact goW | fail)
  refine Fin.ret (Ent.take goTk) (Outs.many rfl (OutL.cons goOe (OutL.cons goOe OutL.nil)) rfl) ⟨rfl, rfl⟩
 have h20 : cntsE l c = 0 := by omega
 rw [if_neg h2, h20]
 rw [h20] at k2
 obtain ⟨hcl, hca⟩ := cntsE_at h20
 have hll := offersE_len h10
 repeat' (first | refine goH ?_ | refine goV ?_ | refine goB (fun b => ?_) | refine goI ?_ | (refine Cw.k_cond ?_; first | (refine Cw.cond_dec rfl ?_ ?_ <;> intro hc <;> try omega) | refine Cw.cond_bool rfl ?_ ?_ <;> intro hc) | (refine Ops.k_calla ?_; first | (refine Ops.k_callf 87 ?_; refine Ops.callV k1 (Evs.cons rfl Evs.nil) rfl ?_) | (refine Ops.k_callf 88 ?_; refine Ops.callV k2 (Evs.cons rfl (Evs.cons rfl Evs.nil)) rfl ?_) | (refine Ops.k_callf 24 ?_; refine Ops.callV k3 (Evs.cons rfl Evs.nil) rfl ?_)) | (apply OpW.k_call; first | (apply OpW.k_callf 87; exact OpW.callV k1 (Evs.cons rfl Evs.nil)) | (apply OpW.k_callf 88; exact OpW.callV k2 (Evs.cons rfl (Evs.cons rfl Evs.nil))) | (apply OpW.k_callf 24; exact OpW.callV k3 (Evs.cons rfl Evs.nil))) | refine goR ?_ | refine goP ?_ | apply PSeq.cons | apply PSeq.yes rfl rfl rfl | exact goW | fail)
 refine Cw.loopI [(1, _), (24, _), (25, _)] _ (fun q e cc => ∃ (k : Nat) (s : Int), q = l.length - k ∧ (k ≤ l.length ∧ s + worthL (l.drop k) (c.drop k) = worthL l c ∧ -(10000000 * (k : Int)) ≤ s ∧ s ≤ 10000000 * (k : Int)) ∧ e = [(8, .int s), (26, .int k)] ∧ cc = []) ⟨_, _, _, (Ent.mkP goSub goPm), 0, 0, rfl, ⟨by omega, by simp, by omega, by omega⟩, rfl, rfl⟩ ?_
 rintro _ _ _ ⟨k, s, rfl, ⟨hk, hV, b1, b2⟩, rfl, rfl⟩
 by_cases hkl : k < l.length
 ·obtain ⟨o, ho⟩ := at_lt hkl
  obtain ⟨n, hn⟩ := at_lt (l := c) (k := k) (by omega)
  have hrow := intRows_at hn
  have hrow2 : (l.map Offer.row)[((k : Nat) : Int).toNat]? = some o.row := rows_at ho
  obtain ⟨hn1, hn2⟩ := hca k n o hn ho
  obtain ⟨⟨_, hp1⟩, hp2⟩ := prE_ok (offersE_at h10 ho).2.2
  obtain ⟨m, rfl⟩ := Int.eq_ofNat_of_zero_le hn1
  have k4 := used_fn o m (by omega) (by omega) hp2
  have hsb := sumLY_bd (l := o.pr.take m) fun x hx => hp2 x (List.mem_of_mem_take hx)
  rw [show (o.pr.take m).length = m by rw [List.length_take]; omega] at hsb
  rw [drop_at ho, drop_at hn, worthL, Int.toNat_natCast] at hV
  unfold Offer.row at *
  generalize sumLY (o.pr.take m) = u at *
  repeat' (first | refine goH ?_ | refine goV ?_ | refine goB (fun b => ?_) | refine goI ?_ | (refine Cw.k_cond ?_; first | (refine Cw.cond_dec rfl ?_ ?_ <;> intro hc <;> try omega) | refine Cw.cond_bool rfl ?_ ?_ <;> intro hc) | (refine Ops.k_calla ?_; first | (refine Ops.k_callf 89 ?_; refine Ops.callV k4 (Evs.cons rfl (Evs.cons rfl Evs.nil)) rfl ?_)) | (apply OpW.k_call; first | (apply OpW.k_callf 89; exact OpW.callV k4 (Evs.cons rfl (Evs.cons rfl Evs.nil)))) | refine goR ?_ | refine goP ?_ | apply PSeq.cons | apply PSeq.yes rfl rfl rfl | exact goW | fail)
  exact ⟨_, _, _, (Ent.mk goSub goTk), ⟨k + 1, _, rfl, ⟨by omega, by omega, by omega, by omega⟩, rfl, rfl⟩, by omega⟩
 ·rw [List.drop_eq_nil_of_le (by omega), show worthL [] (c.drop k) = 0 by unfold worthL; rfl] at hV
  repeat' (first | refine goH ?_ | refine goV ?_ | refine goB (fun b => ?_) | refine goI ?_ | (refine Cw.k_cond ?_; first | (refine Cw.cond_dec rfl ?_ ?_ <;> intro hc <;> try omega) | refine Cw.cond_bool rfl ?_ ?_ <;> intro hc) | refine goR ?_ | refine goP ?_ | apply PSeq.cons | apply PSeq.yes rfl rfl rfl | exact goW | fail)
  refine Fin.ret (Ent.take goTk) (Outs.many rfl (OutL.cons goOe (OutL.cons goOe OutL.nil)) rfl) ⟨rfl, ?_⟩
  rw [show s = worthL l c by omega]
end Lg
end
