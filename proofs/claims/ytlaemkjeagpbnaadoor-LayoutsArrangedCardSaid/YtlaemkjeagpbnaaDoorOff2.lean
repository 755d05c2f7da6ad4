/- A part of the proof of a law of this seat: it adds no condition. By an AI agent. -/
import Derived.Test.YtlaemkjeagpbnaaDoorOff
set_option linter.all false
set_option maxRecDepth 100000
set_option maxHeartbeats 4000000
namespace Lg
open Go Go.Proofs

theorem prBad1_fn (n : Int) : PFn Tryd.prog 84 [.int n] (· = .bool (prBad n)) := by
  refine PFn.mk (Spec.body Tryd.func84 rfl rfl (Tryd.ntmps84) rfl fun w0 own0 M => ?_)
  repeat' (first | refine goH ?_ | refine goV ?_ | refine goI ?_ | (refine Cw.k_cond ?_; first | (refine Cw.cond_dec rfl (fun hc => ?_) (fun hc => ?_) <;> try (exfalso; omega)) | refine Cw.cond_bool rfl (fun hc => ?_) (fun hc => ?_)) | (refine Ops.k_calla ?_; first | (refine Ops.k_callf 38 ?_; refine Ops.callV (out_fn n (-1000000) 1000000) (Evs.cons rfl (Evs.cons rfl (Evs.cons rfl Evs.nil))) rfl ?_)) | fail)
  exact Fin.ret Ent.refl (Outs.one rfl rfl) ⟨rfl, rfl⟩
theorem prBad2_fn (n : Int) : PFn Tryd.prog 53 [.int n] (· = .bool (prBad n)) := by
  refine PFn.mk (Spec.body Tryd.func53 rfl rfl (Tryd.ntmps53) rfl fun w0 own0 M => ?_)
  by_cases h1 : n < -1000000
  · repeat' (first | refine goH ?_ | refine goV ?_ | refine goG ?_ | (refine Ops.k_guard ?_; first | (refine Ops.guard_dec rfl rfl (fun hc => ?_) (fun hc => ?_) <;> try (exfalso; omega)) | refine Ops.guard_split rfl rfl (fun hc => ?_) (fun hc => ?_)) | refine goI ?_ | (refine Cw.k_cond ?_; first | (refine Cw.cond_dec rfl (fun hc => ?_) (fun hc => ?_) <;> try (exfalso; omega)) | refine Cw.cond_bool rfl (fun hc => ?_) (fun hc => ?_)) | fail)
    refine Fin.ret Ent.refl (Outs.one rfl rfl) ⟨rfl, congrArg Tr.bool ?_⟩
    simp [prBad, h1]
  · repeat' (first | refine goH ?_ | refine goV ?_ | refine goG ?_ | (refine Ops.k_guard ?_; first | (refine Ops.guard_dec rfl rfl (fun hc => ?_) (fun hc => ?_) <;> try (exfalso; omega)) | refine Ops.guard_split rfl rfl (fun hc => ?_) (fun hc => ?_)) | refine goI ?_ | (refine Cw.k_cond ?_; first | (refine Cw.cond_dec rfl (fun hc => ?_) (fun hc => ?_) <;> try (exfalso; omega)) | refine Cw.cond_bool rfl (fun hc => ?_) (fun hc => ?_)) | fail)
    refine Fin.ret Ent.refl (Outs.one rfl rfl) ⟨rfl, congrArg Tr.bool ?_⟩
    simp [prBad, h1]

/-- bounded lists -/
def OBd (l : List Offer) : Prop := l.length ≤ 1000 ∧ ∀ x ∈ l, x.pr.length ≤ 1000 ∧ x.has.length ≤ 1000 ∧ x.hates.length ≤ 1000

theorem checkOffers_fn (l : List Offer) (hl : OBd l) : PFn Tryd.prog 69 [.offers l] (· = .int (offersE l)) := by
  refine PFn.mk (Spec.body Tryd.func69 rfl rfl (Tryd.ntmps69) rfl fun w0 own0 M => ?_)
  have hL : (l.map Offer.row).length = l.length := List.length_map _
  have hll := hl.1
  by_cases h30 : l.length > 30
  · repeat' (first | refine goH ?_ | refine goV ?_ | refine goB (fun b => ?_) | refine goG ?_ | (refine Ops.k_guard ?_; first | (refine Ops.guard_dec rfl rfl (fun hc => ?_) (fun hc => ?_) <;> try (exfalso; omega)) | refine Ops.guard_split rfl rfl (fun hc => ?_) (fun hc => ?_)) | refine goI ?_ | (refine Cw.k_cond ?_; first | (refine Cw.cond_dec rfl (fun hc => ?_) (fun hc => ?_) <;> try (exfalso; omega)) | refine Cw.cond_bool rfl (fun hc => ?_) (fun hc => ?_)) | refine goR ?_ | refine goP ?_ | apply PSeq.cons | apply PSeq.yes rfl rfl rfl | exact goW | fail)
    refine Fin.ret (Ent.take goTk) (Outs.one rfl rfl) ⟨rfl, congrArg Tr.int ?_⟩
    unfold offersE
    rw [if_pos h30]
  have hV0 : offersE l = firstE (offerE l) 0 (l.length - 0) := by unfold offersE; rw [if_neg h30]; rfl
  repeat' (first | refine goH ?_ | refine goV ?_ | refine goB (fun b => ?_) | refine goG ?_ | (refine Ops.k_guard ?_; first | (refine Ops.guard_dec rfl rfl (fun hc => ?_) (fun hc => ?_) <;> try (exfalso; omega)) | refine Ops.guard_split rfl rfl (fun hc => ?_) (fun hc => ?_)) | refine goI ?_ | (refine Cw.k_cond ?_; first | (refine Cw.cond_dec rfl (fun hc => ?_) (fun hc => ?_) <;> try (exfalso; omega)) | refine Cw.cond_bool rfl (fun hc => ?_) (fun hc => ?_)) | refine goR ?_ | refine goP ?_ | apply PSeq.cons | apply PSeq.yes rfl rfl rfl | exact goW | fail)
  refine Cw.loopI [(0, _), (9, _), (10, _)] _ (fun n e c => ∃ k : Nat, n = l.length - k ∧ (k ≤ l.length ∧ offersE l = firstE (offerE l) k (l.length - k)) ∧ e = [(11, .int k)] ∧ c = []) ⟨_, _, _, (Ent.mkP goSub goPm), 0, rfl, ⟨by omega, hV0⟩, rfl, rfl⟩ ?_
  rintro _ _ _ ⟨k, rfl, ⟨hk, hV⟩, rfl, rfl⟩
  by_cases hkl : k < l.length
  rotate_left
  · repeat' (first | refine goH ?_ | refine goV ?_ | refine goB (fun b => ?_) | refine goG ?_ | (refine Ops.k_guard ?_; first | (refine Ops.guard_dec rfl rfl (fun hc => ?_) (fun hc => ?_) <;> try (exfalso; omega)) | refine Ops.guard_split rfl rfl (fun hc => ?_) (fun hc => ?_)) | refine goI ?_ | (refine Cw.k_cond ?_; first | (refine Cw.cond_dec rfl (fun hc => ?_) (fun hc => ?_) <;> try (exfalso; omega)) | refine Cw.cond_bool rfl (fun hc => ?_) (fun hc => ?_)) | refine goR ?_ | refine goP ?_ | apply PSeq.cons | apply PSeq.yes rfl rfl rfl | exact goW | fail)
    refine Fin.ret (Ent.take goTk) (Outs.one rfl rfl) ⟨rfl, congrArg Tr.int ?_⟩
    rw [hV, firstE_end hkl]
  obtain ⟨x, hx⟩ := at_lt hkl
  obtain ⟨b1, b2, b3⟩ := hl.2 x (List.mem_of_getElem? hx)
  have hP := intRows_len x.pr
  have hH1 := strRows_len x.has
  have hH2 := strRows_len x.hates
  have hrow : (l.map Offer.row)[k]? = some [.str x.key, .str x.group, .ints x.pr, .strs x.has, .strs x.hates] := rows_at hx
  have hkey := key_fn x.key
  have hgrp := key_fn x.group
  have hany : Spec Tryd.prog 41 [.ints x.pr, Tr.raw (.func (.func 84) #[] #[])] [] (fun r cs => r = .bool (x.pr.any prBad) ∧ cs = []) := containsFunc_int (p := prBad) (g := 84) (caps := []) (cin := []) (l := x.pr) (by omega) (fun n _ => (prBad1_fn n).lend)
  have fin : ∀ c, offerE l k = c → c ≠ 0 → offersE l = c := fun c h1 h2 => hV.trans (firstE_bad hkl h1 h2)
  have nxt : offerE l k = 0 → offersE l = firstE (offerE l) (k + 1) (l.length - (k + 1)) := fun h1 => hV.trans (firstE_ok hkl h1)
  have hoe : offerE l k = if isKey x.key = false then 5 else if prevB (fun x y => strLe x.key y.key) l k x then 7 else if isKey x.group = false then 5 else if prE x.pr ≠ 0 then prE x.pr else if keysE x.has ≠ 0 then keysE x.has else keysE x.hates := by unfold offerE; rw [hx]
  clear hV
  by_cases g1 : isKey x.key = false
  · rw [g1] at hkey
    rw [if_pos g1] at hoe
    repeat' (first | refine goH ?_ | refine goV ?_ | refine goB (fun b => ?_) | refine goG ?_ | (refine Ops.k_guard ?_; first | (refine Ops.guard_dec rfl rfl (fun hc => ?_) (fun hc => ?_) <;> try (exfalso; omega)) | refine Ops.guard_split rfl rfl (fun hc => ?_) (fun hc => ?_)) | refine goI ?_ | (refine Cw.k_cond ?_; first | (refine Cw.cond_dec rfl (fun hc => ?_) (fun hc => ?_) <;> try (exfalso; omega)) | refine Cw.cond_bool rfl (fun hc => ?_) (fun hc => ?_)) | (refine Ops.k_calla ?_; first | (refine Ops.k_callf 66 ?_; refine Ops.callV hkey (Evs.cons rfl Evs.nil) rfl ?_)) | (apply OpW.k_call; first | (apply OpW.k_callf 66; exact OpW.callV hkey (Evs.cons rfl Evs.nil))) | refine goR ?_ | refine goP ?_ | apply PSeq.cons | apply PSeq.yes rfl rfl rfl | exact goW | fail)
    exact Fin.ret (Ent.take goTk) (Outs.one rfl rfl) ⟨rfl, congrArg Tr.int (fin 5 hoe (by decide)).symm⟩
  rw [if_neg g1] at hoe
  replace g1 : isKey x.key = true := by simpa using g1
  rw [g1] at hkey
  -- the rest, once the order is known
  obtain ⟨pb, hpb⟩ : ∃ b, prevB (fun x y => strLe x.key y.key) l k x = b := ⟨_, rfl⟩
  have hprev : k = 0 ∧ pb = false ∨ ∃ (j : Nat) (y : Offer), k = j + 1 ∧ (l.map Offer.row)[(((j + 1 : Nat) : Int) - 1).toNat]? = some [.str y.key, .str y.group, .ints y.pr, .strs y.has, .strs y.hates] ∧ pb = (strLt x.key y.key || decide (x.key = y.key)) := by
    cases k with
    | zero => exact .inl ⟨rfl, by rw [← hpb]; rfl⟩
    | succ j =>
      obtain ⟨y, hy⟩ := at_lt (l := l) (k := j) (by omega)
      exact .inr ⟨j, y, rfl, by rw [show (((j + 1 : Nat) : Int) - 1).toNat = j by omega]; exact rows_at hy, by rw [← hpb]; simp [prevB, hy, strLe]⟩
  rw [hpb] at hoe
  clear hpb
  cases pb
  rotate_left
  · rcases hprev with ⟨_, h⟩ | ⟨j, y, rfl, hrow2, h⟩
    · cases h
    rw [if_pos rfl] at hoe
    have h := h.symm
    repeat' (first | refine goH ?_ | refine goV ?_ | refine goB (fun b => ?_) | refine goG ?_ | (refine Ops.k_guard ?_; first | (refine Ops.guard_dec rfl rfl (fun hc => ?_) (fun hc => ?_) <;> try (exfalso; omega)) | refine Ops.guard_split rfl rfl (fun hc => ?_) (fun hc => ?_)) | refine goI ?_ | (refine Cw.k_cond ?_; first | (refine Cw.cond_dec rfl (fun hc => ?_) (fun hc => ?_) <;> try (exfalso; omega)) | refine Cw.cond_bool rfl (fun hc => ?_) (fun hc => ?_)) | (refine Ops.k_calla ?_; first | (refine Ops.k_callf 66 ?_; refine Ops.callV hkey (Evs.cons rfl Evs.nil) rfl ?_)) | (apply OpW.k_call; first | (apply OpW.k_callf 66; exact OpW.callV hkey (Evs.cons rfl Evs.nil))) | refine goR ?_ | refine goP ?_ | apply PSeq.cons | apply PSeq.yes rfl rfl rfl | exact goW | fail)
    all_goals first | exact Bool.noConfusion (h.symm.trans hc) | exact Fin.ret (Ent.take goTk) (Outs.one rfl rfl) ⟨rfl, congrArg Tr.int (fin 7 hoe (by decide)).symm⟩
  rw [if_neg (by decide)] at hoe
  -- the case of the group
  by_cases g2 : isKey x.group = false
  · rw [g2] at hgrp
    rw [if_pos g2] at hoe
    rcases hprev with ⟨rfl, _⟩ | ⟨j, y, rfl, hrow2, h⟩
    · repeat' (first | refine goH ?_ | refine goV ?_ | refine goB (fun b => ?_) | refine goG ?_ | (refine Ops.k_guard ?_; first | (refine Ops.guard_dec rfl rfl (fun hc => ?_) (fun hc => ?_) <;> try (exfalso; omega)) | refine Ops.guard_split rfl rfl (fun hc => ?_) (fun hc => ?_)) | refine goI ?_ | (refine Cw.k_cond ?_; first | (refine Cw.cond_dec rfl (fun hc => ?_) (fun hc => ?_) <;> try (exfalso; omega)) | refine Cw.cond_bool rfl (fun hc => ?_) (fun hc => ?_)) | (refine Ops.k_calla ?_; first | (refine Ops.k_callf 66 ?_; refine Ops.callV hkey (Evs.cons rfl Evs.nil) rfl ?_) | (refine Ops.k_callf 66 ?_; refine Ops.callV hgrp (Evs.cons rfl Evs.nil) rfl ?_)) | (apply OpW.k_call; first | (apply OpW.k_callf 66; exact OpW.callV hkey (Evs.cons rfl Evs.nil)) | (apply OpW.k_callf 66; exact OpW.callV hgrp (Evs.cons rfl Evs.nil))) | refine goR ?_ | refine goP ?_ | apply PSeq.cons | apply PSeq.yes rfl rfl rfl | exact goW | fail)
      exact Fin.ret (Ent.take goTk) (Outs.one rfl rfl) ⟨rfl, congrArg Tr.int (fin 5 hoe (by decide)).symm⟩
    · have h := h.symm
      repeat' (first | refine goH ?_ | refine goV ?_ | refine goB (fun b => ?_) | refine goG ?_ | (refine Ops.k_guard ?_; first | (refine Ops.guard_dec rfl rfl (fun hc => ?_) (fun hc => ?_) <;> try (exfalso; omega)) | refine Ops.guard_split rfl rfl (fun hc => ?_) (fun hc => ?_)) | refine goI ?_ | (refine Cw.k_cond ?_; first | (refine Cw.cond_dec rfl (fun hc => ?_) (fun hc => ?_) <;> try (exfalso; omega)) | refine Cw.cond_bool rfl (fun hc => ?_) (fun hc => ?_)) | (refine Ops.k_calla ?_; first | (refine Ops.k_callf 66 ?_; refine Ops.callV hkey (Evs.cons rfl Evs.nil) rfl ?_) | (refine Ops.k_callf 66 ?_; refine Ops.callV hgrp (Evs.cons rfl Evs.nil) rfl ?_)) | (apply OpW.k_call; first | (apply OpW.k_callf 66; exact OpW.callV hkey (Evs.cons rfl Evs.nil)) | (apply OpW.k_callf 66; exact OpW.callV hgrp (Evs.cons rfl Evs.nil))) | refine goR ?_ | refine goP ?_ | apply PSeq.cons | apply PSeq.yes rfl rfl rfl | exact goW | fail)
      all_goals first | exact Bool.noConfusion (h.symm.trans hc) | exact Fin.ret (Ent.take goTk) (Outs.one rfl rfl) ⟨rfl, congrArg Tr.int (fin 5 hoe (by decide)).symm⟩
  rw [if_neg g2] at hoe
  replace g2 : isKey x.group = true := by simpa using g2
  rw [g2] at hgrp
  by_cases g3 : prE x.pr ≠ 0
  · rw [if_pos g3] at hoe
    have hfin := fin _ hoe g3
    have hpe : prE x.pr = if x.pr.length = 0 then 8 else if x.pr.length > 10 then 2 else if x.pr.any prBad then 1 else 0 := rfl
    rw [hpe] at hfin g3
    by_cases q1 : x.pr.length = 0
    · rw [if_pos q1] at hfin
      rcases hprev with ⟨rfl, _⟩ | ⟨j, y, rfl, hrow2, h⟩
      · repeat' (first | refine goH ?_ | refine goV ?_ | refine goB (fun b => ?_) | refine goG ?_ | (refine Ops.k_guard ?_; first | (refine Ops.guard_dec rfl rfl (fun hc => ?_) (fun hc => ?_) <;> try (exfalso; omega)) | refine Ops.guard_split rfl rfl (fun hc => ?_) (fun hc => ?_)) | refine goI ?_ | (refine Cw.k_cond ?_; first | (refine Cw.cond_dec rfl (fun hc => ?_) (fun hc => ?_) <;> try (exfalso; omega)) | refine Cw.cond_bool rfl (fun hc => ?_) (fun hc => ?_)) | (refine Ops.k_calla ?_; first | (refine Ops.k_callf 66 ?_; refine Ops.callV hkey (Evs.cons rfl Evs.nil) rfl ?_) | (refine Ops.k_callf 66 ?_; refine Ops.callV hgrp (Evs.cons rfl Evs.nil) rfl ?_)) | (apply OpW.k_call; first | (apply OpW.k_callf 66; exact OpW.callV hkey (Evs.cons rfl Evs.nil)) | (apply OpW.k_callf 66; exact OpW.callV hgrp (Evs.cons rfl Evs.nil))) | refine goR ?_ | refine goP ?_ | apply PSeq.cons | apply PSeq.yes rfl rfl rfl | exact goW | fail)
        exact Fin.ret (Ent.take goTk) (Outs.one rfl rfl) ⟨rfl, congrArg Tr.int hfin.symm⟩
      · have h := h.symm
        repeat' (first | refine goH ?_ | refine goV ?_ | refine goB (fun b => ?_) | refine goG ?_ | (refine Ops.k_guard ?_; first | (refine Ops.guard_dec rfl rfl (fun hc => ?_) (fun hc => ?_) <;> try (exfalso; omega)) | refine Ops.guard_split rfl rfl (fun hc => ?_) (fun hc => ?_)) | refine goI ?_ | (refine Cw.k_cond ?_; first | (refine Cw.cond_dec rfl (fun hc => ?_) (fun hc => ?_) <;> try (exfalso; omega)) | refine Cw.cond_bool rfl (fun hc => ?_) (fun hc => ?_)) | (refine Ops.k_calla ?_; first | (refine Ops.k_callf 66 ?_; refine Ops.callV hkey (Evs.cons rfl Evs.nil) rfl ?_) | (refine Ops.k_callf 66 ?_; refine Ops.callV hgrp (Evs.cons rfl Evs.nil) rfl ?_)) | (apply OpW.k_call; first | (apply OpW.k_callf 66; exact OpW.callV hkey (Evs.cons rfl Evs.nil)) | (apply OpW.k_callf 66; exact OpW.callV hgrp (Evs.cons rfl Evs.nil))) | refine goR ?_ | refine goP ?_ | apply PSeq.cons | apply PSeq.yes rfl rfl rfl | exact goW | fail)
        all_goals first | exact Bool.noConfusion (h.symm.trans hc) | exact Fin.ret (Ent.take goTk) (Outs.one rfl rfl) ⟨rfl, congrArg Tr.int hfin.symm⟩
    by_cases q2 : x.pr.length > 10
    · rw [if_neg q1, if_pos q2] at hfin
      rcases hprev with ⟨rfl, _⟩ | ⟨j, y, rfl, hrow2, h⟩
      · repeat' (first | refine goH ?_ | refine goV ?_ | refine goB (fun b => ?_) | refine goG ?_ | (refine Ops.k_guard ?_; first | (refine Ops.guard_dec rfl rfl (fun hc => ?_) (fun hc => ?_) <;> try (exfalso; omega)) | refine Ops.guard_split rfl rfl (fun hc => ?_) (fun hc => ?_)) | refine goI ?_ | (refine Cw.k_cond ?_; first | (refine Cw.cond_dec rfl (fun hc => ?_) (fun hc => ?_) <;> try (exfalso; omega)) | refine Cw.cond_bool rfl (fun hc => ?_) (fun hc => ?_)) | (refine Ops.k_calla ?_; first | (refine Ops.k_callf 66 ?_; refine Ops.callV hkey (Evs.cons rfl Evs.nil) rfl ?_) | (refine Ops.k_callf 66 ?_; refine Ops.callV hgrp (Evs.cons rfl Evs.nil) rfl ?_)) | (apply OpW.k_call; first | (apply OpW.k_callf 66; exact OpW.callV hkey (Evs.cons rfl Evs.nil)) | (apply OpW.k_callf 66; exact OpW.callV hgrp (Evs.cons rfl Evs.nil))) | refine goR ?_ | refine goP ?_ | apply PSeq.cons | apply PSeq.yes rfl rfl rfl | exact goW | fail)
        exact Fin.ret (Ent.take goTk) (Outs.one rfl rfl) ⟨rfl, congrArg Tr.int hfin.symm⟩
      · have h := h.symm
        repeat' (first | refine goH ?_ | refine goV ?_ | refine goB (fun b => ?_) | refine goG ?_ | (refine Ops.k_guard ?_; first | (refine Ops.guard_dec rfl rfl (fun hc => ?_) (fun hc => ?_) <;> try (exfalso; omega)) | refine Ops.guard_split rfl rfl (fun hc => ?_) (fun hc => ?_)) | refine goI ?_ | (refine Cw.k_cond ?_; first | (refine Cw.cond_dec rfl (fun hc => ?_) (fun hc => ?_) <;> try (exfalso; omega)) | refine Cw.cond_bool rfl (fun hc => ?_) (fun hc => ?_)) | (refine Ops.k_calla ?_; first | (refine Ops.k_callf 66 ?_; refine Ops.callV hkey (Evs.cons rfl Evs.nil) rfl ?_) | (refine Ops.k_callf 66 ?_; refine Ops.callV hgrp (Evs.cons rfl Evs.nil) rfl ?_)) | (apply OpW.k_call; first | (apply OpW.k_callf 66; exact OpW.callV hkey (Evs.cons rfl Evs.nil)) | (apply OpW.k_callf 66; exact OpW.callV hgrp (Evs.cons rfl Evs.nil))) | refine goR ?_ | refine goP ?_ | apply PSeq.cons | apply PSeq.yes rfl rfl rfl | exact goW | fail)
        all_goals first | exact Bool.noConfusion (h.symm.trans hc) | exact Fin.ret (Ent.take goTk) (Outs.one rfl rfl) ⟨rfl, congrArg Tr.int hfin.symm⟩
    rw [if_neg q1, if_neg q2] at hfin g3
    cases q3 : x.pr.any prBad
    · rw [q3] at g3; exact absurd rfl g3
    rw [q3] at hfin hany
    rw [if_pos rfl] at hfin
    rcases hprev with ⟨rfl, _⟩ | ⟨j, y, rfl, hrow2, h⟩
    · repeat' (first | refine goH ?_ | refine goV ?_ | refine goB (fun b => ?_) | refine goG ?_ | (refine Ops.k_guard ?_; first | (refine Ops.guard_dec rfl rfl (fun hc => ?_) (fun hc => ?_) <;> try (exfalso; omega)) | refine Ops.guard_split rfl rfl (fun hc => ?_) (fun hc => ?_)) | refine goI ?_ | (refine Cw.k_cond ?_; first | (refine Cw.cond_dec rfl (fun hc => ?_) (fun hc => ?_) <;> try (exfalso; omega)) | refine Cw.cond_bool rfl (fun hc => ?_) (fun hc => ?_)) | (refine Ops.k_calla ?_; first | (refine Ops.k_callf 66 ?_; refine Ops.callV hkey (Evs.cons rfl Evs.nil) rfl ?_) | (refine Ops.k_callf 66 ?_; refine Ops.callV hgrp (Evs.cons rfl Evs.nil) rfl ?_) | (refine Ops.k_callf 41 ?_; refine Ops.callS hany (Evs.cons rfl (Evs.cons rfl Evs.nil)) goPk rfl ?_)) | (apply OpW.k_call; first | (apply OpW.k_callf 66; exact OpW.callV hkey (Evs.cons rfl Evs.nil)) | (apply OpW.k_callf 66; exact OpW.callV hgrp (Evs.cons rfl Evs.nil)) | (apply OpW.k_callf 41; exact OpW.callS hany (Evs.cons rfl (Evs.cons rfl Evs.nil)) goPk)) | refine goR ?_ | refine goP ?_ | apply PSeq.cons | apply PSeq.yes rfl rfl rfl | exact goW | fail)
      exact Fin.ret (Ent.take goTk) (Outs.one rfl rfl) ⟨rfl, congrArg Tr.int hfin.symm⟩
    · have h := h.symm
      repeat' (first | refine goH ?_ | refine goV ?_ | refine goB (fun b => ?_) | refine goG ?_ | (refine Ops.k_guard ?_; first | (refine Ops.guard_dec rfl rfl (fun hc => ?_) (fun hc => ?_) <;> try (exfalso; omega)) | refine Ops.guard_split rfl rfl (fun hc => ?_) (fun hc => ?_)) | refine goI ?_ | (refine Cw.k_cond ?_; first | (refine Cw.cond_dec rfl (fun hc => ?_) (fun hc => ?_) <;> try (exfalso; omega)) | refine Cw.cond_bool rfl (fun hc => ?_) (fun hc => ?_)) | (refine Ops.k_calla ?_; first | (refine Ops.k_callf 66 ?_; refine Ops.callV hkey (Evs.cons rfl Evs.nil) rfl ?_) | (refine Ops.k_callf 66 ?_; refine Ops.callV hgrp (Evs.cons rfl Evs.nil) rfl ?_) | (refine Ops.k_callf 41 ?_; refine Ops.callS hany (Evs.cons rfl (Evs.cons rfl Evs.nil)) goPk rfl ?_)) | (apply OpW.k_call; first | (apply OpW.k_callf 66; exact OpW.callV hkey (Evs.cons rfl Evs.nil)) | (apply OpW.k_callf 66; exact OpW.callV hgrp (Evs.cons rfl Evs.nil)) | (apply OpW.k_callf 41; exact OpW.callS hany (Evs.cons rfl (Evs.cons rfl Evs.nil)) goPk)) | refine goR ?_ | refine goP ?_ | apply PSeq.cons | apply PSeq.yes rfl rfl rfl | exact goW | fail)
      all_goals first | exact Bool.noConfusion (h.symm.trans hc) | exact Fin.ret (Ent.take goTk) (Outs.one rfl rfl) ⟨rfl, congrArg Tr.int hfin.symm⟩
  rw [if_neg g3] at hoe
  have hpe : prE x.pr = if x.pr.length = 0 then 8 else if x.pr.length > 10 then 2 else if x.pr.any prBad then 1 else 0 := rfl
  have g30 : prE x.pr = 0 := by omega
  have q1 : ¬ x.pr.length = 0 := fun h => by rw [hpe, if_pos h] at g30; omega
  rw [if_neg q1] at hpe
  have q2 : ¬ x.pr.length > 10 := fun h => by rw [hpe, if_pos h] at g30; omega
  rw [if_neg q2] at hpe
  have q3 : x.pr.any prBad = false := by
    cases q : x.pr.any prBad
    · rfl
    · rw [hpe, q, if_pos rfl] at g30; omega
  rw [q3] at hany
  clear hpe g3 g30
  have k1 := keysFault_fn x.has (by omega)
  have k2 := keysFault_fn x.hates (by omega)
  have k3 := cmpOr_fn [keysE x.has, keysE x.hates] (by simp)
  have ho : orI [keysE x.has, keysE x.hates] = offerE l k := by
    rw [hoe, orI_cons]
    by_cases h : keysE x.has ≠ 0
    · rw [if_pos h, if_pos h]
    · rw [if_neg h, if_neg h, orI_cons]
      by_cases h2 : keysE x.hates ≠ 0
      · rw [if_pos h2]
      · rw [if_neg h2, orI]; omega
  rw [ho] at k3
  by_cases g4 : offerE l k = 0
  · rw [g4] at k3
    rcases hprev with ⟨rfl, _⟩ | ⟨j, y, rfl, hrow2, h⟩
    · repeat' (first | refine goH ?_ | refine goV ?_ | refine goB (fun b => ?_) | refine goG ?_ | (refine Ops.k_guard ?_; first | (refine Ops.guard_dec rfl rfl (fun hc => ?_) (fun hc => ?_) <;> try (exfalso; omega)) | refine Ops.guard_split rfl rfl (fun hc => ?_) (fun hc => ?_)) | refine goI ?_ | (refine Cw.k_cond ?_; first | (refine Cw.cond_dec rfl (fun hc => ?_) (fun hc => ?_) <;> try (exfalso; omega)) | refine Cw.cond_bool rfl (fun hc => ?_) (fun hc => ?_)) | (refine Ops.k_calla ?_; first | (refine Ops.k_callf 66 ?_; refine Ops.callV hkey (Evs.cons rfl Evs.nil) rfl ?_) | (refine Ops.k_callf 66 ?_; refine Ops.callV hgrp (Evs.cons rfl Evs.nil) rfl ?_) | (refine Ops.k_callf 41 ?_; refine Ops.callS hany (Evs.cons rfl (Evs.cons rfl Evs.nil)) goPk rfl ?_) | (refine Ops.k_callf 85 ?_; refine Ops.callV k1 (Evs.cons rfl Evs.nil) rfl ?_) | (refine Ops.k_callf 85 ?_; refine Ops.callV k2 (Evs.cons rfl Evs.nil) rfl ?_) | (refine Ops.k_callf 68 ?_; refine Ops.callV k3 (Evs.cons rfl Evs.nil) rfl ?_)) | (apply OpW.k_call; first | (apply OpW.k_callf 66; exact OpW.callV hkey (Evs.cons rfl Evs.nil)) | (apply OpW.k_callf 66; exact OpW.callV hgrp (Evs.cons rfl Evs.nil)) | (apply OpW.k_callf 41; exact OpW.callS hany (Evs.cons rfl (Evs.cons rfl Evs.nil)) goPk) | (apply OpW.k_callf 85; exact OpW.callV k1 (Evs.cons rfl Evs.nil)) | (apply OpW.k_callf 85; exact OpW.callV k2 (Evs.cons rfl Evs.nil)) | (apply OpW.k_callf 68; exact OpW.callV k3 (Evs.cons rfl Evs.nil))) | refine goR ?_ | refine goP ?_ | apply PSeq.cons | apply PSeq.yes rfl rfl rfl | exact goW | fail)
      exact ⟨_, _, _, (Ent.mk goSub goTk), ⟨_, rfl, ⟨by omega, nxt g4⟩, rfl, rfl⟩, by omega⟩
    · have h := h.symm
      repeat' (first | refine goH ?_ | refine goV ?_ | refine goB (fun b => ?_) | refine goG ?_ | (refine Ops.k_guard ?_; first | (refine Ops.guard_dec rfl rfl (fun hc => ?_) (fun hc => ?_) <;> try (exfalso; omega)) | refine Ops.guard_split rfl rfl (fun hc => ?_) (fun hc => ?_)) | refine goI ?_ | (refine Cw.k_cond ?_; first | (refine Cw.cond_dec rfl (fun hc => ?_) (fun hc => ?_) <;> try (exfalso; omega)) | refine Cw.cond_bool rfl (fun hc => ?_) (fun hc => ?_)) | (refine Ops.k_calla ?_; first | (refine Ops.k_callf 66 ?_; refine Ops.callV hkey (Evs.cons rfl Evs.nil) rfl ?_) | (refine Ops.k_callf 66 ?_; refine Ops.callV hgrp (Evs.cons rfl Evs.nil) rfl ?_) | (refine Ops.k_callf 41 ?_; refine Ops.callS hany (Evs.cons rfl (Evs.cons rfl Evs.nil)) goPk rfl ?_) | (refine Ops.k_callf 85 ?_; refine Ops.callV k1 (Evs.cons rfl Evs.nil) rfl ?_) | (refine Ops.k_callf 85 ?_; refine Ops.callV k2 (Evs.cons rfl Evs.nil) rfl ?_) | (refine Ops.k_callf 68 ?_; refine Ops.callV k3 (Evs.cons rfl Evs.nil) rfl ?_)) | (apply OpW.k_call; first | (apply OpW.k_callf 66; exact OpW.callV hkey (Evs.cons rfl Evs.nil)) | (apply OpW.k_callf 66; exact OpW.callV hgrp (Evs.cons rfl Evs.nil)) | (apply OpW.k_callf 41; exact OpW.callS hany (Evs.cons rfl (Evs.cons rfl Evs.nil)) goPk) | (apply OpW.k_callf 85; exact OpW.callV k1 (Evs.cons rfl Evs.nil)) | (apply OpW.k_callf 85; exact OpW.callV k2 (Evs.cons rfl Evs.nil)) | (apply OpW.k_callf 68; exact OpW.callV k3 (Evs.cons rfl Evs.nil))) | refine goR ?_ | refine goP ?_ | apply PSeq.cons | apply PSeq.yes rfl rfl rfl | exact goW | fail)
      all_goals first | exact Bool.noConfusion (h.symm.trans hc) | exact ⟨_, _, _, (Ent.mk goSub goTk), ⟨_, rfl, ⟨by omega, nxt g4⟩, rfl, rfl⟩, by omega⟩
  · have hfin := fin _ rfl g4
    rcases hprev with ⟨rfl, _⟩ | ⟨j, y, rfl, hrow2, h⟩
    · repeat' (first | refine goH ?_ | refine goV ?_ | refine goB (fun b => ?_) | refine goG ?_ | (refine Ops.k_guard ?_; first | (refine Ops.guard_dec rfl rfl (fun hc => ?_) (fun hc => ?_) <;> try (exfalso; omega)) | refine Ops.guard_split rfl rfl (fun hc => ?_) (fun hc => ?_)) | refine goI ?_ | (refine Cw.k_cond ?_; first | (refine Cw.cond_dec rfl (fun hc => ?_) (fun hc => ?_) <;> try (exfalso; omega)) | refine Cw.cond_bool rfl (fun hc => ?_) (fun hc => ?_)) | (refine Ops.k_calla ?_; first | (refine Ops.k_callf 66 ?_; refine Ops.callV hkey (Evs.cons rfl Evs.nil) rfl ?_) | (refine Ops.k_callf 66 ?_; refine Ops.callV hgrp (Evs.cons rfl Evs.nil) rfl ?_) | (refine Ops.k_callf 41 ?_; refine Ops.callS hany (Evs.cons rfl (Evs.cons rfl Evs.nil)) goPk rfl ?_) | (refine Ops.k_callf 85 ?_; refine Ops.callV k1 (Evs.cons rfl Evs.nil) rfl ?_) | (refine Ops.k_callf 85 ?_; refine Ops.callV k2 (Evs.cons rfl Evs.nil) rfl ?_) | (refine Ops.k_callf 68 ?_; refine Ops.callV k3 (Evs.cons rfl Evs.nil) rfl ?_)) | (apply OpW.k_call; first | (apply OpW.k_callf 66; exact OpW.callV hkey (Evs.cons rfl Evs.nil)) | (apply OpW.k_callf 66; exact OpW.callV hgrp (Evs.cons rfl Evs.nil)) | (apply OpW.k_callf 41; exact OpW.callS hany (Evs.cons rfl (Evs.cons rfl Evs.nil)) goPk) | (apply OpW.k_callf 85; exact OpW.callV k1 (Evs.cons rfl Evs.nil)) | (apply OpW.k_callf 85; exact OpW.callV k2 (Evs.cons rfl Evs.nil)) | (apply OpW.k_callf 68; exact OpW.callV k3 (Evs.cons rfl Evs.nil))) | refine goR ?_ | refine goP ?_ | apply PSeq.cons | apply PSeq.yes rfl rfl rfl | exact goW | fail)
      exact Fin.ret (Ent.take goTk) (Outs.one rfl rfl) ⟨rfl, congrArg Tr.int hfin.symm⟩
    · have h := h.symm
      repeat' (first | refine goH ?_ | refine goV ?_ | refine goB (fun b => ?_) | refine goG ?_ | (refine Ops.k_guard ?_; first | (refine Ops.guard_dec rfl rfl (fun hc => ?_) (fun hc => ?_) <;> try (exfalso; omega)) | refine Ops.guard_split rfl rfl (fun hc => ?_) (fun hc => ?_)) | refine goI ?_ | (refine Cw.k_cond ?_; first | (refine Cw.cond_dec rfl (fun hc => ?_) (fun hc => ?_) <;> try (exfalso; omega)) | refine Cw.cond_bool rfl (fun hc => ?_) (fun hc => ?_)) | (refine Ops.k_calla ?_; first | (refine Ops.k_callf 66 ?_; refine Ops.callV hkey (Evs.cons rfl Evs.nil) rfl ?_) | (refine Ops.k_callf 66 ?_; refine Ops.callV hgrp (Evs.cons rfl Evs.nil) rfl ?_) | (refine Ops.k_callf 41 ?_; refine Ops.callS hany (Evs.cons rfl (Evs.cons rfl Evs.nil)) goPk rfl ?_) | (refine Ops.k_callf 85 ?_; refine Ops.callV k1 (Evs.cons rfl Evs.nil) rfl ?_) | (refine Ops.k_callf 85 ?_; refine Ops.callV k2 (Evs.cons rfl Evs.nil) rfl ?_) | (refine Ops.k_callf 68 ?_; refine Ops.callV k3 (Evs.cons rfl Evs.nil) rfl ?_)) | (apply OpW.k_call; first | (apply OpW.k_callf 66; exact OpW.callV hkey (Evs.cons rfl Evs.nil)) | (apply OpW.k_callf 66; exact OpW.callV hgrp (Evs.cons rfl Evs.nil)) | (apply OpW.k_callf 41; exact OpW.callS hany (Evs.cons rfl (Evs.cons rfl Evs.nil)) goPk) | (apply OpW.k_callf 85; exact OpW.callV k1 (Evs.cons rfl Evs.nil)) | (apply OpW.k_callf 85; exact OpW.callV k2 (Evs.cons rfl Evs.nil)) | (apply OpW.k_callf 68; exact OpW.callV k3 (Evs.cons rfl Evs.nil))) | refine goR ?_ | refine goP ?_ | apply PSeq.cons | apply PSeq.yes rfl rfl rfl | exact goW | fail)
      all_goals first | exact Bool.noConfusion (h.symm.trans hc) | exact Fin.ret (Ent.take goTk) (Outs.one rfl rfl) ⟨rfl, congrArg Tr.int hfin.symm⟩
end Lg
