/- A part of the proof of a law of this seat: it adds no condition. By an AI agent. -/
import Derived.Test.YtckmbloodnndeaaGreatDoorPrevN
section
set_option linter.all false
set_option maxRecDepth 100000
set_option maxHeartbeats 4000000
namespace Lg
open Go Go.Proofs

structure Site where
  key : ByteArray
  have_ : List Int
  rate : List Int
def Site.row (x : Site) : List Tr := [.str x.key, .ints x.have_, .ints x.rate]
abbrev Tr.sites (l : List Site) : Tr := Tr.sl 3 (l.map Site.row)
def valE (x : Site) (i : Nat) : Int := match x.have_[i]?, x.rate[i]? with
  | some h, some r => if h < 0 ∨ 10000 < h ∨ r < 0 ∨ 1000000 < r then 1 else 0
  | _, _ => 0
def lenE (x : Site) : Int := if x.have_.length = 0 then 8 else if x.have_.length > 60 then 2 else if x.rate.length ≠ x.have_.length then 3 else 0
def siteE (l : List Site) (k : Nat) : Int := match l[k]? with
  | none => 0
  | some x => if isKey x.key = false then 5 else if prevB (fun x y => strLe x.key y.key) l k x then 7 else if lenE x ≠ 0 then lenE x else firstE (valE x) 0 x.have_.length
def sitesE (l : List Site) : Int := if l.length > 200 then 2 else firstE (siteE l) 0 l.length
def SBd (l : List Site) : Prop := l.length ≤ 1000 ∧ ∀ x ∈ l, x.have_.length ≤ 1000 ∧ x.rate.length ≤ 1000

theorem checkSites_fn (l : List Site) (hl : SBd l) : PFn Tryz.prog 38 [.sites l] (· = .int (sitesE l)) := by
  refine PFn.mk (Spec.body Tryz.func38 rfl rfl (Tryz.ntmps38) rfl fun w0 own0 M => ?_)
  have hL : (l.map Site.row).length = l.length := List.length_map _
  have hll := hl.1
  by_cases h30 : l.length > 200
  · repeat' (first | refine goH ?_ | refine goV ?_ | refine goB (fun b => ?_) | refine goG ?_ | (refine Ops.k_guard ?_; first | (refine Ops.guard_dec rfl rfl (fun hc => ?_) (fun hc => ?_) <;> try (exfalso; omega)) | refine Ops.guard_split rfl rfl (fun hc => ?_) (fun hc => ?_)) | refine goI ?_ | (refine Cw.k_cond ?_; first | (refine Cw.cond_dec rfl (fun hc => ?_) (fun hc => ?_) <;> try (exfalso; omega)) | refine Cw.cond_bool rfl (fun hc => ?_) (fun hc => ?_)) | refine goR ?_ | refine goP ?_ | apply PSeq.cons | apply PSeq.yes rfl rfl rfl | exact goW | fail)
    refine Fin.ret (Ent.take goTk) (Outs.one rfl rfl) ⟨rfl, congrArg Tr.int ?_⟩
    unfold sitesE
    rw [if_pos h30]
  have hV0 : sitesE l = firstE (siteE l) 0 (l.length - 0) := by unfold sitesE; rw [if_neg h30]; rfl
  repeat' (first | refine goH ?_ | refine goV ?_ | refine goB (fun b => ?_) | refine goG ?_ | (refine Ops.k_guard ?_; first | (refine Ops.guard_dec rfl rfl (fun hc => ?_) (fun hc => ?_) <;> try (exfalso; omega)) | refine Ops.guard_split rfl rfl (fun hc => ?_) (fun hc => ?_)) | refine goI ?_ | (refine Cw.k_cond ?_; first | (refine Cw.cond_dec rfl (fun hc => ?_) (fun hc => ?_) <;> try (exfalso; omega)) | refine Cw.cond_bool rfl (fun hc => ?_) (fun hc => ?_)) | refine goR ?_ | refine goP ?_ | apply PSeq.cons | apply PSeq.yes rfl rfl rfl | exact goW | fail)
  refine Cw.loopI [(0, _), (10, _), (11, _)] _ (fun n e c => ∃ k : Nat, n = l.length - k ∧ (k ≤ l.length ∧ sitesE l = firstE (siteE l) k (l.length - k)) ∧ e = [(12, .int k)] ∧ c = []) ⟨_, _, _, (Ent.mkP goSub goPm), 0, rfl, ⟨by omega, hV0⟩, rfl, rfl⟩ ?_
  rintro _ _ _ ⟨k, rfl, ⟨hk, hV⟩, rfl, rfl⟩
  by_cases hkl : k < l.length
  rotate_left
  · repeat' (first | refine goH ?_ | refine goV ?_ | refine goB (fun b => ?_) | refine goG ?_ | (refine Ops.k_guard ?_; first | (refine Ops.guard_dec rfl rfl (fun hc => ?_) (fun hc => ?_) <;> try (exfalso; omega)) | refine Ops.guard_split rfl rfl (fun hc => ?_) (fun hc => ?_)) | refine goI ?_ | (refine Cw.k_cond ?_; first | (refine Cw.cond_dec rfl (fun hc => ?_) (fun hc => ?_) <;> try (exfalso; omega)) | refine Cw.cond_bool rfl (fun hc => ?_) (fun hc => ?_)) | refine goR ?_ | refine goP ?_ | apply PSeq.cons | apply PSeq.yes rfl rfl rfl | exact goW | fail)
    refine Fin.ret (Ent.take goTk) (Outs.one rfl rfl) ⟨rfl, congrArg Tr.int ?_⟩
    rw [hV, firstE_end hkl]
  obtain ⟨x, hx⟩ := at_lt hkl
  obtain ⟨b1, b2⟩ := hl.2 x (List.mem_of_getElem? hx)
  have hH := intRows_len x.have_
  have hR := intRows_len x.rate
  have hrow : (l.map Site.row)[k]? = some [.str x.key, .ints x.have_, .ints x.rate] := rows_at hx
  have hkey := key_fn x.key
  have fin : ∀ c, siteE l k = c → c ≠ 0 → sitesE l = c := fun c h1 h2 => hV.trans (firstE_bad hkl h1 h2)
  have nxt : siteE l k = 0 → sitesE l = firstE (siteE l) (k + 1) (l.length - (k + 1)) := fun h1 => hV.trans (firstE_ok hkl h1)
  have hoe : siteE l k = if isKey x.key = false then 5 else if prevB (fun x y => strLe x.key y.key) l k x then 7 else if lenE x ≠ 0 then lenE x else firstE (valE x) 0 x.have_.length := by unfold siteE; rw [hx]
  clear hV
  by_cases g1 : isKey x.key = false
  · rw [g1] at hkey
    rw [if_pos g1] at hoe
    repeat' (first | refine goH ?_ | refine goV ?_ | refine goB (fun b => ?_) | refine goG ?_ | (refine Ops.k_guard ?_; first | (refine Ops.guard_dec rfl rfl (fun hc => ?_) (fun hc => ?_) <;> try (exfalso; omega)) | refine Ops.guard_split rfl rfl (fun hc => ?_) (fun hc => ?_)) | refine goI ?_ | (refine Cw.k_cond ?_; first | (refine Cw.cond_dec rfl (fun hc => ?_) (fun hc => ?_) <;> try (exfalso; omega)) | refine Cw.cond_bool rfl (fun hc => ?_) (fun hc => ?_)) | (refine Ops.k_calla ?_; first | (refine Ops.k_callf 63 ?_; refine Ops.callV hkey (Evs.cons rfl Evs.nil) rfl ?_)) | (apply OpW.k_call; first | (apply OpW.k_callf 63; exact OpW.callV hkey (Evs.cons rfl Evs.nil))) | refine goR ?_ | refine goP ?_ | apply PSeq.cons | apply PSeq.yes rfl rfl rfl | exact goW | fail)
    exact Fin.ret (Ent.take goTk) (Outs.one rfl rfl) ⟨rfl, congrArg Tr.int (fin 5 hoe (by decide)).symm⟩
  rw [if_neg g1] at hoe
  replace g1 : isKey x.key = true := by simpa using g1
  rw [g1] at hkey
  obtain ⟨pb, hpb⟩ : ∃ b, prevB (fun x y => strLe x.key y.key) l k x = b := ⟨_, rfl⟩
  have hprev : k = 0 ∧ pb = false ∨ ∃ (j : Nat) (y : Site), k = j + 1 ∧ (l.map Site.row)[(((j + 1 : Nat) : Int) - 1).toNat]? = some [.str y.key, .ints y.have_, .ints y.rate] ∧ pb = (strLt x.key y.key || decide (x.key = y.key)) := by
    cases k with
    | zero => exact .inl ⟨rfl, by rw [← hpb]; rfl⟩
    | succ j =>
      obtain ⟨y, hy⟩ := at_lt (l := l) (k := j) (by omega)
      exact .inr ⟨j, y, rfl, by rw [show (((j + 1 : Nat) : Int) - 1).toNat = j by omega]; exact rows_at hy, by rw [← hpb]; simp [prevB, hy, strLe]⟩
  rw [hpb] at hoe
  clear hpb
  cases pb
  rotate_left
  · rcases hprev with ⟨_, h⟩ | ⟨j, y, rfl, hrow2, h⟩
    · cases h
    rw [if_pos rfl] at hoe
    have h := h.symm
    repeat' (first | refine goH ?_ | refine goV ?_ | refine goB (fun b => ?_) | refine goG ?_ | (refine Ops.k_guard ?_; first | (refine Ops.guard_dec rfl rfl (fun hc => ?_) (fun hc => ?_) <;> try (exfalso; omega)) | refine Ops.guard_split rfl rfl (fun hc => ?_) (fun hc => ?_)) | refine goI ?_ | (refine Cw.k_cond ?_; first | (refine Cw.cond_dec rfl (fun hc => ?_) (fun hc => ?_) <;> try (exfalso; omega)) | refine Cw.cond_bool rfl (fun hc => ?_) (fun hc => ?_)) | (apply OpV.w; apply OpV.k_b_leq; exact OpV.leqS_is rfl rfl h) | (refine Ops.k_calla ?_; first | (refine Ops.k_callf 63 ?_; refine Ops.callV hkey (Evs.cons rfl Evs.nil) rfl ?_)) | (apply OpW.k_call; first | (apply OpW.k_callf 63; exact OpW.callV hkey (Evs.cons rfl Evs.nil))) | refine goR ?_ | refine goP ?_ | apply PSeq.cons | apply PSeq.yes rfl rfl rfl | exact goW | fail)
    all_goals first | exact Bool.noConfusion (h.symm.trans hc) | exact Fin.ret (Ent.take goTk) (Outs.one rfl rfl) ⟨rfl, congrArg Tr.int (fin 7 hoe (by decide)).symm⟩
  rw [if_neg (by decide)] at hoe
  by_cases g3 : lenE x ≠ 0
  · rw [if_pos g3] at hoe
    have hfin := fin _ hoe g3
    have hpe : lenE x = if x.have_.length = 0 then 8 else if x.have_.length > 60 then 2 else if x.rate.length ≠ x.have_.length then 3 else 0 := rfl
    rw [hpe] at hfin g3
    by_cases q1 : x.have_.length = 0
    · rw [if_pos q1] at hfin
      rcases hprev with ⟨rfl, _⟩ | ⟨j, y, rfl, hrow2, h⟩
      · repeat' (first | refine goH ?_ | refine goV ?_ | refine goB (fun b => ?_) | refine goG ?_ | (refine Ops.k_guard ?_; first | (refine Ops.guard_dec rfl rfl (fun hc => ?_) (fun hc => ?_) <;> try (exfalso; omega)) | refine Ops.guard_split rfl rfl (fun hc => ?_) (fun hc => ?_)) | refine goI ?_ | (refine Cw.k_cond ?_; first | (refine Cw.cond_dec rfl (fun hc => ?_) (fun hc => ?_) <;> try (exfalso; omega)) | refine Cw.cond_bool rfl (fun hc => ?_) (fun hc => ?_)) | (refine Ops.k_calla ?_; first | (refine Ops.k_callf 63 ?_; refine Ops.callV hkey (Evs.cons rfl Evs.nil) rfl ?_)) | (apply OpW.k_call; first | (apply OpW.k_callf 63; exact OpW.callV hkey (Evs.cons rfl Evs.nil))) | refine goR ?_ | refine goP ?_ | apply PSeq.cons | apply PSeq.yes rfl rfl rfl | exact goW | fail)
        exact Fin.ret (Ent.take goTk) (Outs.one rfl rfl) ⟨rfl, congrArg Tr.int hfin.symm⟩
      · have h := h.symm
        repeat' (first | refine goH ?_ | refine goV ?_ | refine goB (fun b => ?_) | refine goG ?_ | (refine Ops.k_guard ?_; first | (refine Ops.guard_dec rfl rfl (fun hc => ?_) (fun hc => ?_) <;> try (exfalso; omega)) | refine Ops.guard_split rfl rfl (fun hc => ?_) (fun hc => ?_)) | refine goI ?_ | (refine Cw.k_cond ?_; first | (refine Cw.cond_dec rfl (fun hc => ?_) (fun hc => ?_) <;> try (exfalso; omega)) | refine Cw.cond_bool rfl (fun hc => ?_) (fun hc => ?_)) | (apply OpV.w; apply OpV.k_b_leq; exact OpV.leqS_is rfl rfl h) | (refine Ops.k_calla ?_; first | (refine Ops.k_callf 63 ?_; refine Ops.callV hkey (Evs.cons rfl Evs.nil) rfl ?_)) | (apply OpW.k_call; first | (apply OpW.k_callf 63; exact OpW.callV hkey (Evs.cons rfl Evs.nil))) | refine goR ?_ | refine goP ?_ | apply PSeq.cons | apply PSeq.yes rfl rfl rfl | exact goW | fail)
        all_goals first | exact Bool.noConfusion (h.symm.trans hc) | exact Fin.ret (Ent.take goTk) (Outs.one rfl rfl) ⟨rfl, congrArg Tr.int hfin.symm⟩
    by_cases q2 : x.have_.length > 60
    · rw [if_neg q1, if_pos q2] at hfin
      rcases hprev with ⟨rfl, _⟩ | ⟨j, y, rfl, hrow2, h⟩
      · repeat' (first | refine goH ?_ | refine goV ?_ | refine goB (fun b => ?_) | refine goG ?_ | (refine Ops.k_guard ?_; first | (refine Ops.guard_dec rfl rfl (fun hc => ?_) (fun hc => ?_) <;> try (exfalso; omega)) | refine Ops.guard_split rfl rfl (fun hc => ?_) (fun hc => ?_)) | refine goI ?_ | (refine Cw.k_cond ?_; first | (refine Cw.cond_dec rfl (fun hc => ?_) (fun hc => ?_) <;> try (exfalso; omega)) | refine Cw.cond_bool rfl (fun hc => ?_) (fun hc => ?_)) | (refine Ops.k_calla ?_; first | (refine Ops.k_callf 63 ?_; refine Ops.callV hkey (Evs.cons rfl Evs.nil) rfl ?_)) | (apply OpW.k_call; first | (apply OpW.k_callf 63; exact OpW.callV hkey (Evs.cons rfl Evs.nil))) | refine goR ?_ | refine goP ?_ | apply PSeq.cons | apply PSeq.yes rfl rfl rfl | exact goW | fail)
        exact Fin.ret (Ent.take goTk) (Outs.one rfl rfl) ⟨rfl, congrArg Tr.int hfin.symm⟩
      · have h := h.symm
        repeat' (first | refine goH ?_ | refine goV ?_ | refine goB (fun b => ?_) | refine goG ?_ | (refine Ops.k_guard ?_; first | (refine Ops.guard_dec rfl rfl (fun hc => ?_) (fun hc => ?_) <;> try (exfalso; omega)) | refine Ops.guard_split rfl rfl (fun hc => ?_) (fun hc => ?_)) | refine goI ?_ | (refine Cw.k_cond ?_; first | (refine Cw.cond_dec rfl (fun hc => ?_) (fun hc => ?_) <;> try (exfalso; omega)) | refine Cw.cond_bool rfl (fun hc => ?_) (fun hc => ?_)) | (apply OpV.w; apply OpV.k_b_leq; exact OpV.leqS_is rfl rfl h) | (refine Ops.k_calla ?_; first | (refine Ops.k_callf 63 ?_; refine Ops.callV hkey (Evs.cons rfl Evs.nil) rfl ?_)) | (apply OpW.k_call; first | (apply OpW.k_callf 63; exact OpW.callV hkey (Evs.cons rfl Evs.nil))) | refine goR ?_ | refine goP ?_ | apply PSeq.cons | apply PSeq.yes rfl rfl rfl | exact goW | fail)
        all_goals first | exact Bool.noConfusion (h.symm.trans hc) | exact Fin.ret (Ent.take goTk) (Outs.one rfl rfl) ⟨rfl, congrArg Tr.int hfin.symm⟩
    rw [if_neg q1, if_neg q2] at hfin g3
    by_cases q3 : x.rate.length = x.have_.length
    · rw [if_neg (by omega)] at g3; exact absurd rfl g3
    rw [if_pos q3] at hfin
    rcases hprev with ⟨rfl, _⟩ | ⟨j, y, rfl, hrow2, h⟩
    · repeat' (first | refine goH ?_ | refine goV ?_ | refine goB (fun b => ?_) | refine goG ?_ | (refine Ops.k_guard ?_; first | (refine Ops.guard_dec rfl rfl (fun hc => ?_) (fun hc => ?_) <;> try (exfalso; omega)) | refine Ops.guard_split rfl rfl (fun hc => ?_) (fun hc => ?_)) | refine goI ?_ | (refine Cw.k_cond ?_; first | (refine Cw.cond_dec rfl (fun hc => ?_) (fun hc => ?_) <;> try (exfalso; omega)) | refine Cw.cond_bool rfl (fun hc => ?_) (fun hc => ?_)) | (refine Ops.k_calla ?_; first | (refine Ops.k_callf 63 ?_; refine Ops.callV hkey (Evs.cons rfl Evs.nil) rfl ?_)) | (apply OpW.k_call; first | (apply OpW.k_callf 63; exact OpW.callV hkey (Evs.cons rfl Evs.nil))) | refine goR ?_ | refine goP ?_ | apply PSeq.cons | apply PSeq.yes rfl rfl rfl | exact goW | fail)
      exact Fin.ret (Ent.take goTk) (Outs.one rfl rfl) ⟨rfl, congrArg Tr.int hfin.symm⟩
    · have h := h.symm
      repeat' (first | refine goH ?_ | refine goV ?_ | refine goB (fun b => ?_) | refine goG ?_ | (refine Ops.k_guard ?_; first | (refine Ops.guard_dec rfl rfl (fun hc => ?_) (fun hc => ?_) <;> try (exfalso; omega)) | refine Ops.guard_split rfl rfl (fun hc => ?_) (fun hc => ?_)) | refine goI ?_ | (refine Cw.k_cond ?_; first | (refine Cw.cond_dec rfl (fun hc => ?_) (fun hc => ?_) <;> try (exfalso; omega)) | refine Cw.cond_bool rfl (fun hc => ?_) (fun hc => ?_)) | (apply OpV.w; apply OpV.k_b_leq; exact OpV.leqS_is rfl rfl h) | (refine Ops.k_calla ?_; first | (refine Ops.k_callf 63 ?_; refine Ops.callV hkey (Evs.cons rfl Evs.nil) rfl ?_)) | (apply OpW.k_call; first | (apply OpW.k_callf 63; exact OpW.callV hkey (Evs.cons rfl Evs.nil))) | refine goR ?_ | refine goP ?_ | apply PSeq.cons | apply PSeq.yes rfl rfl rfl | exact goW | fail)
      all_goals first | exact Bool.noConfusion (h.symm.trans hc) | exact Fin.ret (Ent.take goTk) (Outs.one rfl rfl) ⟨rfl, congrArg Tr.int hfin.symm⟩
  rw [if_neg g3] at hoe
  have hpe : lenE x = if x.have_.length = 0 then 8 else if x.have_.length > 60 then 2 else if x.rate.length ≠ x.have_.length then 3 else 0 := rfl
  have g30 : lenE x = 0 := by omega
  have q1 : ¬ x.have_.length = 0 := fun h => by rw [hpe, if_pos h] at g30; omega
  rw [if_neg q1] at hpe
  have q2 : ¬ x.have_.length > 60 := fun h => by rw [hpe, if_pos h] at g30; omega
  rw [if_neg q2] at hpe
  have q3 : x.rate.length = x.have_.length := by
    by_cases q : x.rate.length = x.have_.length
    · exact q
    · rw [hpe, if_pos q] at g30; omega
  clear hpe g3 g30
  have hfe : siteE l k = firstE (valE x) 0 (x.have_.length - 0) := hoe
  clear hoe
  rcases hprev with ⟨rfl, _⟩ | ⟨j, y, rfl, hrow2, h⟩
  · repeat' (first | refine goH ?_ | refine goV ?_ | refine goB (fun b => ?_) | refine goG ?_ | (refine Ops.k_guard ?_; first | (refine Ops.guard_dec rfl rfl (fun hc => ?_) (fun hc => ?_) <;> try (exfalso; omega)) | refine Ops.guard_split rfl rfl (fun hc => ?_) (fun hc => ?_)) | refine goI ?_ | (refine Cw.k_cond ?_; first | (refine Cw.cond_dec rfl (fun hc => ?_) (fun hc => ?_) <;> try (exfalso; omega)) | refine Cw.cond_bool rfl (fun hc => ?_) (fun hc => ?_)) | (refine Ops.k_calla ?_; first | (refine Ops.k_callf 63 ?_; refine Ops.callV hkey (Evs.cons rfl Evs.nil) rfl ?_)) | (apply OpW.k_call; first | (apply OpW.k_callf 63; exact OpW.callV hkey (Evs.cons rfl Evs.nil))) | refine goR ?_ | refine goP ?_ | apply PSeq.cons | apply PSeq.yes rfl rfl rfl | exact goW | fail)
    refine Cw.loopI [(4, _), (12, _), (55, _), (56, _), (0, _), (10, _), (11, _)] _ (fun n e c => ∃ i : Nat, n = x.have_.length - i ∧ (i ≤ x.have_.length ∧ siteE l 0 = firstE (valE x) i (x.have_.length - i)) ∧ e = [(57, .int i)] ∧ c = []) ⟨_, _, _, (Ent.mkP goSub goPm), 0, rfl, ⟨by omega, hfe⟩, rfl, rfl⟩ ?_
    rintro _ _ _ ⟨i, rfl, ⟨hi, hW⟩, rfl, rfl⟩
    by_cases hil : i < x.have_.length
    · obtain ⟨hv, hhv⟩ := at_lt hil
      obtain ⟨rv, hrv⟩ := at_lt (l := x.rate) (k := i) (by omega)
      have hr1 := intRows_at hhv
      have hr2 := intRows_at hrv
      have he : valE x i = if hv < 0 ∨ 10000 < hv ∨ rv < 0 ∨ 1000000 < rv then 1 else 0 := by unfold valE; rw [hhv, hrv]
      by_cases hb : hv < 0 ∨ 10000 < hv ∨ rv < 0 ∨ 1000000 < rv
      · rw [if_pos hb] at he
        have hfin := fin 1 (hW.trans (firstE_bad hil he (by decide))) (by decide)
        by_cases hb1 : hv < 0 ∨ 10000 < hv
        · repeat' (first | refine goH ?_ | refine goV ?_ | refine goB (fun b => ?_) | refine goG ?_ | (refine Ops.k_guard ?_; first | (refine Ops.guard_dec rfl rfl (fun hc => ?_) (fun hc => ?_) <;> try (exfalso; omega)) | refine Ops.guard_split rfl rfl (fun hc => ?_) (fun hc => ?_)) | refine goI ?_ | (refine Cw.k_cond ?_; first | (refine Cw.cond_dec rfl (fun hc => ?_) (fun hc => ?_) <;> try (exfalso; omega)) | refine Cw.cond_bool rfl (fun hc => ?_) (fun hc => ?_)) | (refine Ops.k_calla ?_; first | (refine Ops.k_callf 50 ?_; refine Ops.callV (out_t hv 0 10000 (by omega)) (Evs.cons rfl (Evs.cons rfl (Evs.cons rfl Evs.nil))) rfl ?_)) | (apply OpW.k_call; first | (apply OpW.k_callf 50; exact OpW.callV (out_t hv 0 10000 (by omega)) (Evs.cons rfl (Evs.cons rfl (Evs.cons rfl Evs.nil))))) | refine goR ?_ | refine goP ?_ | apply PSeq.cons | apply PSeq.yes rfl rfl rfl | exact goW | fail)
          exact Fin.ret (Ent.take goTk) (Outs.one rfl rfl) ⟨rfl, congrArg Tr.int hfin.symm⟩
        · repeat' (first | refine goH ?_ | refine goV ?_ | refine goB (fun b => ?_) | refine goG ?_ | (refine Ops.k_guard ?_; first | (refine Ops.guard_dec rfl rfl (fun hc => ?_) (fun hc => ?_) <;> try (exfalso; omega)) | refine Ops.guard_split rfl rfl (fun hc => ?_) (fun hc => ?_)) | refine goI ?_ | (refine Cw.k_cond ?_; first | (refine Cw.cond_dec rfl (fun hc => ?_) (fun hc => ?_) <;> try (exfalso; omega)) | refine Cw.cond_bool rfl (fun hc => ?_) (fun hc => ?_)) | (refine Ops.k_calla ?_; first | (refine Ops.k_callf 50 ?_; refine Ops.callV (out_f hv 0 10000 (by omega)) (Evs.cons rfl (Evs.cons rfl (Evs.cons rfl Evs.nil))) rfl ?_) | (refine Ops.k_callf 50 ?_; refine Ops.callV (out_t rv 0 1000000 (by omega)) (Evs.cons rfl (Evs.cons rfl (Evs.cons rfl Evs.nil))) rfl ?_)) | (apply OpW.k_call; first | (apply OpW.k_callf 50; exact OpW.callV (out_f hv 0 10000 (by omega)) (Evs.cons rfl (Evs.cons rfl (Evs.cons rfl Evs.nil)))) | (apply OpW.k_callf 50; exact OpW.callV (out_t rv 0 1000000 (by omega)) (Evs.cons rfl (Evs.cons rfl (Evs.cons rfl Evs.nil))))) | refine goR ?_ | refine goP ?_ | apply PSeq.cons | apply PSeq.yes rfl rfl rfl | exact goW | fail)
          exact Fin.ret (Ent.take goTk) (Outs.one rfl rfl) ⟨rfl, congrArg Tr.int hfin.symm⟩
      · rw [if_neg hb] at he
        repeat' (first | refine goH ?_ | refine goV ?_ | refine goB (fun b => ?_) | refine goG ?_ | (refine Ops.k_guard ?_; first | (refine Ops.guard_dec rfl rfl (fun hc => ?_) (fun hc => ?_) <;> try (exfalso; omega)) | refine Ops.guard_split rfl rfl (fun hc => ?_) (fun hc => ?_)) | refine goI ?_ | (refine Cw.k_cond ?_; first | (refine Cw.cond_dec rfl (fun hc => ?_) (fun hc => ?_) <;> try (exfalso; omega)) | refine Cw.cond_bool rfl (fun hc => ?_) (fun hc => ?_)) | (refine Ops.k_calla ?_; first | (refine Ops.k_callf 50 ?_; refine Ops.callV (out_f hv 0 10000 (by omega)) (Evs.cons rfl (Evs.cons rfl (Evs.cons rfl Evs.nil))) rfl ?_) | (refine Ops.k_callf 50 ?_; refine Ops.callV (out_f rv 0 1000000 (by omega)) (Evs.cons rfl (Evs.cons rfl (Evs.cons rfl Evs.nil))) rfl ?_)) | (apply OpW.k_call; first | (apply OpW.k_callf 50; exact OpW.callV (out_f hv 0 10000 (by omega)) (Evs.cons rfl (Evs.cons rfl (Evs.cons rfl Evs.nil)))) | (apply OpW.k_callf 50; exact OpW.callV (out_f rv 0 1000000 (by omega)) (Evs.cons rfl (Evs.cons rfl (Evs.cons rfl Evs.nil))))) | refine goR ?_ | refine goP ?_ | apply PSeq.cons | apply PSeq.yes rfl rfl rfl | exact goW | fail)
        exact ⟨_, _, _, (Ent.mk goSub goTk), ⟨i + 1, rfl, ⟨by omega, hW.trans (firstE_ok hil he)⟩, rfl, rfl⟩, by omega⟩
    · rw [firstE_end hil] at hW
      repeat' (first | refine goH ?_ | refine goV ?_ | refine goB (fun b => ?_) | refine goG ?_ | (refine Ops.k_guard ?_; first | (refine Ops.guard_dec rfl rfl (fun hc => ?_) (fun hc => ?_) <;> try (exfalso; omega)) | refine Ops.guard_split rfl rfl (fun hc => ?_) (fun hc => ?_)) | refine goI ?_ | (refine Cw.k_cond ?_; first | (refine Cw.cond_dec rfl (fun hc => ?_) (fun hc => ?_) <;> try (exfalso; omega)) | refine Cw.cond_bool rfl (fun hc => ?_) (fun hc => ?_)) | refine goR ?_ | refine goP ?_ | apply PSeq.cons | apply PSeq.yes rfl rfl rfl | exact goW | fail)
      exact ⟨_, _, _, (Ent.mk goSub goTk), ⟨_, rfl, ⟨by omega, nxt hW⟩, rfl, rfl⟩, by omega⟩
  · have h := h.symm
    repeat' (first | refine goH ?_ | refine goV ?_ | refine goB (fun b => ?_) | refine goG ?_ | (refine Ops.k_guard ?_; first | (refine Ops.guard_dec rfl rfl (fun hc => ?_) (fun hc => ?_) <;> try (exfalso; omega)) | refine Ops.guard_split rfl rfl (fun hc => ?_) (fun hc => ?_)) | refine goI ?_ | (refine Cw.k_cond ?_; first | (refine Cw.cond_dec rfl (fun hc => ?_) (fun hc => ?_) <;> try (exfalso; omega)) | refine Cw.cond_bool rfl (fun hc => ?_) (fun hc => ?_)) | (apply OpV.w; apply OpV.k_b_leq; exact OpV.leqS_is rfl rfl h) | (refine Ops.k_calla ?_; first | (refine Ops.k_callf 63 ?_; refine Ops.callV hkey (Evs.cons rfl Evs.nil) rfl ?_)) | (apply OpW.k_call; first | (apply OpW.k_callf 63; exact OpW.callV hkey (Evs.cons rfl Evs.nil))) | refine goR ?_ | refine goP ?_ | apply PSeq.cons | apply PSeq.yes rfl rfl rfl | exact goW | fail)
    refine Cw.loopI [(4, _), (12, _), (55, _), (56, _), (0, _), (10, _), (11, _)] _ (fun n e c => ∃ i : Nat, n = x.have_.length - i ∧ (i ≤ x.have_.length ∧ siteE l (j + 1) = firstE (valE x) i (x.have_.length - i)) ∧ e = [(57, .int i)] ∧ c = []) ⟨_, _, _, (Ent.mkP goSub goPm), 0, rfl, ⟨by omega, hfe⟩, rfl, rfl⟩ ?_
    rintro _ _ _ ⟨i, rfl, ⟨hi, hW⟩, rfl, rfl⟩
    by_cases hil : i < x.have_.length
    · obtain ⟨hv, hhv⟩ := at_lt hil
      obtain ⟨rv, hrv⟩ := at_lt (l := x.rate) (k := i) (by omega)
      have hr1 := intRows_at hhv
      have hr2 := intRows_at hrv
      have he : valE x i = if hv < 0 ∨ 10000 < hv ∨ rv < 0 ∨ 1000000 < rv then 1 else 0 := by unfold valE; rw [hhv, hrv]
      by_cases hb : hv < 0 ∨ 10000 < hv ∨ rv < 0 ∨ 1000000 < rv
      · rw [if_pos hb] at he
        have hfin := fin 1 (hW.trans (firstE_bad hil he (by decide))) (by decide)
        by_cases hb1 : hv < 0 ∨ 10000 < hv
        · repeat' (first | refine goH ?_ | refine goV ?_ | refine goB (fun b => ?_) | refine goG ?_ | (refine Ops.k_guard ?_; first | (refine Ops.guard_dec rfl rfl (fun hc => ?_) (fun hc => ?_) <;> try (exfalso; omega)) | refine Ops.guard_split rfl rfl (fun hc => ?_) (fun hc => ?_)) | refine goI ?_ | (refine Cw.k_cond ?_; first | (refine Cw.cond_dec rfl (fun hc => ?_) (fun hc => ?_) <;> try (exfalso; omega)) | refine Cw.cond_bool rfl (fun hc => ?_) (fun hc => ?_)) | (refine Ops.k_calla ?_; first | (refine Ops.k_callf 50 ?_; refine Ops.callV (out_t hv 0 10000 (by omega)) (Evs.cons rfl (Evs.cons rfl (Evs.cons rfl Evs.nil))) rfl ?_)) | (apply OpW.k_call; first | (apply OpW.k_callf 50; exact OpW.callV (out_t hv 0 10000 (by omega)) (Evs.cons rfl (Evs.cons rfl (Evs.cons rfl Evs.nil))))) | refine goR ?_ | refine goP ?_ | apply PSeq.cons | apply PSeq.yes rfl rfl rfl | exact goW | fail)
          exact Fin.ret (Ent.take goTk) (Outs.one rfl rfl) ⟨rfl, congrArg Tr.int hfin.symm⟩
        · repeat' (first | refine goH ?_ | refine goV ?_ | refine goB (fun b => ?_) | refine goG ?_ | (refine Ops.k_guard ?_; first | (refine Ops.guard_dec rfl rfl (fun hc => ?_) (fun hc => ?_) <;> try (exfalso; omega)) | refine Ops.guard_split rfl rfl (fun hc => ?_) (fun hc => ?_)) | refine goI ?_ | (refine Cw.k_cond ?_; first | (refine Cw.cond_dec rfl (fun hc => ?_) (fun hc => ?_) <;> try (exfalso; omega)) | refine Cw.cond_bool rfl (fun hc => ?_) (fun hc => ?_)) | (refine Ops.k_calla ?_; first | (refine Ops.k_callf 50 ?_; refine Ops.callV (out_f hv 0 10000 (by omega)) (Evs.cons rfl (Evs.cons rfl (Evs.cons rfl Evs.nil))) rfl ?_) | (refine Ops.k_callf 50 ?_; refine Ops.callV (out_t rv 0 1000000 (by omega)) (Evs.cons rfl (Evs.cons rfl (Evs.cons rfl Evs.nil))) rfl ?_)) | (apply OpW.k_call; first | (apply OpW.k_callf 50; exact OpW.callV (out_f hv 0 10000 (by omega)) (Evs.cons rfl (Evs.cons rfl (Evs.cons rfl Evs.nil)))) | (apply OpW.k_callf 50; exact OpW.callV (out_t rv 0 1000000 (by omega)) (Evs.cons rfl (Evs.cons rfl (Evs.cons rfl Evs.nil))))) | refine goR ?_ | refine goP ?_ | apply PSeq.cons | apply PSeq.yes rfl rfl rfl | exact goW | fail)
          exact Fin.ret (Ent.take goTk) (Outs.one rfl rfl) ⟨rfl, congrArg Tr.int hfin.symm⟩
      · rw [if_neg hb] at he
        repeat' (first | refine goH ?_ | refine goV ?_ | refine goB (fun b => ?_) | refine goG ?_ | (refine Ops.k_guard ?_; first | (refine Ops.guard_dec rfl rfl (fun hc => ?_) (fun hc => ?_) <;> try (exfalso; omega)) | refine Ops.guard_split rfl rfl (fun hc => ?_) (fun hc => ?_)) | refine goI ?_ | (refine Cw.k_cond ?_; first | (refine Cw.cond_dec rfl (fun hc => ?_) (fun hc => ?_) <;> try (exfalso; omega)) | refine Cw.cond_bool rfl (fun hc => ?_) (fun hc => ?_)) | (refine Ops.k_calla ?_; first | (refine Ops.k_callf 50 ?_; refine Ops.callV (out_f hv 0 10000 (by omega)) (Evs.cons rfl (Evs.cons rfl (Evs.cons rfl Evs.nil))) rfl ?_) | (refine Ops.k_callf 50 ?_; refine Ops.callV (out_f rv 0 1000000 (by omega)) (Evs.cons rfl (Evs.cons rfl (Evs.cons rfl Evs.nil))) rfl ?_)) | (apply OpW.k_call; first | (apply OpW.k_callf 50; exact OpW.callV (out_f hv 0 10000 (by omega)) (Evs.cons rfl (Evs.cons rfl (Evs.cons rfl Evs.nil)))) | (apply OpW.k_callf 50; exact OpW.callV (out_f rv 0 1000000 (by omega)) (Evs.cons rfl (Evs.cons rfl (Evs.cons rfl Evs.nil))))) | refine goR ?_ | refine goP ?_ | apply PSeq.cons | apply PSeq.yes rfl rfl rfl | exact goW | fail)
        exact ⟨_, _, _, (Ent.mk goSub goTk), ⟨i + 1, rfl, ⟨by omega, hW.trans (firstE_ok hil he)⟩, rfl, rfl⟩, by omega⟩
    · rw [firstE_end hil] at hW
      repeat' (first | refine goH ?_ | refine goV ?_ | refine goB (fun b => ?_) | refine goG ?_ | (refine Ops.k_guard ?_; first | (refine Ops.guard_dec rfl rfl (fun hc => ?_) (fun hc => ?_) <;> try (exfalso; omega)) | refine Ops.guard_split rfl rfl (fun hc => ?_) (fun hc => ?_)) | refine goI ?_ | (refine Cw.k_cond ?_; first | (refine Cw.cond_dec rfl (fun hc => ?_) (fun hc => ?_) <;> try (exfalso; omega)) | refine Cw.cond_bool rfl (fun hc => ?_) (fun hc => ?_)) | refine goR ?_ | refine goP ?_ | apply PSeq.cons | apply PSeq.yes rfl rfl rfl | exact goW | fail)
      exact ⟨_, _, _, (Ent.mk goSub goTk), ⟨_, rfl, ⟨by omega, nxt hW⟩, rfl, rfl⟩, by omega⟩
end Lg
end
section
set_option linter.all false
set_option maxRecDepth 100000
set_option maxHeartbeats 4000000
namespace Lg
open Go Go.Proofs

theorem sitesE_len {l : List Site} (h : sitesE l = 0) : l.length ≤ 200 := by
  unfold sitesE at h
  split at h
  · omega
  · omega
theorem sitesE_at {l : List Site} (h : sitesE l = 0) {k : Nat} {x : Site} (hx : l[k]? = some x) : (1 ≤ x.have_.length ∧ x.have_.length ≤ 60 ∧ x.rate.length = x.have_.length) ∧ ∀ (i : Nat) (a b : Int), x.have_[i]? = some a → x.rate[i]? = some b → 0 ≤ a ∧ a ≤ 10000 ∧ 0 ≤ b ∧ b ≤ 1000000 := by
  unfold sitesE at h
  split at h
  · omega
  have hk := (List.getElem?_eq_some_iff.1 hx).1
  have h2 := firstE_zero h k (Nat.zero_le _) (by omega)
  unfold siteE at h2
  rw [hx] at h2
  simp only at h2
  split at h2
  · omega
  split at h2
  · omega
  split at h2
  · omega
  · rename_i h3
    have hle : lenE x = 0 := by omega
    unfold lenE at hle
    split at hle
    · omega
    split at hle
    · omega
    split at hle
    · omega
    refine ⟨by omega, fun i a b ha hb => ?_⟩
    have h4 := firstE_zero h2 i (Nat.zero_le _) (by have := (List.getElem?_eq_some_iff.1 ha).1; omega)
    unfold valE at h4
    rw [ha, hb] at h4
    simp only at h4
    split at h4
    · omega
    · omega

def leftR : List Int → List Int → Int → Int
  | h :: hs, r :: rs, n => leftR hs rs (if 0 < r then min n (100 * h / r) else n)
  | _, _, n => n
def leftI (x : Site) : Int := leftR x.have_ x.rate 4000
theorem leftR_nil (r : List Int) (n : Int) : leftR [] r n = n := by unfold leftR; rfl

theorem left_fn (l : List Site) (hl : SBd l) : PFn Tryz.prog 9 [.sites l] (· = .tup [.ints (if sitesE l ≠ 0 then [] else l.map leftI), .int (sitesE l)]) := by
  have k1 := checkSites_fn l hl
  have hL : (l.map Site.row).length = l.length := List.length_map _
  refine PFn.mk (Spec.body Tryz.func9 rfl rfl (Tryz.ntmps9) rfl fun w0 own0 M => ?_)
  by_cases h1 : sitesE l ≠ 0
  · rw [if_pos h1]
    generalize sitesE l = se at *
    repeat' (first | refine goH ?_ | refine goV ?_ | refine goB (fun b => ?_) | refine goC (fun ad cap => ?_) | refine goI ?_ | (refine Cw.k_cond ?_; first | (refine Cw.cond_dec rfl (fun hc => ?_) (fun hc => ?_) <;> try (exfalso; omega)) | refine Cw.cond_bool rfl (fun hc => ?_) (fun hc => ?_)) | (refine Ops.k_calla ?_; first | (refine Ops.k_callf 38 ?_; refine Ops.callV k1 (Evs.cons rfl Evs.nil) rfl ?_)) | fail)
    refine Fin.ret (Ent.trans (Ent.nilsl 1 (s := 2) rfl) (Ent.take goTk)) (Outs.many rfl (OutL.cons goOe (OutL.cons goOe OutL.nil)) rfl) ⟨rfl, rfl⟩
  have h0 : sitesE l = 0 := by omega
  rw [if_neg h1, h0]
  rw [h0] at k1
  have hll := sitesE_len h0
  repeat' (first | refine goH ?_ | refine goV ?_ | refine goB (fun b => ?_) | refine goC (fun ad cap => ?_) | refine goI ?_ | (refine Cw.k_cond ?_; first | (refine Cw.cond_dec rfl (fun hc => ?_) (fun hc => ?_) <;> try (exfalso; omega)) | refine Cw.cond_bool rfl (fun hc => ?_) (fun hc => ?_)) | (refine Ops.k_calla ?_; first | (refine Ops.k_callf 38 ?_; refine Ops.callV k1 (Evs.cons rfl Evs.nil) rfl ?_)) | fail)
  refine Cw.loopI [(16, _), (17, _)] _ (fun n e cc => ∃ (k : Nat) (ad : Option Addr) (cap : Nat) (rows : List (List Tr)), n = l.length - k ∧ (k ≤ l.length ∧ rows = intRows ((l.take k).map leftI) ∧ rows.length = k) ∧ e = [(5, Tr.raw (.slice ad rows.length cap)), (18, .int k)] ∧ cc = [Chunk.own ad cap 1 3 rows])
    ⟨_, _, _, Ent.trans (Ent.nil 1 3) (Ent.mkP goSub goPm), 0, none, 0, [], rfl, ⟨by omega, rfl, by simp⟩, rfl, rfl⟩ ?_
  rintro _ _ _ ⟨k, ad, cap, rows, rfl, ⟨hk, hrows, hrl⟩, rfl, rfl⟩
  by_cases hkl : k < l.length
  · obtain ⟨x, hx⟩ := at_lt hkl
    have hrow : (l.map Site.row)[((k : Nat) : Int).toNat]? = some [.str x.key, .ints x.have_, .ints x.rate] := rows_at hx
    obtain ⟨⟨v1, v2, v3⟩, vb⟩ := sitesE_at h0 hx
    have hH := intRows_len x.have_
    have hR := intRows_len x.rate
    repeat' (first | refine goH ?_ | refine goV ?_ | refine goB (fun b => ?_) | refine goC (fun ad cap => ?_) | refine goI ?_ | (refine Cw.k_cond ?_; first | (refine Cw.cond_dec rfl (fun hc => ?_) (fun hc => ?_) <;> try (exfalso; omega)) | refine Cw.cond_bool rfl (fun hc => ?_) (fun hc => ?_)) | fail)
    refine Cw.loopI [(5, _), (7, _), (16, _), (17, _), (18, _), (23, _), (24, _)] _ (fun q e cc => ∃ (i : Nat) (n : Int), q = x.rate.length - i ∧ (i ≤ x.rate.length ∧ leftR (x.have_.drop i) (x.rate.drop i) n = leftI x ∧ 0 ≤ n ∧ n ≤ 4000) ∧ e = [(8, .int n), (25, .int i)] ∧ cc = [])
      ⟨_, _, _, (Ent.mkP goSub goPm), 0, 4000, rfl, ⟨by omega, rfl, by omega, by omega⟩, rfl, rfl⟩ ?_
    rintro _ _ _ ⟨i, n, rfl, ⟨hi, hV, n1, n2⟩, rfl, rfl⟩
    by_cases hil : i < x.rate.length
    · obtain ⟨rv, hrv⟩ := at_lt hil
      obtain ⟨hv, hhv⟩ := at_lt (l := x.have_) (k := i) (by omega)
      have hr1 := intRows_at hhv
      have hr2 := intRows_at hrv
      have hb := vb i hv rv hhv hrv
      rw [drop_at hhv, drop_at hrv, leftR] at hV
      by_cases hpos : 0 < rv
      · rw [if_pos hpos] at hV
        have hq : 0 ≤ 100 * hv / rv := Int.ediv_nonneg (by omega) (by omega)
        repeat' (first | refine goH ?_ | refine goV ?_ | refine goB (fun b => ?_) | refine goC (fun ad cap => ?_) | refine goI ?_ | (refine Cw.k_cond ?_; first | (refine Cw.cond_dec rfl (fun hc => ?_) (fun hc => ?_) <;> try (exfalso; omega)) | refine Cw.cond_bool rfl (fun hc => ?_) (fun hc => ?_)) | fail)
        exact ⟨_, _, _, (Ent.mk goSub goTk), ⟨i + 1, _, rfl, ⟨by omega, hV, by omega, by omega⟩, rfl, rfl⟩, by omega⟩
      · rw [if_neg hpos] at hV
        repeat' (first | refine goH ?_ | refine goV ?_ | refine goB (fun b => ?_) | refine goC (fun ad cap => ?_) | refine goI ?_ | (refine Cw.k_cond ?_; first | (refine Cw.cond_dec rfl (fun hc => ?_) (fun hc => ?_) <;> try (exfalso; omega)) | refine Cw.cond_bool rfl (fun hc => ?_) (fun hc => ?_)) | fail)
        exact ⟨_, _, _, (Ent.mk goSub goTk), ⟨i + 1, _, rfl, ⟨by omega, hV, by omega, by omega⟩, rfl, rfl⟩, by omega⟩
    · rw [List.drop_eq_nil_of_le (by omega), leftR_nil] at hV
      subst hV
      have key : rows ++ [[Tr.int (leftI x)]] = intRows ((l.take (k + 1)).map leftI) := by rw [take_at hx, List.map_append, intRows_app, ← hrows]; rfl
      repeat' (first | refine goH ?_ | refine goV ?_ | refine goB (fun b => ?_) | refine goC (fun ad cap => ?_) | refine goI ?_ | (refine Cw.k_cond ?_; first | (refine Cw.cond_dec rfl (fun hc => ?_) (fun hc => ?_) <;> try (exfalso; omega)) | refine Cw.cond_bool rfl (fun hc => ?_) (fun hc => ?_)) | fail)
      rw [key]
      exact ⟨_, _, _, (Ent.mk goSub goTk), ⟨k + 1, _, _, _, rfl, ⟨by omega, rfl, by rw [intRows_len, List.length_map, List.length_take]; omega⟩, rfl, rfl⟩, by omega⟩
  · rw [List.take_of_length_le (by omega)] at hrows
    subst hrows
    repeat' (first | refine goH ?_ | refine goV ?_ | refine goB (fun b => ?_) | refine goC (fun ad cap => ?_) | refine goI ?_ | (refine Cw.k_cond ?_; first | (refine Cw.cond_dec rfl (fun hc => ?_) (fun hc => ?_) <;> try (exfalso; omega)) | refine Cw.cond_bool rfl (fun hc => ?_) (fun hc => ?_)) | fail)
    refine Fin.ret (Ent.trans (Ent.settle (s := 2) rfl goPk rfl) (Ent.take goTk)) (Outs.many rfl (OutL.cons goOe (OutL.cons goOe OutL.nil)) rfl) ⟨rfl, rfl⟩
end Lg
end
