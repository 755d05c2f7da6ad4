/- A part of the proof of a law of this seat: it adds no condition. By an AI agent. -/
import Derived.Test.YtdkioblnppppeaaGreatDoorCmpOrI
section
set_option linter.all false
set_option maxRecDepth 100000
set_option maxHeartbeats 8000000
namespace Lg
open Go Go.Proofs

/-! ### strings compared; names with numbers -/
theorem cmpString_fn (a b : ByteArray) : PFn Tryz.prog 62 [.str a, .str b] (· = .int (cmpS a b)) := by
  have hx : ∀ w, (callFunc 71 #[.string a, .string b]).run Tryz.prog w = .ok (.value (.int .i64 (cmpS a b))) w := fun w => by
    rw [run_callFunc_extern Tryz.func71 (by kernel_rfl) (by kernel_rfl) (by kernel_rfl) (e := Extern.BytealgCompare.compare) (by kernel_rfl), Lib.run_compareString, cmpS_cb]
    rfl
  refine PFn.mk (Spec.body Tryz.func62 rfl rfl (Tryz.ntmps62) rfl fun w0 own0 M => ?_)
  repeat' (first | refine Ops.nil ?_ | refine Then.norm ?_ | refine Cw.seq ?_ | refine Cw.region ?_ | refine Cw.block ?_ | refine Cw.exit ?_ | refine Cw.skip ?_ | refine Cw.ret ?_ | refine Then.exit ?_ | refine Then.ret ?_ | refine InB.exit ?_ | refine InB.norm ?_ | refine InB.ret ?_ | refine InB.exit_ne rfl ?_ | (refine Ops.k_move ?_; first | refine Ops.move rfl rfl ?_ | refine Ops.move_any rfl ?_) | (refine Ops.k_assign ?_; first | refine Ops.assign rfl rfl ?_ | refine Ops.assign_any rfl ?_) | (refine Cw.k_cond ?_; first | refine Cw.cond_true rfl ?_ | refine Cw.cond_false rfl ?_ | (refine Cw.cond_dec rfl (fun hc => ?_) (fun hc => ?_) <;> try (exfalso; omega)) | refine Cw.cond_bool rfl (fun hc => ?_) (fun hc => ?_)) | refine Ops.ext2 hx rfl rfl rfl ?_)
  exact Fin.ret (Ent.take goTk) (Outs.one rfl rfl) ⟨rfl, rfl⟩
theorem compareS_fn (a b : ByteArray) : PFn Tryz.prog 42 [.str a, .str b] (· = .int (cmpS a b)) := by
  have k1 := cmpString_fn a b
  refine PFn.mk (Spec.body Tryz.func42 rfl rfl (Tryz.ntmps42) rfl fun w0 own0 M => ?_)
  repeat' (first | refine Ops.nil ?_ | refine Then.norm ?_ | refine Cw.seq ?_ | refine Cw.region ?_ | refine Cw.block ?_ | refine Cw.exit ?_ | refine Cw.skip ?_ | refine Cw.ret ?_ | refine Then.exit ?_ | refine Then.ret ?_ | refine InB.exit ?_ | refine InB.norm ?_ | refine InB.ret ?_ | refine InB.exit_ne rfl ?_ | (refine Ops.k_move ?_; first | refine Ops.move rfl rfl ?_ | refine Ops.move_any rfl ?_) | (refine Ops.k_assign ?_; first | refine Ops.assign rfl rfl ?_ | refine Ops.assign_any rfl ?_) | (refine Cw.k_cond ?_; first | refine Cw.cond_true rfl ?_ | refine Cw.cond_false rfl ?_ | (refine Cw.cond_dec rfl (fun hc => ?_) (fun hc => ?_) <;> try (exfalso; omega)) | refine Cw.cond_bool rfl (fun hc => ?_) (fun hc => ?_)) | (refine Ops.k_calla ?_; first | (refine Ops.k_callf 62 ?_; refine Ops.callV k1 (Evs.cons rfl (Evs.cons rfl Evs.nil)) rfl ?_)))
  exact Fin.ret (Ent.take goTk) (Outs.one rfl rfl) ⟨rfl, rfl⟩
end Lg
end
section
set_option linter.all false
set_option maxRecDepth 100000
set_option maxHeartbeats 4000000
namespace Lg
open Go Go.Proofs

def freshP (p : ByteArray) (fr : Int) (x : Lot) : Int := if x.prod = p ∧ fr ≤ x.exp then x.many else 0
def freshI (l : List Lot) (p : ByteArray) (fr : Int) : Int := sumF (freshP p fr) l
def countI (l : List Lot) (p : ByteArray) : Int := sumF (fun x => if x.prod = p then x.many else 0) l
def countErr (l : List Lot) (p : ByteArray) : Int := if lotsErr l ≠ 0 then lotsErr l else if isKey p = false then 5 else 0
theorem countI_fresh {l : List Lot} {p : ByteArray} (h : ∀ x ∈ l, 0 ≤ x.exp) : freshI l p 0 = countI l p :=
  sumF_ext fun x hx => by
    unfold freshP
    by_cases hp : x.prod = p
    · rw [if_pos ⟨hp, h x hx⟩, if_pos hp]
    · rw [if_neg (fun h => hp h.1), if_neg hp]

theorem count_fn (l : List Lot) (hl : l.length ≤ 1000000) (p : ByteArray) : PFn Tryz.prog 51 [.lots l, .str p] (· = .tup [.int (if countErr l p ≠ 0 then 0 else countI l p), .int (countErr l p)]) := by
  have h1 := checkLots_fn l hl
  have h2 := key_fn p
  refine PFn.mk (Spec.body Tryz.func51 rfl rfl (Tryz.ntmps51) rfl fun w0 own0 M => ?_)
  by_cases h0 : lotsErr l ≠ 0
  · rw [show countErr l p = lotsErr l by unfold countErr; rw [if_pos h0], if_pos h0]
    repeat' (first | refine goH ?_ | refine goV ?_ | refine goB (fun b => ?_) | refine goI ?_ | (refine Cw.k_cond ?_; first | (refine Cw.cond_dec rfl (fun hc => ?_) (fun hc => ?_) <;> try (exfalso; omega)) | refine Cw.cond_bool rfl (fun hc => ?_) (fun hc => ?_)) | (refine Ops.k_calla ?_; first | (refine Ops.k_callf 54 ?_; refine Ops.callV h1 (Evs.cons rfl Evs.nil) rfl ?_)) | fail)
    refine Fin.ret (Ent.take goTk) (Outs.many rfl (OutL.cons goOe (OutL.cons goOe OutL.nil)) rfl) ⟨rfl, rfl⟩
  have he : lotsErr l = 0 := by omega
  rw [he] at h1
  by_cases hk : isKey p = false
  · rw [show countErr l p = 5 by unfold countErr; rw [if_neg h0, if_pos hk]]
    rw [hk] at h2
    repeat' (first | refine goH ?_ | refine goV ?_ | refine goB (fun b => ?_) | refine goI ?_ | (refine Cw.k_cond ?_; first | (refine Cw.cond_dec rfl (fun hc => ?_) (fun hc => ?_) <;> try (exfalso; omega)) | refine Cw.cond_bool rfl (fun hc => ?_) (fun hc => ?_)) | (refine Ops.k_calla ?_; first | (refine Ops.k_callf 54 ?_; refine Ops.callV h1 (Evs.cons rfl Evs.nil) rfl ?_) | (refine Ops.k_callf 28 ?_; refine Ops.callV h2 (Evs.cons rfl Evs.nil) rfl ?_)) | fail)
    refine Fin.ret (Ent.take goTk) (Outs.many rfl (OutL.cons goOe (OutL.cons goOe OutL.nil)) rfl) ⟨rfl, rfl⟩
  rw [show countErr l p = 0 by unfold countErr; rw [if_neg h0, if_neg hk], if_neg (by decide)]
  replace hk : isKey p = true := by simpa using hk
  rw [hk] at h2
  obtain ⟨_, hx⟩ := lotsErr_ok he
  have hL : (l.map Lot.row).length = l.length := List.length_map _
  repeat' (first | refine goH ?_ | refine goV ?_ | refine goB (fun b => ?_) | refine goI ?_ | (refine Cw.k_cond ?_; first | (refine Cw.cond_dec rfl (fun hc => ?_) (fun hc => ?_) <;> try (exfalso; omega)) | refine Cw.cond_bool rfl (fun hc => ?_) (fun hc => ?_)) | (refine Ops.k_calla ?_; first | (refine Ops.k_callf 54 ?_; refine Ops.callV h1 (Evs.cons rfl Evs.nil) rfl ?_) | (refine Ops.k_callf 28 ?_; refine Ops.callV h2 (Evs.cons rfl Evs.nil) rfl ?_)) | fail)
  refine Cw.loopI [(1, _), (18, _), (19, _)] _ (fun n e c => ∃ (k : Nat) (s : Int), n = l.length - k ∧ (k ≤ l.length ∧ s + countI (l.drop k) p = countI l p ∧ 0 ≤ s ∧ s ≤ 100000 * (k : Int)) ∧ e = [(7, .int s), (20, .int k)] ∧ c = []) ⟨_, _, _, (Ent.mkP goSub goPm), 0, 0, rfl, ⟨by omega, by simp, by omega, by omega⟩, rfl, rfl⟩ ?_
  rintro _ _ _ ⟨k, s, rfl, ⟨hk, hV, b1, b2⟩, rfl, rfl⟩
  by_cases hkl : k < l.length
  · obtain ⟨x, hx'⟩ := at_lt hkl
    have hrow : (l.map Lot.row)[k]? = some [.str x.id, .str x.prod, .int x.exp, .int x.many] := rows_at hx'
    obtain ⟨_, _, _, _, m1, m2⟩ := hx x (List.mem_of_getElem? hx')
    rw [drop_at hx', countI, sumF_cons, ← countI] at hV
    by_cases hp : x.prod = p
    · rw [if_pos hp] at hV
      repeat' (first | refine goH ?_ | refine goV ?_ | refine goB (fun b => ?_) | refine goI ?_ | (refine Cw.k_cond ?_; first | (refine Cw.cond_dec rfl (fun hc => ?_) (fun hc => ?_) <;> try (exfalso; omega)) | refine Cw.cond_bool rfl (fun hc => ?_) (fun hc => ?_)) | fail)
      exact ⟨_, _, _, (Ent.mk goSub goTk), ⟨k + 1, _, rfl, ⟨by omega, by omega, by omega, by omega⟩, rfl, rfl⟩, by omega⟩
    · rw [if_neg hp] at hV
      repeat' (first | refine goH ?_ | refine goV ?_ | refine goB (fun b => ?_) | refine goI ?_ | (refine Cw.k_cond ?_; first | (refine Cw.cond_dec rfl (fun hc => ?_) (fun hc => ?_) <;> try (exfalso; omega)) | refine Cw.cond_bool rfl (fun hc => ?_) (fun hc => ?_)) | fail)
      exact ⟨_, _, _, (Ent.mk goSub goTk), ⟨k + 1, _, rfl, ⟨by omega, by omega, by omega, by omega⟩, rfl, rfl⟩, by omega⟩
  · rw [List.drop_eq_nil_of_le (by omega), countI, sumF] at hV
    repeat' (first | refine goH ?_ | refine goV ?_ | refine goB (fun b => ?_) | refine goI ?_ | (refine Cw.k_cond ?_; first | (refine Cw.cond_dec rfl (fun hc => ?_) (fun hc => ?_) <;> try (exfalso; omega)) | refine Cw.cond_bool rfl (fun hc => ?_) (fun hc => ?_)) | fail)
    refine Fin.ret (Ent.take goTk) (Outs.many rfl (OutL.cons goOe (OutL.cons goOe OutL.nil)) rfl) ⟨rfl, ?_⟩
    rw [show s = countI l p by omega]

theorem stocks_fn : PFn Tryz.prog 20 [] (· = .bool true) := by
  have h := count_fn [⟨⟨#[97]⟩, ⟨#[99, 97, 110]⟩, 0, 3⟩] (by simp) ⟨#[99, 97, 110]⟩
  have e1 : lotsErr [⟨⟨#[97]⟩, ⟨#[99, 97, 110]⟩, 0, 3⟩] = 0 := by decide +kernel
  have e2 : isKey ⟨#[99, 97, 110]⟩ = true := by decide +kernel
  have e3 : countI [⟨⟨#[97]⟩, ⟨#[99, 97, 110]⟩, 0, 3⟩] ⟨#[99, 97, 110]⟩ = 3 := by simp [countI, sumF]
  rw [show countErr [⟨⟨#[97]⟩, ⟨#[99, 97, 110]⟩, 0, 3⟩] ⟨#[99, 97, 110]⟩ = 0 by unfold countErr; rw [e1, e2]; rfl, e3] at h
  refine PFn.mk (Spec.body Tryz.func20 rfl rfl (Tryz.ntmps20) rfl fun w0 own0 M => ?_)
  repeat' (first | refine goH ?_ | refine goV ?_ | refine goG ?_ | (refine Ops.k_guard ?_; first | (refine Ops.guard_dec rfl rfl (fun hc => ?_) (fun hc => ?_) <;> try (exfalso; omega)) | refine Ops.guard_split rfl rfl (fun hc => ?_) (fun hc => ?_)) | refine goI ?_ | (refine Cw.k_cond ?_; first | (refine Cw.cond_dec rfl (fun hc => ?_) (fun hc => ?_) <;> try (exfalso; omega)) | refine Cw.cond_bool rfl (fun hc => ?_) (fun hc => ?_)) | (refine Ops.k_calla ?_; first | (refine Ops.k_callf 51 ?_; refine Ops.callV h (Evs.cons rfl (Evs.cons rfl Evs.nil)) rfl ?_)) | fail)
  exact Fin.ret (Ent.take goTk) (Outs.one rfl rfl) ⟨rfl, rfl⟩
end Lg
end
section
set_option linter.all false
set_option maxRecDepth 100000
set_option maxHeartbeats 1000000
namespace Lg
open Go Go.Proofs

/-! ### room, and what is wrong with pieces for a coil -/
theorem unitsI_ge : ∀ {ps : List Piece}, (∀ p ∈ ps, 0 ≤ p.many) → 0 ≤ unitsI ps
  | [], _ => Int.le_refl _
  | p :: ps, h => by
    have h1 := h p (by simp)
    have h2 := unitsI_ge (ps := ps) fun q hq => h q (List.mem_cons_of_mem p hq)
    rw [unitsI_cons]
    omega
theorem unitsI_le : ∀ {ps : List Piece}, (∀ p ∈ ps, p.many ≤ 1000) → unitsI ps ≤ 1000 * (ps.length : Int)
  | [], _ => Int.le_refl _
  | p :: ps, h => by
    have h1 := h p (by simp)
    have h2 := unitsI_le (ps := ps) fun q hq => h q (List.mem_cons_of_mem p hq)
    rw [unitsI_cons, List.length_cons]
    omega
theorem room_fn (c : Coil) (hc : c.ps.length ≤ 1000000) : PFn Tryz.prog 10 [.agg c.row] (· = .tup [.int (if coilErr c ≠ 0 then 0 else c.most - unitsI c.ps), .int (coilErr c)]) := by
  have h1 := checkCoil_fn c hc
  refine PFn.mk (Spec.body Tryz.func10 rfl rfl (Tryz.ntmps10) rfl fun w0 own0 M => ?_)
  by_cases h0 : coilErr c ≠ 0
  · rw [if_pos h0]
    unfold Coil.row at *
    repeat' (first | refine goH ?_ | refine goV ?_ | refine goB (fun b => ?_) | refine goI ?_ | (refine Cw.k_cond ?_; first | (refine Cw.cond_dec rfl (fun hc => ?_) (fun hc => ?_) <;> try (exfalso; omega)) | refine Cw.cond_bool rfl (fun hc => ?_) (fun hc => ?_)) | (refine Ops.k_calla ?_; first | (refine Ops.k_callf 9 ?_; refine Ops.callV h1 (Evs.cons rfl Evs.nil) rfl ?_)) | (apply OpW.k_call; first | (apply OpW.k_callf 9; exact OpW.callV h1 (Evs.cons rfl Evs.nil))) | refine goR ?_ | refine goP ?_ | apply PSeq.cons | apply PSeq.yes rfl rfl rfl | exact goW | fail)
    refine Fin.ret (Ent.take goTk) (Outs.many rfl (OutL.cons goOe (OutL.cons goOe OutL.nil)) rfl) ⟨rfl, rfl⟩
  have he : coilErr c = 0 := by omega
  rw [if_neg h0, he]
  rw [he] at h1
  obtain ⟨_, b1, b2, b3, b4, b5⟩ := coilErr_ok he
  obtain ⟨prod, most, ps⟩ := c
  simp only at *
  have hu := units_fn ps hc (fun p hp => by have := b4 p hp; omega)
  have hg := unitsI_ge (ps := ps) (fun p hp => by have := b4 p hp; omega)
  unfold Coil.row at *
  simp only at *
  generalize unitsI ps = u at *
  repeat' (first | refine goH ?_ | refine goV ?_ | refine goB (fun b => ?_) | refine goI ?_ | (refine Cw.k_cond ?_; first | (refine Cw.cond_dec rfl (fun hc => ?_) (fun hc => ?_) <;> try (exfalso; omega)) | refine Cw.cond_bool rfl (fun hc => ?_) (fun hc => ?_)) | (refine Ops.k_calla ?_; first | (refine Ops.k_callf 9 ?_; refine Ops.callV h1 (Evs.cons rfl Evs.nil) rfl ?_) | (refine Ops.k_callf 30 ?_; refine Ops.callV hu (Evs.cons rfl Evs.nil) rfl ?_)) | (apply OpW.k_call; first | (apply OpW.k_callf 9; exact OpW.callV h1 (Evs.cons rfl Evs.nil)) | (apply OpW.k_callf 30; exact OpW.callV hu (Evs.cons rfl Evs.nil))) | refine goR ?_ | refine goP ?_ | apply PSeq.cons | apply PSeq.yes rfl rfl rfl | exact goW | fail)
  refine Fin.ret (Ent.take goTk) (Outs.many rfl (OutL.cons goOe (OutL.cons goOe OutL.nil)) rfl) ⟨rfl, rfl⟩
theorem roomOf_fn (c : Coil) (he : coilErr c = 0) : PFn Tryz.prog 14 [.agg c.row] (· = .int (c.most - unitsI c.ps)) := by
  obtain ⟨_, b1, b2, b3, b4, b5⟩ := coilErr_ok he
  obtain ⟨prod, most, ps⟩ := c
  simp only at *
  have hu := (units_ref ps (fun p hp => by have := b4 p hp; omega) (by omega)).val
  have hul := unitsU_len (ps := ps) (fun p hp => by have := b4 p hp; omega)
  have hL := strRows_len (unitsU ps)
  refine PFn.mk (Spec.body Tryz.func14 rfl rfl (Tryz.ntmps14) rfl fun w0 own0 M => ?_)
  unfold Coil.row
  simp only
  generalize unitsI ps = u at *
  generalize unitsU ps = us at *
  repeat' (first | refine goH ?_ | refine goV ?_ | refine goB (fun b => ?_) | refine goI ?_ | (refine Cw.k_cond ?_; first | (refine Cw.cond_dec rfl (fun hc => ?_) (fun hc => ?_) <;> try (exfalso; omega)) | refine Cw.cond_bool rfl (fun hc => ?_) (fun hc => ?_)) | (refine Ops.k_calla ?_; first | (refine Ops.k_callf 43 ?_; refine Ops.callV hu (Evs.cons rfl Evs.nil) rfl ?_)) | (apply OpW.k_call; first | (apply OpW.k_callf 43; exact OpW.callV hu (Evs.cons rfl Evs.nil))) | refine goR ?_ | refine goP ?_ | apply PSeq.cons | apply PSeq.yes rfl rfl rfl | exact goW | fail)
  refine Fin.ret (Ent.take goTk) (Outs.one rfl rfl) ⟨rfl, congrArg Tr.int ?_⟩
  omega
def pushE (l : List Lot) (prod : ByteArray) (p : List Piece) (k : Nat) : Int := match p[k]? with
  | none => 0
  | some x => match findL l x.lot with
    | none => 8
    | some y => if y.prod ≠ prod then 13 else if x.many < 1 ∨ 1000 < x.many then 1 else 0
def pushErr (c : Coil) (l : List Lot) (p : List Piece) : Int :=
  if lotsErr l ≠ 0 then lotsErr l else if coilErr c ≠ 0 then coilErr c
  else if firstE (pushE l c.prod p) 0 p.length ≠ 0 then firstE (pushE l c.prod p) 0 p.length else if unitsI c.ps + unitsI p > c.most then 12 else 0
theorem pushE_ok {l : List Lot} {prod : ByteArray} {p : List Piece} (h : firstE (pushE l prod p) 0 p.length = 0) : ∀ x ∈ p, 1 ≤ x.many ∧ x.many ≤ 1000 ∧ ∃ y, findL l x.lot = some y := by
  intro x hx
  obtain ⟨j, hj⟩ := List.getElem?_of_mem hx
  have hlt := (List.getElem?_eq_some_iff.1 hj).1
  have := firstE_zero h j (by omega) (by omega)
  unfold pushE at this
  rw [hj] at this
  simp only at this
  cases hf : findL l x.lot with
  | none => rw [hf] at this; simp at this
  | some y =>
    rw [hf] at this
    simp only at this
    split at this
    · omega
    · split at this
      · omega
      · exact ⟨by omega, by omega, y, rfl⟩
theorem pushFault_fn (c : Coil) (hc : c.ps.length ≤ 1000000) (l : List Lot) (hl : l.length ≤ 1000000) (p : List Piece) (hp : p.length ≤ 1000000) : PFn Tryz.prog 31 [.agg c.row, .lots l, .pieces p] (· = .int (pushErr c l p)) := by
  have h1 := checkLots_fn l hl
  have h2 := checkCoil_fn c hc
  have hL : (p.map Piece.row).length = p.length := List.length_map _
  refine PFn.mk (Spec.body Tryz.func31 rfl rfl (Tryz.ntmps31) rfl fun w0 own0 M => ?_)
  by_cases c1 : lotsErr l ≠ 0
  · rw [show pushErr c l p = lotsErr l by unfold pushErr; rw [if_pos c1]]
    unfold Coil.row at *
    repeat' (first | refine goH ?_ | refine goV ?_ | refine goB (fun b => ?_) | refine goI ?_ | (refine Cw.k_cond ?_; first | (refine Cw.cond_dec rfl (fun hc => ?_) (fun hc => ?_) <;> try (exfalso; omega)) | refine Cw.cond_bool rfl (fun hc => ?_) (fun hc => ?_)) | (refine Ops.k_calla ?_; first | (refine Ops.k_callf 54 ?_; refine Ops.callV h1 (Evs.cons rfl Evs.nil) rfl ?_)) | (apply OpW.k_call; first | (apply OpW.k_callf 54; exact OpW.callV h1 (Evs.cons rfl Evs.nil))) | refine goR ?_ | refine goP ?_ | apply PSeq.cons | apply PSeq.yes rfl rfl rfl | exact goW | fail)
    exact Fin.ret (Ent.take goTk) (Outs.one rfl rfl) ⟨rfl, rfl⟩
  have e1 : lotsErr l = 0 := by omega
  rw [e1] at h1
  by_cases c2 : coilErr c ≠ 0
  · rw [show pushErr c l p = coilErr c by unfold pushErr; rw [if_neg c1, if_pos c2]]
    unfold Coil.row at *
    repeat' (first | refine goH ?_ | refine goV ?_ | refine goB (fun b => ?_) | refine goI ?_ | (refine Cw.k_cond ?_; first | (refine Cw.cond_dec rfl (fun hc => ?_) (fun hc => ?_) <;> try (exfalso; omega)) | refine Cw.cond_bool rfl (fun hc => ?_) (fun hc => ?_)) | (refine Ops.k_calla ?_; first | (refine Ops.k_callf 54 ?_; refine Ops.callV h1 (Evs.cons rfl Evs.nil) rfl ?_) | (refine Ops.k_callf 9 ?_; refine Ops.callV h2 (Evs.cons rfl Evs.nil) rfl ?_)) | (apply OpW.k_call; first | (apply OpW.k_callf 54; exact OpW.callV h1 (Evs.cons rfl Evs.nil)) | (apply OpW.k_callf 9; exact OpW.callV h2 (Evs.cons rfl Evs.nil))) | refine goR ?_ | refine goP ?_ | apply PSeq.cons | apply PSeq.yes rfl rfl rfl | exact goW | fail)
    exact Fin.ret (Ent.take goTk) (Outs.one rfl rfl) ⟨rfl, rfl⟩
  have e2 : coilErr c = 0 := by omega
  rw [e2] at h2
  have hE : pushErr c l p = if firstE (pushE l c.prod p) 0 p.length ≠ 0 then firstE (pushE l c.prod p) 0 p.length else if unitsI c.ps + unitsI p > c.most then 12 else 0 := by unfold pushErr; rw [if_neg c1, if_neg c2]
  generalize pushErr c l p = E at *
  obtain ⟨_, b1, b2, b3, b4, b5⟩ := coilErr_ok e2
  obtain ⟨prod, most, ps⟩ := c
  unfold Coil.row at *
  simp only at *
  repeat' (first | refine goH ?_ | refine goV ?_ | refine goB (fun b => ?_) | refine goI ?_ | (refine Cw.k_cond ?_; first | (refine Cw.cond_dec rfl (fun hc => ?_) (fun hc => ?_) <;> try (exfalso; omega)) | refine Cw.cond_bool rfl (fun hc => ?_) (fun hc => ?_)) | (refine Ops.k_calla ?_; first | (refine Ops.k_callf 54 ?_; refine Ops.callV h1 (Evs.cons rfl Evs.nil) rfl ?_) | (refine Ops.k_callf 9 ?_; refine Ops.callV h2 (Evs.cons rfl Evs.nil) rfl ?_)) | (apply OpW.k_call; first | (apply OpW.k_callf 54; exact OpW.callV h1 (Evs.cons rfl Evs.nil)) | (apply OpW.k_callf 9; exact OpW.callV h2 (Evs.cons rfl Evs.nil))) | refine goR ?_ | refine goP ?_ | apply PSeq.cons | apply PSeq.yes rfl rfl rfl | exact goW | fail)
  refine Cw.loopI [(1, _), (2, _), (3, _), (22, _), (23, _)] _ (fun n e cc => ∃ k : Nat, n = p.length - k ∧ (k ≤ p.length ∧ firstE (pushE l prod p) 0 p.length = firstE (pushE l prod p) k (p.length - k)) ∧ e = [(24, .int k)] ∧ cc = []) ⟨_, _, _, (Ent.mkP goSub goPm), 0, rfl, ⟨by omega, rfl⟩, rfl, rfl⟩ ?_
  rintro _ _ _ ⟨k, rfl, ⟨hk, hV⟩, rfl, rfl⟩
  by_cases hkl : k < p.length
  · obtain ⟨x, hx⟩ := at_lt hkl
    have hrow : (p.map Piece.row)[k]? = some [.str x.lot, .int x.many] := rows_at hx
    have bad : ∀ c : Int, pushE l prod p k = c → c ≠ 0 → c = E := by
      intro c h1 h2
      rw [hE, hV, firstE_bad hkl h1 h2, if_pos h2]
    have hlot := lot_fn l hl x.lot
    have hout := out_fn x.many 1 1000
    have hb : E = E := rfl
    cases hf : findL l x.lot with
    | none =>
      rw [lotIx_none hf] at hlot
      have b8 := bad 8 (by simp [pushE, hx, hf]) (by decide)
      clear bad hE hV
      repeat' (first | refine goH ?_ | refine goV ?_ | refine goB (fun b => ?_) | refine goI ?_ | (refine Cw.k_cond ?_; first | (refine Cw.cond_dec rfl (fun hc => ?_) (fun hc => ?_) <;> try (exfalso; omega)) | refine Cw.cond_bool rfl (fun hc => ?_) (fun hc => ?_)) | (refine Ops.k_calla ?_; first | (refine Ops.k_callf 41 ?_; refine Ops.callV hlot (Evs.cons rfl (Evs.cons rfl Evs.nil)) rfl ?_)) | (apply OpW.k_call; first | (apply OpW.k_callf 41; exact OpW.callV hlot (Evs.cons rfl (Evs.cons rfl Evs.nil)))) | refine goR ?_ | refine goP ?_ | apply PSeq.cons | apply PSeq.yes rfl rfl rfl | exact goW | fail)
      exact Fin.ret (Ent.take goTk) (Outs.one rfl rfl) ⟨rfl, congrArg Tr.int b8⟩
    | some y =>
      obtain ⟨j, hj, hyj⟩ := lotIx_some hf
      rw [hj] at hlot
      have hrowy : (l.map Lot.row)[((j : Nat) : Int).toNat]? = some [.str y.id, .str y.prod, .int y.exp, .int y.many] := rows_at hyj
      by_cases g1 : y.prod = prod
      · by_cases g2 : x.many < 1 ∨ 1000 < x.many
        · have b1 := bad 1 (by simp [pushE, hx, hf, g1, g2]) (by decide)
          rw [show outB x.many 1 1000 = true by unfold outB; exact decide_eq_true g2] at hout
          clear bad hE hV
          repeat' (first | refine goH ?_ | refine goV ?_ | refine goB (fun b => ?_) | refine goI ?_ | (refine Cw.k_cond ?_; first | (refine Cw.cond_dec rfl (fun hc => ?_) (fun hc => ?_) <;> try (exfalso; omega)) | refine Cw.cond_bool rfl (fun hc => ?_) (fun hc => ?_)) | (refine Ops.k_calla ?_; first | (refine Ops.k_callf 41 ?_; refine Ops.callV hlot (Evs.cons rfl (Evs.cons rfl Evs.nil)) rfl ?_) | (refine Ops.k_callf 29 ?_; refine Ops.callV hout (Evs.cons rfl (Evs.cons rfl (Evs.cons rfl Evs.nil))) rfl ?_)) | (apply OpW.k_call; first | (apply OpW.k_callf 41; exact OpW.callV hlot (Evs.cons rfl (Evs.cons rfl Evs.nil))) | (apply OpW.k_callf 29; exact OpW.callV hout (Evs.cons rfl (Evs.cons rfl (Evs.cons rfl Evs.nil))))) | refine goR ?_ | refine goP ?_ | apply PSeq.cons | apply PSeq.yes rfl rfl rfl | exact goW | fail)
          all_goals first | exact Fin.ret (Ent.take goTk) (Outs.one rfl rfl) ⟨rfl, congrArg Tr.int b1⟩ | (exfalso; simp_all; done)
        · have he : pushE l prod p k = 0 := by simp [pushE, hx, hf, g1, g2]
          rw [show outB x.many 1 1000 = false by unfold outB; exact decide_eq_false g2] at hout
          clear bad
          repeat' (first | refine goH ?_ | refine goV ?_ | refine goB (fun b => ?_) | refine goI ?_ | (refine Cw.k_cond ?_; first | (refine Cw.cond_dec rfl (fun hc => ?_) (fun hc => ?_) <;> try (exfalso; omega)) | refine Cw.cond_bool rfl (fun hc => ?_) (fun hc => ?_)) | (refine Ops.k_calla ?_; first | (refine Ops.k_callf 41 ?_; refine Ops.callV hlot (Evs.cons rfl (Evs.cons rfl Evs.nil)) rfl ?_) | (refine Ops.k_callf 29 ?_; refine Ops.callV hout (Evs.cons rfl (Evs.cons rfl (Evs.cons rfl Evs.nil))) rfl ?_)) | (apply OpW.k_call; first | (apply OpW.k_callf 41; exact OpW.callV hlot (Evs.cons rfl (Evs.cons rfl Evs.nil))) | (apply OpW.k_callf 29; exact OpW.callV hout (Evs.cons rfl (Evs.cons rfl (Evs.cons rfl Evs.nil))))) | refine goR ?_ | refine goP ?_ | apply PSeq.cons | apply PSeq.yes rfl rfl rfl | exact goW | fail)
          all_goals first | exact ⟨_, _, _, (Ent.mk goSub goTk), ⟨_, rfl, ⟨by omega, hV.trans (firstE_ok hkl he)⟩, rfl, rfl⟩, by omega⟩ | (exfalso; simp_all; done)
      · have b13 := bad 13 (by simp [pushE, hx, hf, g1]) (by decide)
        clear bad hE hV
        repeat' (first | refine goH ?_ | refine goV ?_ | refine goB (fun b => ?_) | refine goI ?_ | (refine Cw.k_cond ?_; first | (refine Cw.cond_dec rfl (fun hc => ?_) (fun hc => ?_) <;> try (exfalso; omega)) | refine Cw.cond_bool rfl (fun hc => ?_) (fun hc => ?_)) | (refine Ops.k_calla ?_; first | (refine Ops.k_callf 41 ?_; refine Ops.callV hlot (Evs.cons rfl (Evs.cons rfl Evs.nil)) rfl ?_)) | (apply OpW.k_call; first | (apply OpW.k_callf 41; exact OpW.callV hlot (Evs.cons rfl (Evs.cons rfl Evs.nil)))) | refine goR ?_ | refine goP ?_ | apply PSeq.cons | apply PSeq.yes rfl rfl rfl | exact goW | fail)
        all_goals first | exact Fin.ret (Ent.take goTk) (Outs.one rfl rfl) ⟨rfl, congrArg Tr.int b13⟩ | (exfalso; simp_all; done)
  · rw [firstE_end hkl] at hV
    rw [if_neg (by simp [hV])] at hE
    have hpo := pushE_ok hV
    have u1 := units_fn ps hc (fun q hq => by have := b4 q hq; omega)
    have u2 := units_fn p hp (fun q hq => by have := hpo q hq; omega)
    have g1 := unitsI_ge (ps := ps) (fun q hq => by have := b4 q hq; omega)
    have g2 := unitsI_ge (ps := p) (fun q hq => by have := hpo q hq; omega)
    have g3 := unitsI_le (ps := p) (fun q hq => by have := hpo q hq; omega)
    generalize unitsI ps = a at *
    generalize unitsI p = b at *
    clear hpo hV b4
    repeat' (first | refine goH ?_ | refine goV ?_ | refine goB (fun b => ?_) | refine goI ?_ | (refine Cw.k_cond ?_; first | (refine Cw.cond_dec rfl (fun hc => ?_) (fun hc => ?_) <;> try (exfalso; omega)) | refine Cw.cond_bool rfl (fun hc => ?_) (fun hc => ?_)) | (refine Ops.k_calla ?_; first | (refine Ops.k_callf 30 ?_; refine Ops.callV u1 (Evs.cons rfl Evs.nil) rfl ?_) | (refine Ops.k_callf 30 ?_; refine Ops.callV u2 (Evs.cons rfl Evs.nil) rfl ?_)) | (apply OpW.k_call; first | (apply OpW.k_callf 30; exact OpW.callV u1 (Evs.cons rfl Evs.nil)) | (apply OpW.k_callf 30; exact OpW.callV u2 (Evs.cons rfl Evs.nil))) | refine goR ?_ | refine goP ?_ | apply PSeq.cons | apply PSeq.yes rfl rfl rfl | exact goW | fail)
    · refine Fin.ret (Ent.take goTk) (Outs.one rfl rfl) ⟨rfl, congrArg Tr.int ?_⟩
      rw [hE, if_pos (by omega)]
    · refine Fin.ret (Ent.take goTk) (Outs.one rfl rfl) ⟨rfl, congrArg Tr.int ?_⟩
      rw [hE, if_neg (by omega)]
theorem refPush_fn (c : Coil) (hc : c.ps.length ≤ 1000000) (l : List Lot) (hl : l.length ≤ 1000000) (p : List Piece) (hp : p.length ≤ 1000000) : PFn Tryz.prog 15 [.agg c.row, .lots l, .pieces p] (· = .int (pushErr c l p)) := by
  have h1 := coilsFault_fn c hc l hl
  have hL : (p.map Piece.row).length = p.length := List.length_map _
  refine PFn.mk (Spec.body Tryz.func15 rfl rfl (Tryz.ntmps15) rfl fun w0 own0 M => ?_)
  by_cases c1 : (if lotsErr l ≠ 0 then lotsErr l else coilErr c) ≠ 0
  · rw [show pushErr c l p = if lotsErr l ≠ 0 then lotsErr l else coilErr c by
      unfold pushErr
      by_cases c2 : lotsErr l ≠ 0
      · rw [if_pos c2, if_pos c2]
      · rw [if_neg c2] at c1
        rw [if_neg c2, if_neg c2, if_pos c1]]
    unfold Coil.row at *
    generalize (if lotsErr l ≠ 0 then lotsErr l else coilErr c) = e at *
    repeat' (first | refine goH ?_ | refine goV ?_ | refine goB (fun b => ?_) | refine goG ?_ | (refine Ops.k_guard ?_; first | (refine Ops.guard_dec rfl rfl (fun hc => ?_) (fun hc => ?_) <;> try (exfalso; omega)) | refine Ops.guard_split rfl rfl (fun hc => ?_) (fun hc => ?_)) | refine goI ?_ | (refine Cw.k_cond ?_; first | (refine Cw.cond_dec rfl (fun hc => ?_) (fun hc => ?_) <;> try (exfalso; omega)) | refine Cw.cond_bool rfl (fun hc => ?_) (fun hc => ?_)) | (refine Ops.k_calla ?_; first | (refine Ops.k_callf 44 ?_; refine Ops.callV h1 (Evs.cons rfl (Evs.cons rfl Evs.nil)) rfl ?_)) | fail)
    exact Fin.ret (Ent.take goTk) (Outs.one rfl rfl) ⟨rfl, rfl⟩
  have e1 : lotsErr l = 0 ∧ coilErr c = 0 := by
    by_cases c2 : lotsErr l ≠ 0
    · rw [if_pos c2] at c1; omega
    · rw [if_neg c2] at c1; omega
  rw [if_neg (by omega), e1.2] at h1
  have hE : pushErr c l p = if firstE (pushE l c.prod p) 0 p.length ≠ 0 then firstE (pushE l c.prod p) 0 p.length else if unitsI c.ps + unitsI p > c.most then 12 else 0 := by unfold pushErr; rw [if_neg (by omega), if_neg (by omega)]
  generalize pushErr c l p = E at *
  obtain ⟨_, b1, b2, b3, b4, b5⟩ := coilErr_ok e1.2
  have hro := roomOf_fn c e1.2
  clear c1
  obtain ⟨prod, most, ps⟩ := c
  unfold Coil.row at *
  simp only at *
  repeat' (first | refine goH ?_ | refine goV ?_ | refine goB (fun b => ?_) | refine goG ?_ | (refine Ops.k_guard ?_; first | (refine Ops.guard_dec rfl rfl (fun hc => ?_) (fun hc => ?_) <;> try (exfalso; omega)) | refine Ops.guard_split rfl rfl (fun hc => ?_) (fun hc => ?_)) | refine goI ?_ | (refine Cw.k_cond ?_; first | (refine Cw.cond_dec rfl (fun hc => ?_) (fun hc => ?_) <;> try (exfalso; omega)) | refine Cw.cond_bool rfl (fun hc => ?_) (fun hc => ?_)) | (refine Ops.k_calla ?_; first | (refine Ops.k_callf 44 ?_; refine Ops.callV h1 (Evs.cons rfl (Evs.cons rfl Evs.nil)) rfl ?_)) | fail)
  refine Cw.loopI [(1, _), (3, _), (19, _), (20, _)] _ (fun n e cc => ∃ (k : Nat) (s : Int), n = p.length - k ∧ (k ≤ p.length ∧ firstE (pushE l prod p) 0 p.length = firstE (pushE l prod p) k (p.length - k) ∧ s + unitsI (p.drop k) = unitsI p ∧ 0 ≤ s ∧ s ≤ 1000 * (k : Int)) ∧ e = [(8, .int s), (21, .int k)] ∧ cc = []) ⟨_, _, _, (Ent.mkP goSub goPm), 0, 0, rfl, ⟨by omega, rfl, by simp, by omega, by omega⟩, rfl, rfl⟩ ?_
  rintro _ _ _ ⟨k, s, rfl, ⟨hk, hV, hS, s1, s2⟩, rfl, rfl⟩
  by_cases hkl : k < p.length
  · obtain ⟨x, hx⟩ := at_lt hkl
    have hrow : (p.map Piece.row)[k]? = some [.str x.lot, .int x.many] := rows_at hx
    rw [drop_at hx, unitsI_cons] at hS
    have bad : ∀ c : Int, pushE l prod p k = c → c ≠ 0 → c = E := by
      intro c h1 h2
      rw [hE, hV, firstE_bad hkl h1 h2, if_pos h2]
    have hlo := lotOf_fn l hl x.lot
    unfold lotD Lot.row at hlo
    cases hf : findL l x.lot with
    | none =>
      rw [hf] at hlo
      have b8 := bad 8 (by simp [pushE, hx, hf]) (by decide)
      clear bad hE hV
      simp only [Option.getD_none, Option.isSome_none] at hlo
      repeat' (first | refine goH ?_ | refine goV ?_ | refine goB (fun b => ?_) | refine goG ?_ | (refine Ops.k_guard ?_; first | (refine Ops.guard_dec rfl rfl (fun hc => ?_) (fun hc => ?_) <;> try (exfalso; omega)) | refine Ops.guard_split rfl rfl (fun hc => ?_) (fun hc => ?_)) | refine goI ?_ | (refine Cw.k_cond ?_; first | (refine Cw.cond_dec rfl (fun hc => ?_) (fun hc => ?_) <;> try (exfalso; omega)) | refine Cw.cond_bool rfl (fun hc => ?_) (fun hc => ?_)) | (refine Ops.k_calla ?_; first | (refine Ops.k_callf 45 ?_; refine Ops.callV hlo (Evs.cons rfl (Evs.cons rfl Evs.nil)) rfl ?_)) | fail)
      exact Fin.ret (Ent.take goTk) (Outs.one rfl rfl) ⟨rfl, congrArg Tr.int b8⟩
    | some y =>
      rw [hf] at hlo
      simp only [Option.getD_some, Option.isSome_some] at hlo
      by_cases g1 : y.prod = prod
      · by_cases g2 : x.many < 1 ∨ 1000 < x.many
        · have b1 := bad 1 (by simp [pushE, hx, hf, g1, g2]) (by decide)
          clear bad hE hV
          repeat' (first | refine goH ?_ | refine goV ?_ | refine goB (fun b => ?_) | refine goG ?_ | (refine Ops.k_guard ?_; first | (refine Ops.guard_dec rfl rfl (fun hc => ?_) (fun hc => ?_) <;> try (exfalso; omega)) | refine Ops.guard_split rfl rfl (fun hc => ?_) (fun hc => ?_)) | refine goI ?_ | (refine Cw.k_cond ?_; first | (refine Cw.cond_dec rfl (fun hc => ?_) (fun hc => ?_) <;> try (exfalso; omega)) | refine Cw.cond_bool rfl (fun hc => ?_) (fun hc => ?_)) | (refine Ops.k_calla ?_; first | (refine Ops.k_callf 45 ?_; refine Ops.callV hlo (Evs.cons rfl (Evs.cons rfl Evs.nil)) rfl ?_)) | fail)
          all_goals first | exact Fin.ret (Ent.take goTk) (Outs.one rfl rfl) ⟨rfl, congrArg Tr.int b1⟩ | (exfalso; simp_all; done) | (exfalso; simp_all; omega)
        · have he : pushE l prod p k = 0 := by simp [pushE, hx, hf, g1, g2]
          clear bad
          repeat' (first | refine goH ?_ | refine goV ?_ | refine goB (fun b => ?_) | refine goG ?_ | (refine Ops.k_guard ?_; first | (refine Ops.guard_dec rfl rfl (fun hc => ?_) (fun hc => ?_) <;> try (exfalso; omega)) | refine Ops.guard_split rfl rfl (fun hc => ?_) (fun hc => ?_)) | refine goI ?_ | (refine Cw.k_cond ?_; first | (refine Cw.cond_dec rfl (fun hc => ?_) (fun hc => ?_) <;> try (exfalso; omega)) | refine Cw.cond_bool rfl (fun hc => ?_) (fun hc => ?_)) | (refine Ops.k_calla ?_; first | (refine Ops.k_callf 45 ?_; refine Ops.callV hlo (Evs.cons rfl (Evs.cons rfl Evs.nil)) rfl ?_)) | fail)
          all_goals first | exact ⟨_, _, _, (Ent.mk goSub goTk), ⟨_, _, rfl, ⟨by omega, hV.trans (firstE_ok hkl he), by omega, by omega, by omega⟩, rfl, rfl⟩, by omega⟩ | (exfalso; simp_all; done) | (exfalso; simp_all; omega)
      · have b13 := bad 13 (by simp [pushE, hx, hf, g1]) (by decide)
        clear bad hE hV
        repeat' (first | refine goH ?_ | refine goV ?_ | refine goB (fun b => ?_) | refine goG ?_ | (refine Ops.k_guard ?_; first | (refine Ops.guard_dec rfl rfl (fun hc => ?_) (fun hc => ?_) <;> try (exfalso; omega)) | refine Ops.guard_split rfl rfl (fun hc => ?_) (fun hc => ?_)) | refine goI ?_ | (refine Cw.k_cond ?_; first | (refine Cw.cond_dec rfl (fun hc => ?_) (fun hc => ?_) <;> try (exfalso; omega)) | refine Cw.cond_bool rfl (fun hc => ?_) (fun hc => ?_)) | (refine Ops.k_calla ?_; first | (refine Ops.k_callf 45 ?_; refine Ops.callV hlo (Evs.cons rfl (Evs.cons rfl Evs.nil)) rfl ?_)) | fail)
        all_goals first | exact Fin.ret (Ent.take goTk) (Outs.one rfl rfl) ⟨rfl, congrArg Tr.int b13⟩ | (exfalso; simp_all; done)
  · rw [firstE_end hkl] at hV
    rw [if_neg (by simp [hV])] at hE
    rw [List.drop_eq_nil_of_le (by omega), unitsI, sumF] at hS
    have g1 := unitsI_ge (ps := ps) (fun q hq => by have := b4 q hq; omega)
    generalize unitsI ps = a at *
    generalize unitsI p = b at *
    clear hV b4
    repeat' (first | refine goH ?_ | refine goV ?_ | refine goB (fun b => ?_) | refine goG ?_ | (refine Ops.k_guard ?_; first | (refine Ops.guard_dec rfl rfl (fun hc => ?_) (fun hc => ?_) <;> try (exfalso; omega)) | refine Ops.guard_split rfl rfl (fun hc => ?_) (fun hc => ?_)) | refine goI ?_ | (refine Cw.k_cond ?_; first | (refine Cw.cond_dec rfl (fun hc => ?_) (fun hc => ?_) <;> try (exfalso; omega)) | refine Cw.cond_bool rfl (fun hc => ?_) (fun hc => ?_)) | (refine Ops.k_calla ?_; first | (refine Ops.k_callf 14 ?_; refine Ops.callV hro (Evs.cons rfl Evs.nil) rfl ?_)) | fail)
    · refine Fin.ret (Ent.take goTk) (Outs.one rfl rfl) ⟨rfl, congrArg Tr.int ?_⟩
      rw [hE, if_pos (by omega)]
    · refine Fin.ret (Ent.take goTk) (Outs.one rfl rfl) ⟨rfl, congrArg Tr.int ?_⟩
      rw [hE, if_neg (by omega)]
theorem rotateFault_fn (c : Coil) (hc : c.ps.length ≤ 1000000) (l : List Lot) (hl : l.length ≤ 1000000) (e : Int) : PFn Tryz.prog 18 [.agg c.row, .lots l, .int e] (· = .int (if e ≠ 0 then e else if strangeB l c.ps then 8 else 0)) := by
  have h1 := knownFault_fn c hc l hl
  have h2 := cmpOr_fn [e, if strangeB l c.ps then 8 else 0] (by simp)
  rw [show orI [e, if strangeB l c.ps then 8 else 0] = if e ≠ 0 then e else if strangeB l c.ps then 8 else 0 by
    by_cases h : e = 0
    · subst h
      cases strangeB l c.ps <;> simp [orI]
    · rw [orI_cons, if_pos h, if_pos h]] at h2
  refine PFn.mk (Spec.body Tryz.func18 rfl rfl (Tryz.ntmps18) rfl fun w0 own0 M => ?_)
  unfold Coil.row at *
  generalize (if strangeB l c.ps then (8 : Int) else 0) = s at *
  repeat' (first | refine goH ?_ | refine goV ?_ | refine goB (fun b => ?_) | refine goI ?_ | (refine Cw.k_cond ?_; first | (refine Cw.cond_dec rfl (fun hc => ?_) (fun hc => ?_) <;> try (exfalso; omega)) | refine Cw.cond_bool rfl (fun hc => ?_) (fun hc => ?_)) | (refine Ops.k_calla ?_; first | (refine Ops.k_callf 48 ?_; refine Ops.callV h1 (Evs.cons rfl (Evs.cons rfl Evs.nil)) rfl ?_) | (refine Ops.k_callf 47 ?_; refine Ops.callV h2 (Evs.cons rfl Evs.nil) rfl ?_)) | fail)
  exact Fin.ret (Ent.take goTk) (Outs.one rfl rfl) ⟨rfl, rfl⟩
end Lg
end
