/- A part of the proof of a law of this seat: it adds no condition. By an AI agent. -/
import Derived.Test.YtfgcjpkkbhnkgaaGreatDoorMv9
section
set_option linter.all false
set_option maxRecDepth 100000
set_option maxHeartbeats 8000000
namespace Lg
open Go Go.Proofs

/-! ### what was counted -/
def ordN : Option Nm → Nm → Bool
 |none, _ => false
 |some y, x => strLt x.key y.key || decide (x.key = y.key)
def cnX (p : Option Nm) (x : Nm) : Int := if isKey x.key = false then 5 else if ordN p x = true then 7 else if x.many < 0 ∨ 1000000 < x.many then 1 else 0
def prvN (l : List Nm) : Nat → Option Nm
 |0 => none
 |j + 1 => l[j]?
def cnE (l : List Nm) (k : Nat) : Int := match l[k]? with
 |none => 0
 |some x => cnX (prvN l k) x
def cntErr (c : List Nm) : Int := if c.length > 200 then 2 else firstE (cnE c) 0 c.length
structure CnF (E : Int) (x : Nm) (q1 ob : Bool) (N : Int) : Prop where
 e5 : (!q1) = true → E = 5
 e7 : (!q1) = false → ob = true → E = 7
 e1 : (!q1) = false → ob = false → (x.many < 0 ∨ 1000000 < x.many) → E = 1
 ok : (!q1) = false → ob = false → ¬ (x.many < 0 ∨ 1000000 < x.many) → E = N
theorem cnF {l : List Nm} {k : Nat} {x : Nm} {p : Option Nm} {E : Int} (hx : l[k]? = some x) (hp : prvN l k = p) (hV : E = firstE (cnE l) k (l.length - k)) (hkl : k < l.length) : CnF E x (isKey x.key) (ordN p x) (firstE (cnE l) (k + 1) (l.length - (k + 1))) := by
 have he : cnE l k = cnX p x := by unfold cnE; rw [hx, hp]
 have fin : ∀ c : Int, cnX p x = c → c ≠ 0 → E = c := fun c h1 h2 => hV.trans (firstE_bad hkl (he.trans h1) h2)
 have nxt : cnX p x = 0 → E = firstE (cnE l) (k + 1) (l.length - (k + 1)) := fun h1 => hV.trans (firstE_ok hkl (he.trans h1))
 clear hV he
 unfold cnX at fin nxt
 generalize ordN p x = ob at *
 generalize isKey x.key = q1 at *
 refine ⟨?_, ?_, ?_, ?_⟩
 ·intro h; exact fin 5 (by rw [if_pos (by simpa using h)]) (by decide)
 ·intro h h2; exact fin 7 (by rw [if_neg (by simpa using h), if_pos h2]) (by decide)
 ·intro h h2 h3; exact fin 1 (by rw [if_neg (by simpa using h), if_neg (by simp [h2]), if_pos h3]) (by decide)
 ·intro h h2 h3; exact nxt (by rw [if_neg (by simpa using h), if_neg (by simp [h2]), if_neg h3])
/-! ### what is missing -/
theorem thIs_fn (x : Nm) : PFn Tryz.prog 44 [.agg x.row] (· = .bool (decide (x.many = 0))) := by
 unfold Nm.row
 refine PFn.mk (Spec.body Tryz.func44 rfl rfl (Tryz.ntmps44) rfl fun w0 own0 M => ?_)
 repeat' (first | refine goH ?_ | refine goV ?_ | refine goB (fun b => ?_) | refine goI ?_ | (refine Cw.k_cond ?_; first | (refine Cw.cond_dec rfl ?_ ?_ <;> intro hc <;> try omega) | refine Cw.cond_bool rfl ?_ ?_ <;> intro hc) | fail)
 exact Fin.ret (Ent.take goTk) (Outs.one rfl rfl) ⟨rfl, rfl⟩
def thR (E : Int) (T : List Nm) : List Nm × Int := if E ≠ 0 then ([], E) else (T, 0)
theorem thR_bad {c : Int} {T : List Nm} (h : c ≠ 0) : thR c T = ([], c) := by unfold thR; rw [if_pos h]
theorem smV_bd (l : List Mv) (hb : ∀ x ∈ l, -1000 ≤ x.many ∧ x.many ≤ 1000) : mBd ((l.length : Int) * 1000) (smV l) := by
 have H : ∀ (k : Nat) (a : List Mv) (m : PS), (∀ x ∈ a, -1000 ≤ x.many ∧ x.many ≤ 1000) → mBd ((k : Int) * 1000) m → mBd (((k + a.length : Nat) : Int) * 1000) (sumM m (a.map mvP)) := by
  intro k a
  induction a generalizing k with
  |nil => intro m _ hm; exact hm
  |cons x a ih =>
   intro m ha hm
   have h1 := hm.add (by omega) x.ware (ha x (by simp))
   rw [show (k : Int) * 1000 + 1000 = ((k + 1 : Nat) : Int) * 1000 by omega] at h1
   have := ih (k + 1) (mAdd x.ware x.many m) (fun y hy => ha y (List.mem_cons_of_mem _ hy)) h1
   rw [List.map_cons, sumM, List.length_cons]
   rwa [show k + (a.length + 1) = k + 1 + a.length by omega]
 have := H 0 l [] hb (fun q hq => by cases hq)
 rwa [Nat.zero_add] at this
def ngN (x : Nm) : ByteArray × Int := (x.key, -x.many)
theorem thF_step {m0 m : PS} {c : List Nm} {k : Nat} {x : Nm} (hx : c[k]? = some x) (hV : thM m0 c = sumM m ((c.drop k).map ngN)) : thM m0 c = sumM (mUp x.key (mI x.key m - x.many) m) ((c.drop (k + 1)).map ngN) := by
 rw [hV, drop_at hx, List.map_cons, sumM]
 unfold mAdd ngN
 rw [Int.sub_eq_add_neg]
theorem thefts_fn (l : List Mv) (hl : l.length ≤ 1000) (hno : NoBd l) (c : List Nm) (hc : c.length ≤ 1000) : PFn Tryz.prog 14 [.mvs l, .nms c] (· = .tup [.nms (if (mvsE l).2 ≠ 0 then ([], (mvsE l).2) else thR (cntErr c) (thV l c)).1, .int (if (mvsE l).2 ≠ 0 then ([], (mvsE l).2) else thR (cntErr c) (thV l c)).2]) := by
 have k0 := checkShelf_fn l (by omega) hno
 by_cases h0 : (mvsE l).2 ≠ 0
 ·rw [if_pos h0]
  generalize mvsE l = E at *
  refine PFn.mk (Spec.body Tryz.func14 rfl rfl (Tryz.ntmps14) rfl fun w0 own0 M => ?_)
  repeat' (first | refine goH ?_ | refine goV ?_ | refine goB (fun b => ?_) | refine goG ?_ | (refine Ops.k_guard ?_; first | (refine Ops.guard_dec rfl rfl ?_ ?_ <;> intro hc <;> try omega) | refine Ops.guard_split rfl rfl ?_ ?_ <;> intro hc) | refine goI ?_ | (refine Cw.k_cond ?_; first | (refine Cw.cond_dec rfl ?_ ?_ <;> intro hc <;> try omega) | refine Cw.cond_bool rfl ?_ ?_ <;> intro hc) | (refine Ops.k_calla ?_; first | (refine Ops.k_callf 35 ?_; refine Ops.callV k0 (Evs.cons rfl Evs.nil) rfl ?_)) | (apply OpW.k_call; first | (apply OpW.k_callf 35; exact OpW.callV k0 (Evs.cons rfl Evs.nil))) | refine goR ?_ | refine goP ?_ | apply PSeq.cons | apply PSeq.yes rfl rfl rfl | exact goW | fail)
  refine Fin.ret (Ent.trans (Ent.nilsl 2 (s := 4) rfl) (Ent.take goTk)) (Outs.many rfl (OutL.cons goOe (OutL.cons goOe OutL.nil)) rfl) ⟨rfl, rfl⟩
 rw [if_neg h0]
 replace h0 : (mvsE l).2 = 0 := by omega
 rw [h0] at k0
 have hb := mvsE_ok h0
 have ks := sums_fn l (by omega) hb
 have hsb := smV_bd l hb
 have hsl := smV_len l
 have hsn := smV_nodup l
 clear hb h0 hno
 have hL : (c.map Nm.row).length = c.length := List.length_map _
 refine PFn.mk (Spec.body Tryz.func14 rfl rfl (Tryz.ntmps14) rfl fun w0 own0 M => ?_)
 by_cases h200 : c.length > 200
 ·rw [show cntErr c = 2 by unfold cntErr; rw [if_pos h200], thR_bad (by decide)]
  repeat' (first | refine goH ?_ | refine goV ?_ | refine goB (fun b => ?_) | refine goG ?_ | (refine Ops.k_guard ?_; first | (refine Ops.guard_dec rfl rfl ?_ ?_ <;> intro hc <;> try omega) | refine Ops.guard_split rfl rfl ?_ ?_ <;> intro hc) | refine goI ?_ | (refine Cw.k_cond ?_; first | (refine Cw.cond_dec rfl ?_ ?_ <;> intro hc <;> try omega) | refine Cw.cond_bool rfl ?_ ?_ <;> intro hc) | (refine Ops.k_calla ?_; first | (refine Ops.k_callf 35 ?_; refine Ops.callV k0 (Evs.cons rfl Evs.nil) rfl ?_)) | (apply OpW.k_call; first | (apply OpW.k_callf 35; exact OpW.callV k0 (Evs.cons rfl Evs.nil))) | refine goR ?_ | refine goP ?_ | apply PSeq.cons | apply PSeq.yes rfl rfl rfl | exact goW | fail)
  refine Fin.ret (Ent.trans (Ent.nilsl 2 (s := 4) rfl) (Ent.take goTk)) (Outs.many rfl (OutL.cons goOe (OutL.cons goOe OutL.nil)) rfl) ⟨rfl, rfl⟩
 have hV0 : cntErr c = firstE (cnE c) 0 (c.length - 0) := by unfold cntErr; rw [if_neg h200]; rfl
 have hT : thV l c = (isort nmLt ((thM (smV l) c).map mkN)).filter fun x => !decide (x.many = 0) := rfl
 generalize thV l c = T at *
 generalize cntErr c = E at *
 generalize smV l = m0 at *
 repeat' (first | refine goH ?_ | refine goV ?_ | refine goB (fun b => ?_) | refine goG ?_ | (refine Ops.k_guard ?_; first | (refine Ops.guard_dec rfl rfl ?_ ?_ <;> intro hc <;> try omega) | refine Ops.guard_split rfl rfl ?_ ?_ <;> intro hc) | refine goI ?_ | (refine Cw.k_cond ?_; first | (refine Cw.cond_dec rfl ?_ ?_ <;> intro hc <;> try omega) | refine Cw.cond_bool rfl ?_ ?_ <;> intro hc) | (refine Ops.k_calla ?_; first | (refine Ops.k_callf 35 ?_; refine Ops.callV k0 (Evs.cons rfl Evs.nil) rfl ?_) | (refine Ops.k_callf 40 ?_; (refine Ops.call ks (Evs.cons rfl Evs.nil) goPm rfl ?_; rintro r cs' ⟨b, rfl, rfl⟩))) | (apply OpW.k_call; first | (apply OpW.k_callf 35; exact OpW.callV k0 (Evs.cons rfl Evs.nil))) | refine goR ?_ | refine goP ?_ | apply PSeq.cons | apply PSeq.yes rfl rfl rfl | exact goW | fail)
 refine Cw.loopI [(1, _), (8, _), (24, _), (25, _)] _ (fun n e cc => ∃ (k : Nat) (m : PS), n = c.length - k ∧ (k ≤ c.length ∧ E = firstE (cnE c) k (c.length - k) ∧ thM m0 c = sumM m ((c.drop k).map ngN) ∧ mBd (1000000 + (k : Int) * 1000000) m ∧ (m.map Prod.fst).Nodup ∧ m.length ≤ 1000 + k) ∧ e = [(26, .int k)] ∧ cc = [Chunk.mp Value.string b (tkv m)])
  ⟨_, _, _, (Ent.mkP goSub goPm), 0, m0, rfl, ⟨by omega, hV0, rfl, (fun q hq => by have := hsb q hq; omega), hsn, by omega⟩, rfl, rfl⟩ ?_
 clear hV0 hsb hsn hsl ks k0
 rintro _ _ _ ⟨k, m, rfl, ⟨hk, hV, hM, hmb, hmn, hml⟩, rfl, rfl⟩
 by_cases hkl : k < c.length
 rotate_left
 ·rw [firstE_end hkl] at hV
  rw [List.drop_of_length_le (by omega), List.map_nil, sumM] at hM
  rw [hM] at hT
  subst hV
  rw [show thR 0 T = (T, 0) from rfl]
  have kN := named_fn m (by omega) hmn b
  have hil : (isort nmLt (m.map mkN)).length = m.length := by rw [isort_len, List.length_map]
  have kF := fun ad cap => delFunc_nm (ad := ad) (cap := cap) (isort nmLt (m.map mkN)) (fun x => decide (x.many = 0)) (f := 44) rfl (by omega) thIs_fn
  rw [← hT] at kF
  clear hM hT
  repeat' (first | refine goH ?_ | refine goV ?_ | refine goB (fun b => ?_) | refine goG ?_ | (refine Ops.k_guard ?_; first | (refine Ops.guard_dec rfl rfl ?_ ?_ <;> intro hc <;> try omega) | refine Ops.guard_split rfl rfl ?_ ?_ <;> intro hc) | refine goI ?_ | (refine Cw.k_cond ?_; first | (refine Cw.cond_dec rfl ?_ ?_ <;> intro hc <;> try omega) | refine Cw.cond_bool rfl ?_ ?_ <;> intro hc) | (refine Ops.k_calla ?_; first | (refine Ops.k_callf 43 ?_; (refine Ops.call kN (Evs.cons rfl Evs.nil) goPm rfl ?_; rintro r cs' ⟨ad, cap, rfl, rfl⟩)) | (refine Ops.k_callf 42 ?_; (refine Ops.call (kF _ _) (Evs.cons rfl (Evs.cons rfl Evs.nil)) goPm rfl ?_; rintro r cs' ⟨rfl, rfl⟩))) | refine goR ?_ | refine goP ?_ | apply PSeq.cons | apply PSeq.yes rfl rfl rfl | exact goW | fail)
  rw [← List.length_map (f := Nm.row)]
  refine Fin.ret (Ent.trans (Ent.settle (s := 4) rfl goPk rfl) (Ent.take goTk)) (Outs.many rfl (OutL.cons goOe (OutL.cons goOe OutL.nil)) rfl) ⟨rfl, rfl⟩
 obtain ⟨x, hx⟩ := at_lt hkl
 have hrow : (c.map Nm.row)[k]? = some [.str x.key, .int x.many] := rows_at hx
 have k1 := key_fn x.key
 have k3 := out_fn x.many 0 1000000
 have G0 : outB x.many 0 1000000 = true → (x.many < 0 ∨ 1000000 < x.many) := fun h => by simp [outB] at h; omega
 have G1 : outB x.many 0 1000000 = false → ¬ (x.many < 0 ∨ 1000000 < x.many) := fun h => by simp [outB] at h; omega
 have hM2 := thF_step hx hM
 have hvv := hmb.val (by omega) x.key
 have hmn2 : ((mUp x.key (mI x.key m - x.many) m).map Prod.fst).Nodup := mUp_nodup hmn
 have hml2 := mUp_len x.key (mI x.key m - x.many) m
 have hmb2 : ¬ (x.many < 0 ∨ 1000000 < x.many) → mBd (1000000 + ((k + 1 : Nat) : Int) * 1000000) (mUp x.key (mI x.key m - x.many) m) := fun h => by
  have := hmb.add (c := 1000000) (by omega) x.key (v := -x.many) (by omega)
  unfold mAdd at this
  rw [← Int.sub_eq_add_neg] at this
  rwa [show 1000000 + ((k + 1 : Nat) : Int) * 1000000 = 1000000 + (k : Int) * 1000000 + 1000000 by omega]
 clear hM hmb hmn hT
 generalize hoB : outB x.many 0 1000000 = oB at *
 clear hoB
 by_cases hk0 : k = 0
 ·have F := cnF (p := none) hx (by rw [hk0]; rfl) hV hkl
  rw [show ordN none x = false from rfl] at F
  generalize isKey x.key = q1 at *
  clear hV hx
  cases oB
  ·have g := G1 rfl
   have hmb3 := hmb2 g
   clear G0 G1 hmb2
   repeat' (first | refine goH ?_ | (refine Ops.k_lookup ?_; first | (refine Ops.lookup rfl rfl goPk rfl ?_; rw [tkv_read])) | (refine Ops.k_mapUpdate ?_; first | (refine Ops.mapUpdate rfl rfl rfl goPk ?_; rw [tkv_set])) | refine goV ?_ | refine goB (fun b => ?_) | refine goG ?_ | (refine Ops.k_guard ?_; first | (refine Ops.guard_dec rfl rfl ?_ ?_ <;> intro hc <;> try omega) | refine Ops.guard_split rfl rfl ?_ ?_ <;> intro hc) | refine goI ?_ | (refine Cw.k_cond ?_; first | (refine Cw.cond_dec rfl ?_ ?_ <;> intro hc <;> try omega) | refine Cw.cond_bool rfl ?_ ?_ <;> intro hc) | (refine Ops.k_calla ?_; first | (refine Ops.k_callf 41 ?_; refine Ops.callV k1 (Evs.cons rfl Evs.nil) rfl ?_) | (refine Ops.k_callf 19 ?_; refine Ops.callV k3 (Evs.cons rfl (Evs.cons rfl (Evs.cons rfl Evs.nil))) rfl ?_)) | (apply OpW.k_call; first | (apply OpW.k_callf 41; exact OpW.callV k1 (Evs.cons rfl Evs.nil)) | (apply OpW.k_callf 19; exact OpW.callV k3 (Evs.cons rfl (Evs.cons rfl (Evs.cons rfl Evs.nil))))) | refine goR ?_ | refine goP ?_ | apply PSeq.cons | apply PSeq.yes rfl rfl rfl | exact goW | fail)
   all_goals first
    |(exfalso; omega)
    |exact ⟨_, _, _, (Ent.mk goSub goTk), ⟨k + 1, _, rfl, ⟨by omega, F.ok (by assumption) rfl g, hM2, hmb3, hmn2, by omega⟩, rfl, rfl⟩, by omega⟩
    |(rw [F.e5 (by assumption), thR_bad (by decide)]; refine Fin.ret (Ent.trans (Ent.nilsl 2 (s := 4) rfl) (Ent.take goTk)) (Outs.many rfl (OutL.cons goOe (OutL.cons goOe OutL.nil)) rfl) ⟨rfl, rfl⟩)
  ·have g := G0 rfl
   clear G0 G1 hmb2
   repeat' (first | refine goH ?_ | refine goV ?_ | refine goB (fun b => ?_) | refine goG ?_ | (refine Ops.k_guard ?_; first | (refine Ops.guard_dec rfl rfl ?_ ?_ <;> intro hc <;> try omega) | refine Ops.guard_split rfl rfl ?_ ?_ <;> intro hc) | refine goI ?_ | (refine Cw.k_cond ?_; first | (refine Cw.cond_dec rfl ?_ ?_ <;> intro hc <;> try omega) | refine Cw.cond_bool rfl ?_ ?_ <;> intro hc) | (refine Ops.k_calla ?_; first | (refine Ops.k_callf 41 ?_; refine Ops.callV k1 (Evs.cons rfl Evs.nil) rfl ?_) | (refine Ops.k_callf 19 ?_; refine Ops.callV k3 (Evs.cons rfl (Evs.cons rfl (Evs.cons rfl Evs.nil))) rfl ?_)) | (apply OpW.k_call; first | (apply OpW.k_callf 41; exact OpW.callV k1 (Evs.cons rfl Evs.nil)) | (apply OpW.k_callf 19; exact OpW.callV k3 (Evs.cons rfl (Evs.cons rfl (Evs.cons rfl Evs.nil))))) | refine goR ?_ | refine goP ?_ | apply PSeq.cons | apply PSeq.yes rfl rfl rfl | exact goW | fail)
   all_goals first
    |(exfalso; omega)
    |(rw [F.e5 (by assumption), thR_bad (by decide)]; refine Fin.ret (Ent.trans (Ent.nilsl 2 (s := 4) rfl) (Ent.take goTk)) (Outs.many rfl (OutL.cons goOe (OutL.cons goOe OutL.nil)) rfl) ⟨rfl, rfl⟩)
    |(rw [F.e1 (by assumption) rfl g, thR_bad (by decide)]; refine Fin.ret (Ent.trans (Ent.nilsl 2 (s := 4) rfl) (Ent.take goTk)) (Outs.many rfl (OutL.cons goOe (OutL.cons goOe OutL.nil)) rfl) ⟨rfl, rfl⟩)
 obtain ⟨j, hj⟩ : ∃ j, k = j + 1 := ⟨k - 1, by omega⟩
 obtain ⟨y, hy⟩ := at_lt (l := c) (k := j) (by omega)
 have hrow2 : (c.map Nm.row)[((k : Int) - 1).toNat]? = some [.str y.key, .int y.many] := by rw [show ((k : Int) - 1).toNat = j by omega]; exact rows_at hy
 have F := cnF (p := some y) hx (by rw [hj]; exact hy) hV hkl
 rw [show ordN (some y) x = (strLt x.key y.key || decide (x.key = y.key)) from rfl] at F
 generalize isKey x.key = q1 at *
 clear hV hx hy
 cases oB
 ·have g := G1 rfl
  have hmb3 := hmb2 g
  clear G0 G1 hmb2
  repeat' (first | refine goH ?_ | (refine Ops.k_lookup ?_; first | (refine Ops.lookup rfl rfl goPk rfl ?_; rw [tkv_read])) | (refine Ops.k_mapUpdate ?_; first | (refine Ops.mapUpdate rfl rfl rfl goPk ?_; rw [tkv_set])) | refine goV ?_ | refine goB (fun b => ?_) | refine goG ?_ | (refine Ops.k_guard ?_; first | (refine Ops.guard_dec rfl rfl ?_ ?_ <;> intro hc <;> try omega) | refine Ops.guard_split rfl rfl ?_ ?_ <;> intro hc) | refine goI ?_ | (refine Cw.k_cond ?_; first | (refine Cw.cond_dec rfl ?_ ?_ <;> intro hc <;> try omega) | refine Cw.cond_bool rfl ?_ ?_ <;> intro hc) | (refine Ops.k_calla ?_; first | (refine Ops.k_callf 41 ?_; refine Ops.callV k1 (Evs.cons rfl Evs.nil) rfl ?_) | (refine Ops.k_callf 19 ?_; refine Ops.callV k3 (Evs.cons rfl (Evs.cons rfl (Evs.cons rfl Evs.nil))) rfl ?_)) | (apply OpW.k_call; first | (apply OpW.k_callf 41; exact OpW.callV k1 (Evs.cons rfl Evs.nil)) | (apply OpW.k_callf 19; exact OpW.callV k3 (Evs.cons rfl (Evs.cons rfl (Evs.cons rfl Evs.nil))))) | refine goR ?_ | refine goP ?_ | apply PSeq.cons | apply PSeq.yes rfl rfl rfl | exact goW | fail)
  all_goals first
   |(exfalso; omega)
   |exact ⟨_, _, _, (Ent.mk goSub goTk), ⟨k + 1, _, rfl, ⟨by omega, F.ok (by assumption) (by assumption) g, hM2, hmb3, hmn2, by omega⟩, rfl, rfl⟩, by omega⟩
   |(rw [F.e5 (by assumption), thR_bad (by decide)]; refine Fin.ret (Ent.trans (Ent.nilsl 2 (s := 4) rfl) (Ent.take goTk)) (Outs.many rfl (OutL.cons goOe (OutL.cons goOe OutL.nil)) rfl) ⟨rfl, rfl⟩)
   |(rw [F.e7 (by assumption) (by assumption), thR_bad (by decide)]; refine Fin.ret (Ent.trans (Ent.nilsl 2 (s := 4) rfl) (Ent.take goTk)) (Outs.many rfl (OutL.cons goOe (OutL.cons goOe OutL.nil)) rfl) ⟨rfl, rfl⟩)
 ·have g := G0 rfl
  clear G0 G1 hmb2
  repeat' (first | refine goH ?_ | refine goV ?_ | refine goB (fun b => ?_) | refine goG ?_ | (refine Ops.k_guard ?_; first | (refine Ops.guard_dec rfl rfl ?_ ?_ <;> intro hc <;> try omega) | refine Ops.guard_split rfl rfl ?_ ?_ <;> intro hc) | refine goI ?_ | (refine Cw.k_cond ?_; first | (refine Cw.cond_dec rfl ?_ ?_ <;> intro hc <;> try omega) | refine Cw.cond_bool rfl ?_ ?_ <;> intro hc) | (refine Ops.k_calla ?_; first | (refine Ops.k_callf 41 ?_; refine Ops.callV k1 (Evs.cons rfl Evs.nil) rfl ?_) | (refine Ops.k_callf 19 ?_; refine Ops.callV k3 (Evs.cons rfl (Evs.cons rfl (Evs.cons rfl Evs.nil))) rfl ?_)) | (apply OpW.k_call; first | (apply OpW.k_callf 41; exact OpW.callV k1 (Evs.cons rfl Evs.nil)) | (apply OpW.k_callf 19; exact OpW.callV k3 (Evs.cons rfl (Evs.cons rfl (Evs.cons rfl Evs.nil))))) | refine goR ?_ | refine goP ?_ | apply PSeq.cons | apply PSeq.yes rfl rfl rfl | exact goW | fail)
  all_goals first
   |(exfalso; omega)
   |(rw [F.e5 (by assumption), thR_bad (by decide)]; refine Fin.ret (Ent.trans (Ent.nilsl 2 (s := 4) rfl) (Ent.take goTk)) (Outs.many rfl (OutL.cons goOe (OutL.cons goOe OutL.nil)) rfl) ⟨rfl, rfl⟩)
   |(rw [F.e7 (by assumption) (by assumption), thR_bad (by decide)]; refine Fin.ret (Ent.trans (Ent.nilsl 2 (s := 4) rfl) (Ent.take goTk)) (Outs.many rfl (OutL.cons goOe (OutL.cons goOe OutL.nil)) rfl) ⟨rfl, rfl⟩)
   |(rw [F.e1 (by assumption) (by assumption) g, thR_bad (by decide)]; refine Fin.ret (Ent.trans (Ent.nilsl 2 (s := 4) rfl) (Ent.take goTk)) (Outs.many rfl (OutL.cons goOe (OutL.cons goOe OutL.nil)) rfl) ⟨rfl, rfl⟩)
end Lg
end
section
set_option linter.all false
set_option maxRecDepth 100000
set_option maxHeartbeats 8000000
namespace Lg
open Go Go.Proofs

/-! ### moves compared -/
def eqIB (a b : Int) : Bool := a == b
def eqSB (a b : ByteArray) : Bool := a == b
theorem eqI0 (n : Nat) (a b : Int) (w : World) : (Op.equalIn (n + 1) 3 (.int .i64 a) (.int .i64 b)).run Tryz.prog w = .ok (eqIB a b) w := by
 simp [Op.equalIn, run_underlying Tryz.underlying3, eqIB]
theorem eqS0 (n : Nat) (a b : ByteArray) (w : World) : (Op.equalIn (n + 1) 9 (.string a) (.string b)).run Tryz.prog w = .ok (eqSB a b) w := by
 simp [Op.equalIn, run_underlying Tryz.underlying9, eqSB]
theorem mv_eq0 (n : Nat) (s1 w1 s2 w2 : ByteArray) (n1 d1 m1 n2 d2 m2 : Int) (w : World) : (Op.equalIn (n + 1 + 1) 43 (.agg #[.string s1, .int .i64 n1, .int .i64 d1, .string w1, .int .i64 m1]) (.agg #[.string s2, .int .i64 n2, .int .i64 d2, .string w2, .int .i64 m2])).run Tryz.prog w
  = .ok (eqSB s1 s2 && (eqIB n1 n2 && (eqIB d1 d2 && (eqSB w1 w2 && eqIB m1 m2)))) w := by
 have hs : Tryz.prog.stoodInHeld 43 = false := by kernel_rfl
 rw [Op.equalIn]
 have g1 := fun w => eqS0 n s1 s2 w
 have g2 := fun w => eqI0 n n1 n2 w
 have g3 := fun w => eqI0 n d1 d2 w
 have g4 := fun w => eqS0 n w1 w2 w
 have g5 := fun w => eqI0 n m1 m2 w
 generalize eqSB s1 s2 = e1 at *
 generalize eqIB n1 n2 = e2 at *
 generalize eqIB d1 d2 = e3 at *
 generalize eqSB w1 w2 = e4 at *
 generalize eqIB m1 m2 = e5 at *
 cases e1
 ·simp [run_underlying Tryz.underlying43, run_underlying Tryz.underlying3, run_underlying Tryz.underlying9, hs, part, Go.sizeOf, typeInfo, g1]
 cases e2
 ·simp [run_underlying Tryz.underlying43, run_underlying Tryz.underlying3, run_underlying Tryz.underlying9, hs, part, Go.sizeOf, typeInfo, g1, g2]
 cases e3
 ·simp [run_underlying Tryz.underlying43, run_underlying Tryz.underlying3, run_underlying Tryz.underlying9, hs, part, Go.sizeOf, typeInfo, g1, g2, g3]
 cases e4
 ·simp [run_underlying Tryz.underlying43, run_underlying Tryz.underlying3, run_underlying Tryz.underlying9, hs, part, Go.sizeOf, typeInfo, g1, g2, g3, g4]
 cases e5
 all_goals simp [run_underlying Tryz.underlying43, run_underlying Tryz.underlying3, run_underlying Tryz.underlying9, hs, part, Go.sizeOf, typeInfo, g1, g2, g3, g4, g5]
theorem mv_dec (a b : Mv) : (eqSB a.site b.site && (eqIB a.no b.no && (eqIB a.day b.day && (eqSB a.ware b.ware && eqIB a.many b.many)))) = decide (a = b) := by
 unfold eqSB eqIB
 rw [ba_beq, ba_beq]
 obtain ⟨s, n, d, x, m⟩ := a
 obtain ⟨s2, n2, d2, x2, m2⟩ := b
 rw [Bool.eq_iff_iff]
 simp
abbrev mvV (a : Mv) : List Value := [.string a.site, .int .i64 a.no, .int .i64 a.day, .string a.ware, .int .i64 a.many]
theorem mv_eq1 (a b : Mv) (w : World) : (binOp .eql 43 (.agg (mvV a).toArray) (.agg (mvV b).toArray)).run Tryz.prog w = .ok (.bool (decide (a = b))) w := by
 show (do let r ← Op.equalIn (9998 + 1 + 1) 43 _ _; pure (Value.bool r) : Sem Value).run Tryz.prog w = _
 have := mv_eq0 9998 a.site a.ware b.site b.ware a.no a.day a.many b.no b.day b.many w
 rw [mv_dec] at this
 generalize Op.equalIn (9998 + 1 + 1) 43 (.agg #[.string a.site, .int .i64 a.no, .int .i64 a.day, .string a.ware, .int .i64 a.many]) (.agg #[.string b.site, .int .i64 b.no, .int .i64 b.day, .string b.ware, .int .i64 b.many]) = s at *
 simp [this]
theorem mv_ne1 (a b : Mv) (w : World) : (binOp .neq 43 (.agg (mvV a).toArray) (.agg (mvV b).toArray)).run Tryz.prog w = .ok (.bool (!decide (a = b))) w := by
 show (do let r ← Op.equalIn (9998 + 1 + 1) 43 _ _; pure (Value.bool !r) : Sem Value).run Tryz.prog w = _
 have := mv_eq0 9998 a.site a.ware b.site b.ware a.no a.day a.many b.no b.day b.many w
 rw [mv_dec] at this
 generalize Op.equalIn (9998 + 1 + 1) 43 (.agg #[.string a.site, .int .i64 a.no, .int .i64 a.day, .string a.ware, .int .i64 a.many]) (.agg #[.string b.site, .int .i64 b.no, .int .i64 b.day, .string b.ware, .int .i64 b.many]) = s at *
 simp [this]
section
variable {Γ : Ctx} {env : Env} {cs : List Chunk} {x y : Operand} {T2 ty : TypeId}
theorem OpV.mv_eqv {a b : Mv} {r : Bool} (hr : decide (a = b) = r) (hx : ev env x = some (.agg a.row)) (hy : ev env y = some (.agg b.row)) : OpV Tryz.prog Γ (.binOp .eql 43 x y T2) ty env cs (.bool r) := by
 subst hr
 unfold OpV
 intro ac w d
 have h1 := agg_raw (l := mvV a) (d.ev hx)
 have h2 := agg_raw (l := mvV b) (d.ev hy)
 have h3 := mv_eq1 a b w
 have h4 : (eqGuard .eql 43 x y (.agg (mvV a).toArray) (.agg (mvV b).toArray)).run Tryz.prog w = .ok () w := by simp [eqGuard]
 exact ⟨.bool (decide (a = b)), by simp [execOp, h1, h2, h3, h4], by unfold Tr.bool Tr.raw; rfl⟩
theorem OpV.mv_nev {a b : Mv} {r : Bool} (hr : decide (a = b) = r) (hx : ev env x = some (.agg a.row)) (hy : ev env y = some (.agg b.row)) : OpV Tryz.prog Γ (.binOp .neq 43 x y T2) ty env cs (.bool (!r)) := by
 subst hr
 unfold OpV
 intro ac w d
 have h1 := agg_raw (l := mvV a) (d.ev hx)
 have h2 := agg_raw (l := mvV b) (d.ev hy)
 have h3 := mv_ne1 a b w
 have h4 : (eqGuard .neq 43 x y (.agg (mvV a).toArray) (.agg (mvV b).toArray)).run Tryz.prog w = .ok () w := by simp [eqGuard]
 exact ⟨.bool (!decide (a = b)), by simp [execOp, h1, h2, h3, h4], by unfold Tr.bool Tr.raw; rfl⟩
end
end Lg
end
section
set_option linter.all false
set_option maxRecDepth 100000
set_option maxHeartbeats 1000000
namespace Lg
open Go

theorem dd_short {α : Type} [DecidableEq α] {l : List α} (h : l.length < 2) : dd l = l := by
 rcases l with _ | ⟨a, _ | ⟨b, l⟩⟩
 ·rfl
 ·rfl
 ·simp at h; omega
theorem dd_snoc {α : Type} [DecidableEq α] (a b : α) : ∀ l : List α, dd (l ++ [a] ++ [b]) = if a = b then dd (l ++ [a]) else dd (l ++ [a]) ++ [b]
 |[] => by
  show dd [a, b] = _
  by_cases h : a = b
  ·rw [if_pos h, dd, if_pos h, h]; rfl
  ·rw [if_neg h, dd, if_neg h]; rfl
 |[c] => by
  have ih := dd_snoc a b []
  simp only [List.nil_append] at ih
  show dd (c :: a :: [b]) = _
  rw [show dd ([c] ++ [a]) = if c = a then dd [a] else c :: dd [a] from rfl]
  have e : dd (c :: a :: [b]) = if c = a then dd (a :: [b]) else c :: dd (a :: [b]) := rfl
  rw [e]
  have ih2 : dd (a :: [b]) = if a = b then dd [a] else dd [a] ++ [b] := ih
  rw [ih2]
  by_cases h1 : c = a <;> by_cases h2 : a = b <;> simp [h1, h2]
 |c :: d :: l => by
  have ih := dd_snoc a b (d :: l)
  have e : ∀ m : List α, dd (c :: d :: m) = if c = d then dd (d :: m) else c :: dd (d :: m) := fun m => rfl
  show dd (c :: d :: (l ++ [a] ++ [b])) = if a = b then dd (c :: d :: (l ++ [a])) else dd (c :: d :: (l ++ [a])) ++ [b]
  rw [e, e]
  have ih2 : dd (d :: (l ++ [a] ++ [b])) = if a = b then dd (d :: (l ++ [a])) else dd (d :: (l ++ [a])) ++ [b] := ih
  rw [ih2]
  by_cases h1 : c = d <;> by_cases h2 : a = b <;> simp [h1, h2]
theorem dd_take {α : Type} [DecidableEq α] {L : List α} {k : Nat} {a b : α} (hk : 1 ≤ k) (ha : L[k - 1]? = some a) (hb : L[k]? = some b) : dd (L.take (k + 1)) = if a = b then dd (L.take k) else dd (L.take k) ++ [b] := by
 have e1 : L.take k = L.take (k - 1) ++ [a] := by
  have := take_at ha
  rwa [show k - 1 + 1 = k by omega] at this
 rw [take_at hb, e1]
 exact dd_snoc a b _
theorem dd_go {α : Type} [DecidableEq α] {L : List α} {k : Nat} {a b : α} (hk : 1 ≤ k) (ha : L[k - 1]? = some a) (hb : L[k]? = some b) (hd : dd (L.take k) = L.take k) (h : a ≠ b) : dd (L.take (k + 1)) = L.take (k + 1) := by
 rw [dd_take hk ha hb, if_neg h, hd, take_at hb]
theorem dd_le {α : Type} [DecidableEq α] : ∀ (l : List α), (dd l).length ≤ l.length
 |[] => Nat.le_refl _
 |[_] => Nat.le_refl _
 |a :: b :: l => by
  have ih := dd_le (b :: l)
  unfold dd
  split
  ·simp only [List.length_cons] at ih ⊢; omega
  ·simp only [List.length_cons] at ih ⊢; omega
/-- what memory holds while a slice is made compact: m taken, the first j of L seen -/
structure Cpt {α : Type} [DecidableEq α] (L W : List α) (m j : Nat) : Prop where
 len : W.length = L.length
 hm : m = (dd (L.take j)).length
 lt : m < j
 hj : j ≤ L.length
 done : W.take m = dd (L.take j)
 rest : W.drop (j - 1) = L.drop (j - 1)
theorem dd_dup {α : Type} [DecidableEq α] {L : List α} {k : Nat} {a : α} (hk : 1 ≤ k) (ha : L[k - 1]? = some a) (hb : L[k]? = some a) (hd : dd (L.take k) = L.take k) : Cpt L L k (k + 1) := by
 have hlt := (List.getElem?_eq_some_iff.1 hb).1
 have e : dd (L.take (k + 1)) = L.take k := by rw [dd_take hk ha hb, if_pos rfl, hd]
 exact ⟨rfl, by rw [e, List.length_take]; omega, by omega, by omega, by rw [e], rfl⟩
theorem Cpt.at0 {α : Type} [DecidableEq α] {L W : List α} {m j q : Nat} (h : Cpt L W m j) (hq : j - 1 ≤ q) : W[q]? = L[q]? := by
 have := congrArg (fun l => l[q - (j - 1)]?) h.rest
 simp only [List.getElem?_drop] at this
 rwa [show j - 1 + (q - (j - 1)) = q by omega] at this
theorem Cpt.same {α : Type} [DecidableEq α] {L W : List α} {m j : Nat} {a : α} (h : Cpt L W m j) (ha : L[j - 1]? = some a) (hb : L[j]? = some a) : Cpt L W m (j + 1) := by
 have hlt := (List.getElem?_eq_some_iff.1 hb).1
 have hj : 1 ≤ j := by have := h.lt; omega
 have e : dd (L.take (j + 1)) = dd (L.take j) := by rw [dd_take hj ha hb, if_pos rfl]
 refine ⟨h.len, by rw [e]; exact h.hm, by have := h.lt; omega, by omega, by rw [e]; exact h.done, ?_⟩
 have := congrArg (List.drop 1) h.rest
 rw [List.drop_drop, List.drop_drop] at this
 rwa [show j - 1 + 1 = j + 1 - 1 by omega] at this
theorem Cpt.new {α : Type} [DecidableEq α] {L W : List α} {m j : Nat} {a b : α} (h : Cpt L W m j) (ha : L[j - 1]? = some a) (hb : L[j]? = some b) (hab : a ≠ b) : Cpt L (W.set m b) (m + 1) (j + 1) := by
 have hlt := (List.getElem?_eq_some_iff.1 hb).1
 have hl := h.lt
 have hj : 1 ≤ j := by omega
 have hw := h.len
 have e : dd (L.take (j + 1)) = dd (L.take j) ++ [b] := by rw [dd_take hj ha hb, if_neg hab]
 refine ⟨by rw [List.length_set]; exact h.len, by rw [e, List.length_append, ← h.hm]; rfl, by omega, by omega, ?_, ?_⟩
 ·rw [e, ← h.done]
  have hg : (W.set m b)[m]? = some b := List.getElem?_set_self (by omega)
  rw [take_at hg, List.take_set, List.set_eq_of_length_le (by rw [List.length_take]; omega)]
 ·rw [List.drop_set, if_pos (by omega)]
  have := congrArg (List.drop 1) h.rest
  rw [List.drop_drop, List.drop_drop] at this
  rwa [show j - 1 + 1 = j + 1 - 1 by omega] at this
end Lg
end
