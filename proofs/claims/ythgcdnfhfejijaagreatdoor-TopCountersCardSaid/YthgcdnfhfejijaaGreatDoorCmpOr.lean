/- A part of the proof of a law of this seat: it adds no condition. By an AI agent. -/
import Derived.Test.YthgcdnfhfejijaaGreatDoorLgNest
import Derived.Test.YthgcdnfhfejijaaGreatDoorCont
section
set_option linter.all false
set_option maxRecDepth 100000
set_option maxHeartbeats 4000000
namespace Lg
open Go Go.Proofs

structure Lot where
 id : ByteArray
 prod : ByteArray
 exp : Int
 many : Int
def Lot.row (x : Lot) : List Tr := [.str x.id, .str x.prod, .int x.exp, .int x.many]
abbrev Tr.lots (l : List Lot) : Tr := Tr.sl 4 (l.map Lot.row)
def lotErr (x : Lot) : Int := if isKey x.prod = false then 5 else if x.exp < 0 ∨ 4000 < x.exp ∨ x.many < 0 ∨ 100000 < x.many then 1 else 0
def lotE (l : List Lot) (k : Nat) : Int := match l[k]? with
 |none => 0
 |some x => if isKey x.id = false then 5 else if prevB (fun x y => strLe x.id y.id) l k x then 7 else lotErr x
def lotsErr (l : List Lot) : Int := if l.length > 500 then 2 else firstE (lotE l) 0 l.length

theorem lotFault_fn (x : Lot) : PFn Tryz.prog 104 [.agg x.row] (· = .int (lotErr x)) := by
 refine PFn.mk (Spec.body Tryz.func104 rfl rfl (Tryz.ntmps104) rfl fun w0 own0 M => ?_)
 have hd := day_fn x.exp
 have ho := out_fn x.many 0 100000
 have hk := key_fn x.prod
 unfold Lot.row
 cases h1 : isKey x.prod
 ·rw [h1] at hk
  repeat' (first | refine goH ?_ | refine goV ?_ | refine goB (fun b => ?_) | refine goG ?_ | (refine Ops.k_guard ?_; first | (refine Ops.guard_dec rfl rfl ?_ ?_ <;> intro hc <;> try omega) | refine Ops.guard_split rfl rfl ?_ ?_ <;> intro hc) | refine goI ?_ | (refine Cw.k_cond ?_; first | (refine Cw.cond_dec rfl ?_ ?_ <;> intro hc <;> try omega) | refine Cw.cond_bool rfl ?_ ?_ <;> intro hc) | (refine Ops.k_calla ?_; first | (refine Ops.k_callf 49 ?_; refine Ops.callV hk (Evs.cons rfl Evs.nil) rfl ?_)) | fail)
  refine Fin.ret (Ent.take goTk) (Outs.one rfl rfl) ⟨rfl, congrArg Tr.int ?_⟩
  simp [lotErr, h1]
 rw [h1] at hk
 by_cases h2 : x.exp < 0 ∨ 4000 < x.exp
 ·rw [show dayB x.exp = false by simp [dayB, outB]; omega] at hd
  repeat' (first | refine goH ?_ | refine goV ?_ | refine goB (fun b => ?_) | refine goG ?_ | (refine Ops.k_guard ?_; first | (refine Ops.guard_dec rfl rfl ?_ ?_ <;> intro hc <;> try omega) | refine Ops.guard_split rfl rfl ?_ ?_ <;> intro hc) | refine goI ?_ | (refine Cw.k_cond ?_; first | (refine Cw.cond_dec rfl ?_ ?_ <;> intro hc <;> try omega) | refine Cw.cond_bool rfl ?_ ?_ <;> intro hc) | (refine Ops.k_calla ?_; first | (refine Ops.k_callf 49 ?_; refine Ops.callV hk (Evs.cons rfl Evs.nil) rfl ?_) | (refine Ops.k_callf 102 ?_; refine Ops.callV hd (Evs.cons rfl Evs.nil) rfl ?_)) | fail)
  refine Fin.ret (Ent.take goTk) (Outs.one rfl rfl) ⟨rfl, congrArg Tr.int ?_⟩
  unfold lotErr
  rw [if_neg (by simp [h1]), if_pos (by omega)]
 rw [show dayB x.exp = true by simp [dayB, outB]; omega] at hd
 by_cases h3 : x.many < 0 ∨ 100000 < x.many
 ·rw [show outB x.many 0 100000 = true by simp [outB]; omega] at ho
  repeat' (first | refine goH ?_ | refine goV ?_ | refine goB (fun b => ?_) | refine goG ?_ | (refine Ops.k_guard ?_; first | (refine Ops.guard_dec rfl rfl ?_ ?_ <;> intro hc <;> try omega) | refine Ops.guard_split rfl rfl ?_ ?_ <;> intro hc) | refine goI ?_ | (refine Cw.k_cond ?_; first | (refine Cw.cond_dec rfl ?_ ?_ <;> intro hc <;> try omega) | refine Cw.cond_bool rfl ?_ ?_ <;> intro hc) | (refine Ops.k_calla ?_; first | (refine Ops.k_callf 49 ?_; refine Ops.callV hk (Evs.cons rfl Evs.nil) rfl ?_) | (refine Ops.k_callf 102 ?_; refine Ops.callV hd (Evs.cons rfl Evs.nil) rfl ?_) | (refine Ops.k_callf 32 ?_; refine Ops.callV ho (Evs.cons rfl (Evs.cons rfl (Evs.cons rfl Evs.nil))) rfl ?_)) | fail)
  refine Fin.ret (Ent.take goTk) (Outs.one rfl rfl) ⟨rfl, congrArg Tr.int ?_⟩
  unfold lotErr
  rw [if_neg (by simp [h1]), if_pos (by omega)]
 ·rw [show outB x.many 0 100000 = false by simp [outB]; omega] at ho
  repeat' (first | refine goH ?_ | refine goV ?_ | refine goB (fun b => ?_) | refine goG ?_ | (refine Ops.k_guard ?_; first | (refine Ops.guard_dec rfl rfl ?_ ?_ <;> intro hc <;> try omega) | refine Ops.guard_split rfl rfl ?_ ?_ <;> intro hc) | refine goI ?_ | (refine Cw.k_cond ?_; first | (refine Cw.cond_dec rfl ?_ ?_ <;> intro hc <;> try omega) | refine Cw.cond_bool rfl ?_ ?_ <;> intro hc) | (refine Ops.k_calla ?_; first | (refine Ops.k_callf 49 ?_; refine Ops.callV hk (Evs.cons rfl Evs.nil) rfl ?_) | (refine Ops.k_callf 102 ?_; refine Ops.callV hd (Evs.cons rfl Evs.nil) rfl ?_) | (refine Ops.k_callf 32 ?_; refine Ops.callV ho (Evs.cons rfl (Evs.cons rfl (Evs.cons rfl Evs.nil))) rfl ?_)) | fail)
  refine Fin.ret (Ent.take goTk) (Outs.one rfl rfl) ⟨rfl, congrArg Tr.int ?_⟩
  unfold lotErr
  rw [if_neg (by simp [h1]), if_neg (by omega)]

theorem checkLots_fn (l : List Lot) (hl : l.length ≤ 1000000) : PFn Tryz.prog 69 [.lots l] (· = .int (lotsErr l)) := by
 refine PFn.mk (Spec.body Tryz.func69 rfl rfl (Tryz.ntmps69) rfl fun w0 own0 M => ?_)
 have hL : (l.map Lot.row).length = l.length := List.length_map _
 by_cases h500 : l.length > 500
 ·repeat' (first | refine goH ?_ | refine goV ?_ | refine goB (fun b => ?_) | refine goG ?_ | (refine Ops.k_guard ?_; first | (refine Ops.guard_dec rfl rfl ?_ ?_ <;> intro hc <;> try omega) | refine Ops.guard_split rfl rfl ?_ ?_ <;> intro hc) | refine goI ?_ | (refine Cw.k_cond ?_; first | (refine Cw.cond_dec rfl ?_ ?_ <;> intro hc <;> try omega) | refine Cw.cond_bool rfl ?_ ?_ <;> intro hc) | refine goR ?_ | refine goP ?_ | apply PSeq.cons | apply PSeq.yes rfl rfl rfl | exact goW | fail)
  refine Fin.ret (Ent.take goTk) (Outs.one rfl rfl) ⟨rfl, congrArg Tr.int ?_⟩
  unfold lotsErr
  rw [if_pos h500]
 have hV0 : lotsErr l = firstE (lotE l) 0 (l.length - 0) := by unfold lotsErr; rw [if_neg h500]; rfl
 repeat' (first | refine goH ?_ | refine goV ?_ | refine goB (fun b => ?_) | refine goG ?_ | (refine Ops.k_guard ?_; first | (refine Ops.guard_dec rfl rfl ?_ ?_ <;> intro hc <;> try omega) | refine Ops.guard_split rfl rfl ?_ ?_ <;> intro hc) | refine goI ?_ | (refine Cw.k_cond ?_; first | (refine Cw.cond_dec rfl ?_ ?_ <;> intro hc <;> try omega) | refine Cw.cond_bool rfl ?_ ?_ <;> intro hc) | refine goR ?_ | refine goP ?_ | apply PSeq.cons | apply PSeq.yes rfl rfl rfl | exact goW | fail)
 refine Cw.loopI [(0, _), (9, _), (10, _)] _ (fun n e c => ∃ k : Nat, n = l.length - k ∧ (k ≤ l.length ∧ lotsErr l = firstE (lotE l) k (l.length - k)) ∧ e = [(11, .int k)] ∧ c = []) ⟨_, _, _, (Ent.mkP goSub goPm), 0, rfl, ⟨by omega, hV0⟩, rfl, rfl⟩ ?_
 rintro _ _ _ ⟨k, rfl, ⟨hk, hV⟩, rfl, rfl⟩
 by_cases hkl : k < l.length
 ·obtain ⟨x, hx⟩ := at_lt hkl
  have hrow : (l.map Lot.row)[k]? = some [.str x.id, .str x.prod, .int x.exp, .int x.many] := rows_at hx
  have hkey := key_fn x.id
  have hlot := lotFault_fn x
  unfold Lot.row at hlot
  cases k with
  |zero =>
   have he : lotE l 0 = if isKey x.id = false then 5 else lotErr x := by simp [lotE, hx, prevB]
   repeat' (first | refine goH ?_ | refine goV ?_ | refine goB (fun b => ?_) | refine goG ?_ | (refine Ops.k_guard ?_; first | (refine Ops.guard_dec rfl rfl ?_ ?_ <;> intro hc <;> try omega) | refine Ops.guard_split rfl rfl ?_ ?_ <;> intro hc) | refine goI ?_ | (refine Cw.k_cond ?_; first | (refine Cw.cond_dec rfl ?_ ?_ <;> intro hc <;> try omega) | refine Cw.cond_bool rfl ?_ ?_ <;> intro hc) | (refine Ops.k_calla ?_; first | (refine Ops.k_callf 49 ?_; refine Ops.callV hkey (Evs.cons rfl Evs.nil) rfl ?_) | (refine Ops.k_callf 104 ?_; refine Ops.callV hlot (Evs.cons rfl Evs.nil) rfl ?_)) | (apply OpW.k_call; first | (apply OpW.k_callf 49; exact OpW.callV hkey (Evs.cons rfl Evs.nil)) | (apply OpW.k_callf 104; exact OpW.callV hlot (Evs.cons rfl Evs.nil))) | refine goR ?_ | refine goP ?_ | apply PSeq.cons | apply PSeq.yes rfl rfl rfl | exact goW | fail)
   all_goals first | (refine Fin.ret (Ent.take goTk) (Outs.one rfl rfl) ⟨rfl, congrArg Tr.int ?_⟩; exact (hV.trans (firstE_bad hkl (by rw [he]; simp_all) (by first | decide | assumption))).symm) | exact ⟨_, _, _, (Ent.mk goSub goTk), ⟨_, rfl, ⟨by omega, hV.trans (firstE_ok hkl (by rw [he]; simp_all))⟩, rfl, rfl⟩, by omega⟩
  |succ j =>
   obtain ⟨y, hy⟩ := at_lt (l := l) (k := j) (by omega)
   have hrow2 : (l.map Lot.row)[(((j + 1 : Nat) : Int) - 1).toNat]? = some [.str y.id, .str y.prod, .int y.exp, .int y.many] := by rw [show (((j + 1 : Nat) : Int) - 1).toNat = j by omega]; exact rows_at hy
   have he : lotE l (j + 1) = if isKey x.id = false then 5 else if strLt x.id y.id || decide (x.id = y.id) then 7 else lotErr x := by simp [lotE, hx, hy, prevB, strLe]
   repeat' (first | refine goH ?_ | refine goV ?_ | refine goB (fun b => ?_) | refine goG ?_ | (refine Ops.k_guard ?_; first | (refine Ops.guard_dec rfl rfl ?_ ?_ <;> intro hc <;> try omega) | refine Ops.guard_split rfl rfl ?_ ?_ <;> intro hc) | refine goI ?_ | (refine Cw.k_cond ?_; first | (refine Cw.cond_dec rfl ?_ ?_ <;> intro hc <;> try omega) | refine Cw.cond_bool rfl ?_ ?_ <;> intro hc) | (refine Ops.k_calla ?_; first | (refine Ops.k_callf 49 ?_; refine Ops.callV hkey (Evs.cons rfl Evs.nil) rfl ?_) | (refine Ops.k_callf 104 ?_; refine Ops.callV hlot (Evs.cons rfl Evs.nil) rfl ?_)) | (apply OpW.k_call; first | (apply OpW.k_callf 49; exact OpW.callV hkey (Evs.cons rfl Evs.nil)) | (apply OpW.k_callf 104; exact OpW.callV hlot (Evs.cons rfl Evs.nil))) | refine goR ?_ | refine goP ?_ | apply PSeq.cons | apply PSeq.yes rfl rfl rfl | exact goW | fail)
   all_goals first | (refine Fin.ret (Ent.take goTk) (Outs.one rfl rfl) ⟨rfl, congrArg Tr.int ?_⟩; exact (hV.trans (firstE_bad hkl (by rw [he]; simp_all) (by first | decide | assumption))).symm) | exact ⟨_, _, _, (Ent.mk goSub goTk), ⟨_, rfl, ⟨by omega, hV.trans (firstE_ok hkl (by rw [he]; simp_all))⟩, rfl, rfl⟩, by omega⟩
 ·repeat' (first | refine goH ?_ | refine goV ?_ | refine goB (fun b => ?_) | refine goG ?_ | (refine Ops.k_guard ?_; first | (refine Ops.guard_dec rfl rfl ?_ ?_ <;> intro hc <;> try omega) | refine Ops.guard_split rfl rfl ?_ ?_ <;> intro hc) | refine goI ?_ | (refine Cw.k_cond ?_; first | (refine Cw.cond_dec rfl ?_ ?_ <;> intro hc <;> try omega) | refine Cw.cond_bool rfl ?_ ?_ <;> intro hc) | refine goR ?_ | refine goP ?_ | apply PSeq.cons | apply PSeq.yes rfl rfl rfl | exact goW | fail)
  refine Fin.ret (Ent.take goTk) (Outs.one rfl rfl) ⟨rfl, congrArg Tr.int ?_⟩
  rw [hV, firstE_end hkl]
end Lg
end
section
set_option linter.all false
set_option maxRecDepth 100000
set_option maxHeartbeats 4000000
namespace Lg
open Go Go.Proofs

structure Piece where
 lot : ByteArray
 many : Int
def Piece.row (x : Piece) : List Tr := [.str x.lot, .int x.many]
abbrev Tr.pieces (l : List Piece) : Tr := Tr.sl 2 (l.map Piece.row)
structure Coil where
 prod : ByteArray
 most : Int
 ps : List Piece
def Coil.row (c : Coil) : List Tr := [.str c.prod, .int c.most, .pieces c.ps]
end Lg
end
section
set_option linter.all false
set_option maxRecDepth 100000
set_option maxHeartbeats 2000000
namespace Lg
open Go Go.Proofs
def orI : List Int → Int
 |[] => 0
 |x :: l => if x ≠ 0 then x else orI l
theorem orI_cons (x : Int) (l : List Int) : orI (x :: l) = if x ≠ 0 then x else orI l := rfl
theorem cmpOr_fn (l : List Int) (hl : l.length ≤ 1000) : PFn Tryz.prog 70 [.ints l] (· = .int (orI l)) := by
 refine PFn.mk (Spec.body Tryz.func70 rfl rfl (Tryz.ntmps70) rfl fun w0 own0 M => ?_)
 have hL := intRows_len l
 repeat' (first | refine goH ?_ | refine goV ?_ | refine goI ?_ | (refine Cw.k_cond ?_; first | (refine Cw.cond_dec rfl ?_ ?_ <;> intro hc <;> try omega) | refine Cw.cond_bool rfl ?_ ?_ <;> intro hc) | fail)
 refine Cw.loop (ι := Nat) (fun k => k ≤ l.length ∧ orI (l.drop k) = orI l) (fun k => [(3, .int 0), (6, .ints l), (7, .int (intRows l).length), (8, .int k)]) (fun _ => []) (fun k => l.length - k) ⟨0, ⟨by omega, rfl⟩, (Ent.mk goSub goTk)⟩ ?_
 rintro k ⟨hk, h1⟩
 by_cases hkl : k < l.length
 ·obtain ⟨x, hx⟩ := at_lt hkl
  have hrow := intRows_at hx
  rw [drop_at hx, orI_cons] at h1
  by_cases hz : x = 0
  ·rw [if_neg (by omega)] at h1
   repeat' (first | refine goH ?_ | refine goV ?_ | refine goI ?_ | (refine Cw.k_cond ?_; first | (refine Cw.cond_dec rfl ?_ ?_ <;> intro hc <;> try omega) | refine Cw.cond_bool rfl ?_ ?_ <;> intro hc) | fail)
   exact ⟨k + 1, ⟨by omega, h1⟩, by omega, (Ent.mk goSub goTk)⟩
  ·rw [if_pos hz] at h1
   repeat' (first | refine goH ?_ | refine goV ?_ | refine goI ?_ | (refine Cw.k_cond ?_; first | (refine Cw.cond_dec rfl ?_ ?_ <;> intro hc <;> try omega) | refine Cw.cond_bool rfl ?_ ?_ <;> intro hc) | fail)
   exact Fin.ret Ent.refl (Outs.one rfl rfl) ⟨rfl, congrArg Tr.int h1⟩
 ·rw [List.drop_eq_nil_of_le (by omega), orI] at h1
  repeat' (first | refine goH ?_ | refine goV ?_ | refine goI ?_ | (refine Cw.k_cond ?_; first | (refine Cw.cond_dec rfl ?_ ?_ <;> intro hc <;> try omega) | refine Cw.cond_bool rfl ?_ ?_ <;> intro hc) | fail)
  exact Fin.ret Ent.refl (Outs.one rfl rfl) ⟨rfl, congrArg Tr.int h1⟩
end Lg
end
