/- A part of the proof of a law of this seat: it adds no condition. By an AI agent. -/
import Derived.Test.YtfgcjpkkbhnkgaaGreatDoorSGen
import Derived.Test.YtfgcjpkkbhnkgaaGreatDoorAge2
section
set_option linter.all false
set_option maxRecDepth 100000
set_option maxHeartbeats 4000000
namespace Lg
open Go Go.Proofs

def countI (l : List Lot) (p : ByteArray) : Int := sumF (fun x => if x.prod = p then x.many else 0) l
def countErr (l : List Lot) (p : ByteArray) : Int := if lotsErr l ≠ 0 then lotsErr l else if isKey p = false then 5 else 0
theorem count_fn (l : List Lot) (hl : l.length ≤ 1000000) (p : ByteArray) : PFn Tryz.prog 48 [.lots l, .str p] (· = .tup [.int (if countErr l p ≠ 0 then 0 else countI l p), .int (countErr l p)]) := by
 have h1 := checkLots_fn l hl
 have h2 := key_fn p
 refine PFn.mk (Spec.body Tryz.func48 rfl rfl (Tryz.ntmps48) rfl fun w0 own0 M => ?_)
 by_cases h0 : lotsErr l ≠ 0
 ·rw [show countErr l p = lotsErr l by unfold countErr; rw [if_pos h0], if_pos h0]
  repeat' (first | refine goH ?_ | refine goV ?_ | refine goB (fun b => ?_) | refine goI ?_ | (refine Cw.k_cond ?_; first | (refine Cw.cond_dec rfl ?_ ?_ <;> intro hc <;> try omega) | refine Cw.cond_bool rfl ?_ ?_ <;> intro hc) | (refine Ops.k_calla ?_; first | (refine Ops.k_callf 86 ?_; refine Ops.callV h1 (Evs.cons rfl Evs.nil) rfl ?_)) | fail)
  refine Fin.ret (Ent.take goTk) (Outs.many rfl (OutL.cons goOe (OutL.cons goOe OutL.nil)) rfl) ⟨rfl, rfl⟩
 have he : lotsErr l = 0 := by omega
 rw [he] at h1
 by_cases hk : isKey p = false
 ·rw [show countErr l p = 5 by unfold countErr; rw [if_neg h0, if_pos hk]]
  rw [hk] at h2
  repeat' (first | refine goH ?_ | refine goV ?_ | refine goB (fun b => ?_) | refine goI ?_ | (refine Cw.k_cond ?_; first | (refine Cw.cond_dec rfl ?_ ?_ <;> intro hc <;> try omega) | refine Cw.cond_bool rfl ?_ ?_ <;> intro hc) | (refine Ops.k_calla ?_; first | (refine Ops.k_callf 86 ?_; refine Ops.callV h1 (Evs.cons rfl Evs.nil) rfl ?_) | (refine Ops.k_callf 41 ?_; refine Ops.callV h2 (Evs.cons rfl Evs.nil) rfl ?_)) | fail)
  refine Fin.ret (Ent.take goTk) (Outs.many rfl (OutL.cons goOe (OutL.cons goOe OutL.nil)) rfl) ⟨rfl, rfl⟩
 rw [show countErr l p = 0 by unfold countErr; rw [if_neg h0, if_neg hk], if_neg (by decide)]
 replace hk : isKey p = true := by simpa using hk
 rw [hk] at h2
 obtain ⟨_, hx⟩ := lotsErr_ok he
 have hL : (l.map Lot.row).length = l.length := List.length_map _
 repeat' (first | refine goH ?_ | refine goV ?_ | refine goB (fun b => ?_) | refine goI ?_ | (refine Cw.k_cond ?_; first | (refine Cw.cond_dec rfl ?_ ?_ <;> intro hc <;> try omega) | refine Cw.cond_bool rfl ?_ ?_ <;> intro hc) | (refine Ops.k_calla ?_; first | (refine Ops.k_callf 86 ?_; refine Ops.callV h1 (Evs.cons rfl Evs.nil) rfl ?_) | (refine Ops.k_callf 41 ?_; refine Ops.callV h2 (Evs.cons rfl Evs.nil) rfl ?_)) | fail)
 refine Cw.loopI [(1, _), (18, _), (19, _)] _ (fun n e c => ∃ (k : Nat) (s : Int), n = l.length - k ∧ (k ≤ l.length ∧ s + countI (l.drop k) p = countI l p ∧ 0 ≤ s ∧ s ≤ 100000 * (k : Int)) ∧ e = [(7, .int s), (20, .int k)] ∧ c = []) ⟨_, _, _, (Ent.mkP goSub goPm), 0, 0, rfl, ⟨by omega, by simp, by omega, by omega⟩, rfl, rfl⟩ ?_
 rintro _ _ _ ⟨k, s, rfl, ⟨hk, hV, b1, b2⟩, rfl, rfl⟩
 by_cases hkl : k < l.length
 ·obtain ⟨x, hx'⟩ := at_lt hkl
  have hrow : (l.map Lot.row)[k]? = some [.str x.id, .str x.prod, .int x.exp, .int x.many] := rows_at hx'
  obtain ⟨_, _, _, _, m1, m2⟩ := hx x (List.mem_of_getElem? hx')
  rw [drop_at hx', countI, sumF_cons, ← countI] at hV
  by_cases hp : x.prod = p
  ·rw [if_pos hp] at hV
   repeat' (first | refine goH ?_ | refine goV ?_ | refine goB (fun b => ?_) | refine goI ?_ | (refine Cw.k_cond ?_; first | (refine Cw.cond_dec rfl ?_ ?_ <;> intro hc <;> try omega) | refine Cw.cond_bool rfl ?_ ?_ <;> intro hc) | fail)
   exact ⟨_, _, _, (Ent.mk goSub goTk), ⟨k + 1, _, rfl, ⟨by omega, by omega, by omega, by omega⟩, rfl, rfl⟩, by omega⟩
  ·rw [if_neg hp] at hV
   repeat' (first | refine goH ?_ | refine goV ?_ | refine goB (fun b => ?_) | refine goI ?_ | (refine Cw.k_cond ?_; first | (refine Cw.cond_dec rfl ?_ ?_ <;> intro hc <;> try omega) | refine Cw.cond_bool rfl ?_ ?_ <;> intro hc) | fail)
   exact ⟨_, _, _, (Ent.mk goSub goTk), ⟨k + 1, _, rfl, ⟨by omega, by omega, by omega, by omega⟩, rfl, rfl⟩, by omega⟩
 ·rw [List.drop_eq_nil_of_le (by omega), countI, sumF] at hV
  repeat' (first | refine goH ?_ | refine goV ?_ | refine goB (fun b => ?_) | refine goI ?_ | (refine Cw.k_cond ?_; first | (refine Cw.cond_dec rfl ?_ ?_ <;> intro hc <;> try omega) | refine Cw.cond_bool rfl ?_ ?_ <;> intro hc) | fail)
  refine Fin.ret (Ent.take goTk) (Outs.many rfl (OutL.cons goOe (OutL.cons goOe OutL.nil)) rfl) ⟨rfl, ?_⟩
  rw [show s = countI l p by omega]

end Lg
end
section
set_option linter.all false
namespace Lg
open Go Go.Proofs

theorem intRows_take (o : List Int) (k : Nat) : (intRows o).take k = intRows (o.take k) := by unfold intRows; rw [List.map_take]
end Lg
end
section
set_option linter.all false
set_option maxRecDepth 100000
set_option maxHeartbeats 4000000
namespace Lg
open Go Go.Proofs

structure Offer where
 key : ByteArray
 group : ByteArray
 pr : List Int
 has : List ByteArray
 hates : List ByteArray
def Offer.row (x : Offer) : List Tr := [.str x.key, .str x.group, .ints x.pr, .strs x.has, .strs x.hates]
abbrev Tr.offers (l : List Offer) : Tr := Tr.sl 5 (l.map Offer.row)
def keyEO (l : List ByteArray) (k : Nat) : Int := match l[k]? with
 |none => 0
 |some x => if isKey x = false then 5 else if prevB (fun x y => strLe x y) l k x then 7 else 0
def riseEO (l : List ByteArray) : Int := firstE (keyEO l) 0 l.length
def keysE (l : List ByteArray) : Int := if l.length > 10 then 2 else riseEO l
def prBad (n : Int) : Bool := decide (n < -1000000 ∨ 1000000 < n)
def prE (l : List Int) : Int := if l.length = 0 then 8 else if l.length > 10 then 2 else if l.any prBad then 1 else 0
def offerE (l : List Offer) (k : Nat) : Int := match l[k]? with
 |none => 0
 |some x => if isKey x.key = false then 5 else if prevB (fun x y => strLe x.key y.key) l k x then 7 else if isKey x.group = false then 5 else if prE x.pr ≠ 0 then prE x.pr else if keysE x.has ≠ 0 then keysE x.has else keysE x.hates
def offersE (l : List Offer) : Int := if l.length > 30 then 2 else firstE (offerE l) 0 l.length

/-! ### sorted lists of keys -/
theorem keysLoop (l : List ByteArray) (hl : l.length ≤ 1000000) (h10 : 10 = 10 → l.length ≤ 10) : PFn Tryz.prog 124 [.strs l] (· = .int (riseEO l)) := by
 refine PFn.mk (Spec.body Tryz.func124 rfl rfl (Tryz.ntmps124) rfl fun w0 own0 M => ?_)
 have hL := strRows_len l
 have hV0 : riseEO l = firstE (keyEO l) 0 (l.length - 0) := rfl
 try have h11 := h10 rfl
 repeat' (first | refine goH ?_ | refine goV ?_ | refine goG ?_ | (refine Ops.k_guard ?_; first | (refine Ops.guard_dec rfl rfl ?_ ?_ <;> intro hc <;> try omega) | refine Ops.guard_split rfl rfl ?_ ?_ <;> intro hc) | refine goI ?_ | (refine Cw.k_cond ?_; first | (refine Cw.cond_dec rfl ?_ ?_ <;> intro hc <;> try omega) | refine Cw.cond_bool rfl ?_ ?_ <;> intro hc) | fail)
 refine Cw.loopI [(0, _), (8, _), (9, _)] _ (fun n e c => ∃ k : Nat, n = l.length - k ∧ (k ≤ l.length ∧ riseEO l = firstE (keyEO l) k (l.length - k)) ∧ e = [(10, .int k)] ∧ c = []) ⟨_, _, _, (Ent.mkP goSub goPm), 0, rfl, ⟨by omega, hV0⟩, rfl, rfl⟩ ?_
 rintro _ _ _ ⟨k, rfl, ⟨hk, hV⟩, rfl, rfl⟩
 by_cases hkl : k < l.length
 ·obtain ⟨x, hx⟩ := at_lt hkl
  have hrow := strRows_at hx
  have hkey := key_fn x
  have fin : ∀ c, keyEO l k = c → c ≠ 0 → riseEO l = c := fun c h1 h2 => hV.trans (firstE_bad hkl h1 h2)
  have nxt : keyEO l k = 0 → riseEO l = firstE (keyEO l) (k + 1) (l.length - (k + 1)) := fun h1 => hV.trans (firstE_ok hkl h1)
  by_cases g1 : isKey x = false
  ·rw [g1] at hkey
   repeat' (first | refine goH ?_ | refine goV ?_ | refine goG ?_ | (refine Ops.k_guard ?_; first | (refine Ops.guard_dec rfl rfl ?_ ?_ <;> intro hc <;> try omega) | refine Ops.guard_split rfl rfl ?_ ?_ <;> intro hc) | refine goI ?_ | (refine Cw.k_cond ?_; first | (refine Cw.cond_dec rfl ?_ ?_ <;> intro hc <;> try omega) | refine Cw.cond_bool rfl ?_ ?_ <;> intro hc) | (refine Ops.k_calla ?_; first | (refine Ops.k_callf 41 ?_; refine Ops.callV hkey (Evs.cons rfl Evs.nil) rfl ?_)) | fail)
   exact Fin.ret (Ent.take goTk) (Outs.one rfl rfl) ⟨rfl, congrArg Tr.int (fin 5 (by simp [keyEO, hx, g1]) (by decide)).symm⟩
  replace g1 : isKey x = true := by simpa using g1
  rw [g1] at hkey
  cases k with
  |zero =>
   repeat' (first | refine goH ?_ | refine goV ?_ | refine goG ?_ | (refine Ops.k_guard ?_; first | (refine Ops.guard_dec rfl rfl ?_ ?_ <;> intro hc <;> try omega) | refine Ops.guard_split rfl rfl ?_ ?_ <;> intro hc) | refine goI ?_ | (refine Cw.k_cond ?_; first | (refine Cw.cond_dec rfl ?_ ?_ <;> intro hc <;> try omega) | refine Cw.cond_bool rfl ?_ ?_ <;> intro hc) | (refine Ops.k_calla ?_; first | (refine Ops.k_callf 41 ?_; refine Ops.callV hkey (Evs.cons rfl Evs.nil) rfl ?_)) | fail)
   exact ⟨_, _, _, (Ent.mk goSub goTk), ⟨_, rfl, ⟨by omega, nxt (by simp [keyEO, hx, prevB, g1])⟩, rfl, rfl⟩, by omega⟩
  |succ j =>
   obtain ⟨y, hy⟩ := at_lt (l := l) (k := j) (by omega)
   have hrow2 : (strRows l)[(((j + 1 : Nat) : Int) - 1).toNat]? = some [.str y] := by rw [show (((j + 1 : Nat) : Int) - 1).toNat = j by omega]; exact strRows_at hy
   have hp : prevB (fun x y => strLe x y) l (j + 1) x = (strLt x y || decide (x = y)) := by simp [prevB, hy, strLe]
   cases g2 : (strLt x y || decide (x = y))
   ·rw [g2] at hp
    repeat' (first | refine goH ?_ | refine goV ?_ | refine goG ?_ | (refine Ops.k_guard ?_; first | (refine Ops.guard_dec rfl rfl ?_ ?_ <;> intro hc <;> try omega) | refine Ops.guard_split rfl rfl ?_ ?_ <;> intro hc) | refine goI ?_ | (refine Cw.k_cond ?_; first | (refine Cw.cond_dec rfl ?_ ?_ <;> intro hc <;> try omega) | refine Cw.cond_bool rfl ?_ ?_ <;> intro hc) | (refine Ops.k_calla ?_; first | (refine Ops.k_callf 41 ?_; refine Ops.callV hkey (Evs.cons rfl Evs.nil) rfl ?_)) | fail)
    all_goals first | (exfalso; simp_all; done) | exact ⟨_, _, _, (Ent.mk goSub goTk), ⟨_, rfl, ⟨by omega, nxt (by simp [keyEO, hx, g1, hp])⟩, rfl, rfl⟩, by omega⟩
   ·rw [g2] at hp
    repeat' (first | refine goH ?_ | refine goV ?_ | refine goG ?_ | (refine Ops.k_guard ?_; first | (refine Ops.guard_dec rfl rfl ?_ ?_ <;> intro hc <;> try omega) | refine Ops.guard_split rfl rfl ?_ ?_ <;> intro hc) | refine goI ?_ | (refine Cw.k_cond ?_; first | (refine Cw.cond_dec rfl ?_ ?_ <;> intro hc <;> try omega) | refine Cw.cond_bool rfl ?_ ?_ <;> intro hc) | (refine Ops.k_calla ?_; first | (refine Ops.k_callf 41 ?_; refine Ops.callV hkey (Evs.cons rfl Evs.nil) rfl ?_)) | fail)
    all_goals first | (exfalso; simp_all; done) | exact Fin.ret (Ent.take goTk) (Outs.one rfl rfl) ⟨rfl, congrArg Tr.int (fin 7 (by simp [keyEO, hx, g1, hp]) (by decide)).symm⟩
 ·repeat' (first | refine goH ?_ | refine goV ?_ | refine goG ?_ | (refine Ops.k_guard ?_; first | (refine Ops.guard_dec rfl rfl ?_ ?_ <;> intro hc <;> try omega) | refine Ops.guard_split rfl rfl ?_ ?_ <;> intro hc) | refine goI ?_ | (refine Cw.k_cond ?_; first | (refine Cw.cond_dec rfl ?_ ?_ <;> intro hc <;> try omega) | refine Cw.cond_bool rfl ?_ ?_ <;> intro hc) | fail)
  refine Fin.ret (Ent.take goTk) (Outs.one rfl rfl) ⟨rfl, congrArg Tr.int ?_⟩
  rw [hV, firstE_end hkl]
theorem keysFault_fn (l : List ByteArray) (hl : l.length ≤ 1000000) : PFn Tryz.prog 124 [.strs l] (· = .int (keysE l)) := by
 by_cases h : l.length > 10
 ·refine PFn.mk (Spec.body Tryz.func124 rfl rfl (Tryz.ntmps124) rfl fun w0 own0 M => ?_)
  have hL := strRows_len l
  repeat' (first | refine goH ?_ | refine goV ?_ | refine goG ?_ | (refine Ops.k_guard ?_; first | (refine Ops.guard_dec rfl rfl ?_ ?_ <;> intro hc <;> try omega) | refine Ops.guard_split rfl rfl ?_ ?_ <;> intro hc) | refine goI ?_ | (refine Cw.k_cond ?_; first | (refine Cw.cond_dec rfl ?_ ?_ <;> intro hc <;> try omega) | refine Cw.cond_bool rfl ?_ ?_ <;> intro hc) | fail)
  refine Fin.ret (Ent.take goTk) (Outs.one rfl rfl) ⟨rfl, congrArg Tr.int ?_⟩
  unfold keysE
  rw [if_pos h]
 ·unfold keysE
  rw [if_neg h]
  exact keysLoop l hl (fun _ => by omega)
end Lg
end
