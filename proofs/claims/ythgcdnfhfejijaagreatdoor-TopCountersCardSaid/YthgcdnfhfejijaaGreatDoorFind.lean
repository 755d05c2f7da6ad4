/- A part of the proof of a law of this seat: it adds no condition. By an AI agent. -/
import Derived.Test.YthgcdnfhfejijaaGreatDoorTc4
section
set_option linter.all false
namespace Lg
open Go Go.Proofs

theorem intRows_take (o : List Int) (k : Nat) : (intRows o).take k = intRows (o.take k) := by unfold intRows; rw [List.map_take]
end Lg
end
section
set_option linter.all false
set_option maxRecDepth 100000
set_option maxHeartbeats 4000000
namespace Lg
open Go Go.Proofs

structure Offer where
 key : ByteArray
 group : ByteArray
 pr : List Int
 has : List ByteArray
 hates : List ByteArray
def Offer.row (x : Offer) : List Tr := [.str x.key, .str x.group, .ints x.pr, .strs x.has, .strs x.hates]
abbrev Tr.offers (l : List Offer) : Tr := Tr.sl 5 (l.map Offer.row)
def keyE (l : List ByteArray) (k : Nat) : Int := match l[k]? with
 |none => 0
 |some x => if isKey x = false then 5 else if prevB (fun x y => strLe x y) l k x then 7 else 0
def riseE (l : List ByteArray) : Int := firstE (keyE l) 0 l.length
def keysE (l : List ByteArray) : Int := if l.length > 10 then 2 else riseE l
def prBad (n : Int) : Bool := decide (n < -1000000 ∨ 1000000 < n)
def prE (l : List Int) : Int := if l.length = 0 then 8 else if l.length > 10 then 2 else if l.any prBad then 1 else 0
def offerE (l : List Offer) (k : Nat) : Int := match l[k]? with
 |none => 0
 |some x => if isKey x.key = false then 5 else if prevB (fun x y => strLe x.key y.key) l k x then 7 else if isKey x.group = false then 5 else if prE x.pr ≠ 0 then prE x.pr else if keysE x.has ≠ 0 then keysE x.has else keysE x.hates
def offersE (l : List Offer) : Int := if l.length > 30 then 2 else firstE (offerE l) 0 l.length

/-! ### sorted lists of keys -/
theorem keysLoop (l : List ByteArray) (hl : l.length ≤ 1000000) (h10 : 10 = 10 → l.length ≤ 10) : PFn Tryz.prog 106 [.strs l] (· = .int (riseE l)) := by
 refine PFn.mk (Spec.body Tryz.func106 rfl rfl (Tryz.ntmps106) rfl fun w0 own0 M => ?_)
 have hL := strRows_len l
 have hV0 : riseE l = firstE (keyE l) 0 (l.length - 0) := rfl
 try have h11 := h10 rfl
 repeat' (first | refine goH ?_ | refine goV ?_ | refine goG ?_ | (refine Ops.k_guard ?_; first | (refine Ops.guard_dec rfl rfl ?_ ?_ <;> intro hc <;> try omega) | refine Ops.guard_split rfl rfl ?_ ?_ <;> intro hc) | refine goI ?_ | (refine Cw.k_cond ?_; first | (refine Cw.cond_dec rfl ?_ ?_ <;> intro hc <;> try omega) | refine Cw.cond_bool rfl ?_ ?_ <;> intro hc) | fail)
 refine Cw.loopI [(0, _), (8, _), (9, _)] _ (fun n e c => ∃ k : Nat, n = l.length - k ∧ (k ≤ l.length ∧ riseE l = firstE (keyE l) k (l.length - k)) ∧ e = [(10, .int k)] ∧ c = []) ⟨_, _, _, (Ent.mkP goSub goPm), 0, rfl, ⟨by omega, hV0⟩, rfl, rfl⟩ ?_
 rintro _ _ _ ⟨k, rfl, ⟨hk, hV⟩, rfl, rfl⟩
 by_cases hkl : k < l.length
 ·obtain ⟨x, hx⟩ := at_lt hkl
  have hrow := strRows_at hx
  have hkey := key_fn x
  have fin : ∀ c, keyE l k = c → c ≠ 0 → riseE l = c := fun c h1 h2 => hV.trans (firstE_bad hkl h1 h2)
  have nxt : keyE l k = 0 → riseE l = firstE (keyE l) (k + 1) (l.length - (k + 1)) := fun h1 => hV.trans (firstE_ok hkl h1)
  by_cases g1 : isKey x = false
  ·rw [g1] at hkey
   repeat' (first | refine goH ?_ | refine goV ?_ | refine goG ?_ | (refine Ops.k_guard ?_; first | (refine Ops.guard_dec rfl rfl ?_ ?_ <;> intro hc <;> try omega) | refine Ops.guard_split rfl rfl ?_ ?_ <;> intro hc) | refine goI ?_ | (refine Cw.k_cond ?_; first | (refine Cw.cond_dec rfl ?_ ?_ <;> intro hc <;> try omega) | refine Cw.cond_bool rfl ?_ ?_ <;> intro hc) | (refine Ops.k_calla ?_; first | (refine Ops.k_callf 49 ?_; refine Ops.callV hkey (Evs.cons rfl Evs.nil) rfl ?_)) | fail)
   exact Fin.ret (Ent.take goTk) (Outs.one rfl rfl) ⟨rfl, congrArg Tr.int (fin 5 (by simp [keyE, hx, g1]) (by decide)).symm⟩
  replace g1 : isKey x = true := by simpa using g1
  rw [g1] at hkey
  cases k with
  |zero =>
   repeat' (first | refine goH ?_ | refine goV ?_ | refine goG ?_ | (refine Ops.k_guard ?_; first | (refine Ops.guard_dec rfl rfl ?_ ?_ <;> intro hc <;> try omega) | refine Ops.guard_split rfl rfl ?_ ?_ <;> intro hc) | refine goI ?_ | (refine Cw.k_cond ?_; first | (refine Cw.cond_dec rfl ?_ ?_ <;> intro hc <;> try omega) | refine Cw.cond_bool rfl ?_ ?_ <;> intro hc) | (refine Ops.k_calla ?_; first | (refine Ops.k_callf 49 ?_; refine Ops.callV hkey (Evs.cons rfl Evs.nil) rfl ?_)) | fail)
   exact ⟨_, _, _, (Ent.mk goSub goTk), ⟨_, rfl, ⟨by omega, nxt (by simp [keyE, hx, prevB, g1])⟩, rfl, rfl⟩, by omega⟩
  |succ j =>
   obtain ⟨y, hy⟩ := at_lt (l := l) (k := j) (by omega)
   have hrow2 : (strRows l)[(((j + 1 : Nat) : Int) - 1).toNat]? = some [.str y] := by rw [show (((j + 1 : Nat) : Int) - 1).toNat = j by omega]; exact strRows_at hy
   have hp : prevB (fun x y => strLe x y) l (j + 1) x = (strLt x y || decide (x = y)) := by simp [prevB, hy, strLe]
   cases g2 : (strLt x y || decide (x = y))
   ·rw [g2] at hp
    repeat' (first | refine goH ?_ | refine goV ?_ | refine goG ?_ | (refine Ops.k_guard ?_; first | (refine Ops.guard_dec rfl rfl ?_ ?_ <;> intro hc <;> try omega) | refine Ops.guard_split rfl rfl ?_ ?_ <;> intro hc) | refine goI ?_ | (refine Cw.k_cond ?_; first | (refine Cw.cond_dec rfl ?_ ?_ <;> intro hc <;> try omega) | refine Cw.cond_bool rfl ?_ ?_ <;> intro hc) | (refine Ops.k_calla ?_; first | (refine Ops.k_callf 49 ?_; refine Ops.callV hkey (Evs.cons rfl Evs.nil) rfl ?_)) | fail)
    all_goals first | (exfalso; simp_all; done) | exact ⟨_, _, _, (Ent.mk goSub goTk), ⟨_, rfl, ⟨by omega, nxt (by simp [keyE, hx, g1, hp])⟩, rfl, rfl⟩, by omega⟩
   ·rw [g2] at hp
    repeat' (first | refine goH ?_ | refine goV ?_ | refine goG ?_ | (refine Ops.k_guard ?_; first | (refine Ops.guard_dec rfl rfl ?_ ?_ <;> intro hc <;> try omega) | refine Ops.guard_split rfl rfl ?_ ?_ <;> intro hc) | refine goI ?_ | (refine Cw.k_cond ?_; first | (refine Cw.cond_dec rfl ?_ ?_ <;> intro hc <;> try omega) | refine Cw.cond_bool rfl ?_ ?_ <;> intro hc) | (refine Ops.k_calla ?_; first | (refine Ops.k_callf 49 ?_; refine Ops.callV hkey (Evs.cons rfl Evs.nil) rfl ?_)) | fail)
    all_goals first | (exfalso; simp_all; done) | exact Fin.ret (Ent.take goTk) (Outs.one rfl rfl) ⟨rfl, congrArg Tr.int (fin 7 (by simp [keyE, hx, g1, hp]) (by decide)).symm⟩
 ·repeat' (first | refine goH ?_ | refine goV ?_ | refine goG ?_ | (refine Ops.k_guard ?_; first | (refine Ops.guard_dec rfl rfl ?_ ?_ <;> intro hc <;> try omega) | refine Ops.guard_split rfl rfl ?_ ?_ <;> intro hc) | refine goI ?_ | (refine Cw.k_cond ?_; first | (refine Cw.cond_dec rfl ?_ ?_ <;> intro hc <;> try omega) | refine Cw.cond_bool rfl ?_ ?_ <;> intro hc) | fail)
  refine Fin.ret (Ent.take goTk) (Outs.one rfl rfl) ⟨rfl, congrArg Tr.int ?_⟩
  rw [hV, firstE_end hkl]
theorem keysFault_fn (l : List ByteArray) (hl : l.length ≤ 1000000) : PFn Tryz.prog 106 [.strs l] (· = .int (keysE l)) := by
 by_cases h : l.length > 10
 ·refine PFn.mk (Spec.body Tryz.func106 rfl rfl (Tryz.ntmps106) rfl fun w0 own0 M => ?_)
  have hL := strRows_len l
  repeat' (first | refine goH ?_ | refine goV ?_ | refine goG ?_ | (refine Ops.k_guard ?_; first | (refine Ops.guard_dec rfl rfl ?_ ?_ <;> intro hc <;> try omega) | refine Ops.guard_split rfl rfl ?_ ?_ <;> intro hc) | refine goI ?_ | (refine Cw.k_cond ?_; first | (refine Cw.cond_dec rfl ?_ ?_ <;> intro hc <;> try omega) | refine Cw.cond_bool rfl ?_ ?_ <;> intro hc) | fail)
  refine Fin.ret (Ent.take goTk) (Outs.one rfl rfl) ⟨rfl, congrArg Tr.int ?_⟩
  unfold keysE
  rw [if_pos h]
 ·unfold keysE
  rw [if_neg h]
  exact keysLoop l hl (fun _ => by omega)
end Lg
end
section
set_option linter.all false
set_option maxRecDepth 100000
set_option maxHeartbeats 4000000
namespace Lg
open Go Go.Proofs




end Lg
end
