/- A part of the proof of a law of this seat: it adds no condition. By an AI agent. -/
import Derived.Test.YthgcdnfhfejijaaGreatDoorLst
section
set_option linter.all false
set_option maxRecDepth 100000
set_option maxHeartbeats 4000000
namespace Lg
open Go Go.Proofs

def smallB (b : Int) : Bool := decide (97 ≤ b ∧ b ≤ 122)
def keyB (b : Int) : Bool := decide ((97 ≤ b ∧ b ≤ 122) ∨ (48 ≤ b ∧ b ≤ 57) ∨ b = 45 ∨ b = 95)
/-- what a key is -/
def isKey (s : ByteArray) : Bool := decide (1 ≤ s.size ∧ s.size ≤ 40 ∧ smallB (sby s 0) = true ∧ ∀ j, j < s.size → keyB (sby s j) = true)

theorem str_empty (s : ByteArray) : s = ⟨#[]⟩ ↔ s.size = 0 := by
 constructor
 ·rintro rfl; rfl
 ·intro h
  apply ByteArray.ext
  apply Array.eq_empty_of_size_eq_zero
  simpa using h

theorem sby_range (s : ByteArray) (j : Nat) : 0 ≤ sby s j ∧ sby s j ≤ 255 := by
 unfold sby
 have := (s.data.toList.getD j 0).toNat_lt
 omega

theorem key_fn (s : ByteArray) : PFn Tryz.prog 49 [.str s] (· = .bool (isKey s)) := by
 refine PFn.mk (Spec.body Tryz.func49 rfl rfl (Tryz.ntmps49) rfl fun w0 own0 M => ?_)
 have hb := sby_range s 0
 by_cases h0 : s = ⟨#[]⟩
 ·have h1 := (str_empty s).1 h0
  repeat' (first | refine goH ?_ | refine goV ?_ | refine goG ?_ | (refine Ops.k_guard ?_; first | (refine Ops.guard_dec rfl rfl ?_ ?_ <;> intro hc <;> try omega) | refine Ops.guard_split rfl rfl ?_ ?_ <;> intro hc) | refine goI ?_ | (refine Cw.k_cond ?_; first | (refine Cw.cond_dec rfl ?_ ?_ <;> intro hc <;> try omega) | refine Cw.cond_bool rfl ?_ ?_ <;> intro hc) | fail)
  refine Fin.ret Ent.refl (Outs.one rfl rfl) ⟨rfl, congrArg Tr.bool ?_⟩
  unfold isKey
  exact (decide_eq_false (by omega)).symm
 have h1 : s.size ≠ 0 := fun h => h0 ((str_empty s).2 h)
 by_cases h2 : (s.size : Int) > 40
 ·repeat' (first | refine goH ?_ | refine goV ?_ | refine goG ?_ | (refine Ops.k_guard ?_; first | (refine Ops.guard_dec rfl rfl ?_ ?_ <;> intro hc <;> try omega) | refine Ops.guard_split rfl rfl ?_ ?_ <;> intro hc) | refine goI ?_ | (refine Cw.k_cond ?_; first | (refine Cw.cond_dec rfl ?_ ?_ <;> intro hc <;> try omega) | refine Cw.cond_bool rfl ?_ ?_ <;> intro hc) | fail)
  refine Fin.ret Ent.refl (Outs.one rfl rfl) ⟨rfl, congrArg Tr.bool ?_⟩
  unfold isKey
  exact (decide_eq_false (by omega)).symm
 by_cases h3 : smallB (sby s 0) = true
 rotate_left
 ·have h3' : sby s 0 < 97 ∨ sby s 0 > 122 := by simp [smallB] at h3; omega
  repeat' (first | refine goH ?_ | refine goV ?_ | refine goG ?_ | (refine Ops.k_guard ?_; first | (refine Ops.guard_dec rfl rfl ?_ ?_ <;> intro hc <;> try omega) | refine Ops.guard_split rfl rfl ?_ ?_ <;> intro hc) | refine goI ?_ | (refine Cw.k_cond ?_; first | (refine Cw.cond_dec rfl ?_ ?_ <;> intro hc <;> try omega) | refine Cw.cond_bool rfl ?_ ?_ <;> intro hc) | fail)
  all_goals
   refine Fin.ret Ent.refl (Outs.one rfl rfl) ⟨rfl, congrArg Tr.bool ?_⟩
   unfold isKey
   exact (decide_eq_false (fun h => h3 h.2.2.1)).symm
 have h3' : 97 ≤ sby s 0 ∧ sby s 0 ≤ 122 := by simpa [smallB] using h3
 repeat' (first | refine goH ?_ | refine goV ?_ | refine goG ?_ | (refine Ops.k_guard ?_; first | (refine Ops.guard_dec rfl rfl ?_ ?_ <;> intro hc <;> try omega) | refine Ops.guard_split rfl rfl ?_ ?_ <;> intro hc) | refine goI ?_ | (refine Cw.k_cond ?_; first | (refine Cw.cond_dec rfl ?_ ?_ <;> intro hc <;> try omega) | refine Cw.cond_bool rfl ?_ ?_ <;> intro hc) | fail)
 refine Cw.loop (ι := Nat) (fun k => k ≤ s.size ∧ ∀ j, j < k → keyB (sby s j) = true) (fun k => [(0, .str s), (23, .int s.size), (24, .int k)]) (fun _ => []) (fun k => s.size - k) ⟨0, ⟨by omega, fun _ h => by omega⟩, (Ent.mk goSub goTk)⟩ ?_
 rintro k ⟨hk, hall⟩
 by_cases hkl : k < s.size
 ·have hbk := sby_range s k
  by_cases hkey : keyB (sby s k) = true
  ·have hkey' : (97 ≤ sby s k ∧ sby s k ≤ 122) ∨ (48 ≤ sby s k ∧ sby s k ≤ 57) ∨ sby s k = 45 ∨ sby s k = 95 := by simpa [keyB] using hkey
   repeat' (first | refine goH ?_ | refine goV ?_ | refine goG ?_ | (refine Ops.k_guard ?_; first | (refine Ops.guard_dec rfl rfl ?_ ?_ <;> intro hc <;> try omega) | refine Ops.guard_split rfl rfl ?_ ?_ <;> intro hc) | refine goI ?_ | (refine Cw.k_cond ?_; first | (refine Cw.cond_dec rfl ?_ ?_ <;> intro hc <;> try omega) | refine Cw.cond_bool rfl ?_ ?_ <;> intro hc) | fail)
   all_goals (refine ⟨k + 1, ⟨by omega, fun j hj => ?_⟩, by omega, (Ent.mk goSub goTk)⟩; rcases Nat.lt_succ_iff_lt_or_eq.1 hj with hj | rfl; exact hall j hj; exact hkey)
  ·have hkey' : ¬ ((97 ≤ sby s k ∧ sby s k ≤ 122) ∨ (48 ≤ sby s k ∧ sby s k ≤ 57) ∨ sby s k = 45 ∨ sby s k = 95) := by simpa [keyB] using hkey
   repeat' (first | refine goH ?_ | refine goV ?_ | refine goG ?_ | (refine Ops.k_guard ?_; first | (refine Ops.guard_dec rfl rfl ?_ ?_ <;> intro hc <;> try omega) | refine Ops.guard_split rfl rfl ?_ ?_ <;> intro hc) | refine goI ?_ | (refine Cw.k_cond ?_; first | (refine Cw.cond_dec rfl ?_ ?_ <;> intro hc <;> try omega) | refine Cw.cond_bool rfl ?_ ?_ <;> intro hc) | fail)
   all_goals (refine Fin.ret Ent.refl (Outs.one rfl rfl) ⟨rfl, congrArg Tr.bool ?_⟩; unfold isKey; exact (decide_eq_false (fun h => hkey (h.2.2.2 k hkl))).symm)
 ·repeat' (first | refine goH ?_ | refine goV ?_ | refine goG ?_ | (refine Ops.k_guard ?_; first | (refine Ops.guard_dec rfl rfl ?_ ?_ <;> intro hc <;> try omega) | refine Ops.guard_split rfl rfl ?_ ?_ <;> intro hc) | refine goI ?_ | (refine Cw.k_cond ?_; first | (refine Cw.cond_dec rfl ?_ ?_ <;> intro hc <;> try omega) | refine Cw.cond_bool rfl ?_ ?_ <;> intro hc) | fail)
  refine Fin.ret Ent.refl (Outs.one rfl rfl) ⟨rfl, congrArg Tr.bool ?_⟩
  unfold isKey
  exact (decide_eq_true ⟨by omega, by omega, h3, fun j hj => hall j (by omega)⟩).symm

/-! ### the reference's own -/
attribute [irreducible] isKey
end Lg
end
section
set_option linter.all false
set_option maxRecDepth 100000
set_option maxHeartbeats 4000000
namespace Lg
open Go Go.Proofs
def strLe (a b : ByteArray) : Bool := strLt a b || decide (a = b)
def prevB {α : Type} (p : α → α → Bool) (l : List α) : Nat → α → Bool
 |0, _ => false
 |j + 1, x => match l[j]? with
  |none => false
  |some y => p x y
end Lg
end
section
set_option linter.all false
set_option maxRecDepth 100000
set_option maxHeartbeats 8000000
namespace Lg
open Go Go.Proofs

def idxN : List Int → Int → Nat
 |[], _ => 0
 |x :: l, v => if x = v then 0 else idxN l v + 1
theorem idxN_no {l : List Int} {k : Nat} {x v : Int} (h : l[k]? = some x) (hx : x ≠ v) : k + idxN (l.drop k) v = (k + 1) + idxN (l.drop (k + 1)) v := by
 rw [drop_at h, idxN, if_neg hx]
 omega
theorem idxN_yes {l : List Int} {k : Nat} {v : Int} (h : l[k]? = some v) : k + idxN (l.drop k) v = k := by
 rw [drop_at h, idxN, if_pos rfl]
 omega
theorem idxN_lt : ∀ {l : List Int} {v : Int}, v ∈ l → idxN l v < l.length
 |x :: l, v, h => by
  rw [idxN]
  by_cases hx : x = v
  ·rw [if_pos hx]; simp
  ·rw [if_neg hx]
   rcases List.mem_cons.1 h with e | h
   ·exact absurd e.symm hx
   ·have := idxN_lt h
    simp
    omega
attribute [local irreducible] intRows
theorem index_fn (l : List Int) (v : Int) (hv : v ∈ l) (hl : l.length ≤ 1000000) : PFn Tryz.prog 50 [.ints l, .int v] (· = .int (idxN l v)) := by
 have hL := intRows_len l
 have hlt := idxN_lt hv
 refine PFn.mk (Spec.body Tryz.func50 rfl rfl (Tryz.ntmps50) rfl fun w0 own0 M => ?_)
 repeat' (first | refine goH ?_ | refine goV ?_ | refine goI ?_ | (refine Cw.k_cond ?_; first | (refine Cw.cond_dec rfl ?_ ?_ <;> intro hc <;> try omega) | refine Cw.cond_bool rfl ?_ ?_ <;> intro hc) | fail)
 refine Cw.loopI [(0, _), (1, _), (7, _)] _ (fun q e cc => ∃ (k : Nat), q = l.length - k ∧ (k ≤ l.length ∧ idxN l v = k + idxN (l.drop k) v) ∧ e = [(8, .int k)] ∧ cc = []) ⟨_, _, _, (Ent.mkP goSub goPm), 0, rfl, ⟨by omega, by rw [List.drop_zero]; omega⟩, rfl, rfl⟩ ?_
 rintro _ _ _ ⟨k, rfl, ⟨hk, hV⟩, rfl, rfl⟩
 by_cases hkl : k < l.length
 ·obtain ⟨y, hy⟩ := at_lt hkl
  have r1 := intRows_at hy
  by_cases hyv : v = y
  ·subst hyv
   have hV2 := hV.trans (idxN_yes hy)
   rw [hV2]
   clear hV hy hV2
   repeat' (first | refine goH ?_ | refine goV ?_ | refine goI ?_ | (refine Cw.k_cond ?_; first | (refine Cw.cond_dec rfl ?_ ?_ <;> intro hc <;> try omega) | refine Cw.cond_bool rfl ?_ ?_ <;> intro hc) | fail)
   exact Fin.ret (Ent.take goTk) (Outs.one rfl rfl) ⟨rfl, rfl⟩
  ·have hV2 := hV.trans (idxN_no hy (fun e => hyv e.symm))
   clear hV hy
   repeat' (first | refine goH ?_ | refine goV ?_ | refine goI ?_ | (refine Cw.k_cond ?_; first | (refine Cw.cond_dec rfl ?_ ?_ <;> intro hc <;> try omega) | refine Cw.cond_bool rfl ?_ ?_ <;> intro hc) | fail)
   exact ⟨_, _, _, (Ent.mk goSub goTk), ⟨k + 1, rfl, ⟨by omega, hV2⟩, rfl, rfl⟩, by omega⟩
 ·exfalso
  omega
theorem indexN_fn (l : List Int) (v : Int) (hv : v ∉ l) (hl : l.length ≤ 1000000) : PFn Tryz.prog 50 [.ints l, .int v] (· = .int (-1)) := by
 have hL := intRows_len l
 refine PFn.mk (Spec.body Tryz.func50 rfl rfl (Tryz.ntmps50) rfl fun w0 own0 M => ?_)
 repeat' (first | refine goH ?_ | refine goV ?_ | refine goI ?_ | (refine Cw.k_cond ?_; first | (refine Cw.cond_dec rfl ?_ ?_ <;> intro hc <;> try omega) | refine Cw.cond_bool rfl ?_ ?_ <;> intro hc) | fail)
 refine Cw.loopI [(0, _), (1, _), (7, _)] _ (fun q e cc => ∃ (k : Nat), q = l.length - k ∧ k ≤ l.length ∧ e = [(8, .int k)] ∧ cc = []) ⟨_, _, _, (Ent.mkP goSub goPm), 0, rfl, by omega, rfl, rfl⟩ ?_
 rintro _ _ _ ⟨k, rfl, hk, rfl, rfl⟩
 by_cases hkl : k < l.length
 ·obtain ⟨y, hy⟩ := at_lt hkl
  have r1 := intRows_at hy
  have hyv : v ≠ y := fun e => hv (by rw [e]; exact List.mem_of_getElem? hy)
  clear hy
  repeat' (first | refine goH ?_ | refine goV ?_ | refine goI ?_ | (refine Cw.k_cond ?_; first | (refine Cw.cond_dec rfl ?_ ?_ <;> intro hc <;> try omega) | refine Cw.cond_bool rfl ?_ ?_ <;> intro hc) | fail)
  exact ⟨_, _, _, (Ent.mk goSub goTk), ⟨k + 1, rfl, by omega, rfl, rfl⟩, by omega⟩
 ·repeat' (first | refine goH ?_ | refine goV ?_ | refine goI ?_ | (refine Cw.k_cond ?_; first | (refine Cw.cond_dec rfl ?_ ?_ <;> intro hc <;> try omega) | refine Cw.cond_bool rfl ?_ ?_ <;> intro hc) | fail)
  exact Fin.ret (Ent.take goTk) (Outs.one rfl rfl) ⟨rfl, rfl⟩
theorem contains_fn (l : List Int) (v : Int) (hl : l.length ≤ 1000000) : PFn Tryz.prog 24 [.ints l, .int v] (· = .bool (decide (v ∈ l))) := by
 by_cases hv : v ∈ l
 ·rw [decide_eq_true hv]
  have k1 := index_fn l v hv hl
  generalize idxN l v = i at *
  refine PFn.mk (Spec.body Tryz.func24 rfl rfl (Tryz.ntmps24) rfl fun w0 own0 M => ?_)
  repeat' (first | refine goH ?_ | refine goV ?_ | refine goI ?_ | (refine Cw.k_cond ?_; first | (refine Cw.cond_dec rfl ?_ ?_ <;> intro hc <;> try omega) | refine Cw.cond_bool rfl ?_ ?_ <;> intro hc) | (refine Ops.k_calla ?_; first | (refine Ops.k_callf 50 ?_; refine Ops.callV k1 (Evs.cons rfl (Evs.cons rfl Evs.nil)) rfl ?_)) | fail)
  exact Fin.ret (Ent.take goTk) (Outs.one rfl rfl) ⟨rfl, congrArg Tr.bool (decide_eq_true (by omega))⟩
 ·rw [decide_eq_false hv]
  have k1 := indexN_fn l v hv hl
  refine PFn.mk (Spec.body Tryz.func24 rfl rfl (Tryz.ntmps24) rfl fun w0 own0 M => ?_)
  repeat' (first | refine goH ?_ | refine goV ?_ | refine goI ?_ | (refine Cw.k_cond ?_; first | (refine Cw.cond_dec rfl ?_ ?_ <;> intro hc <;> try omega) | refine Cw.cond_bool rfl ?_ ?_ <;> intro hc) | (refine Ops.k_calla ?_; first | (refine Ops.k_callf 50 ?_; refine Ops.callV k1 (Evs.cons rfl (Evs.cons rfl Evs.nil)) rfl ?_)) | fail)
  exact Fin.ret (Ent.take goTk) (Outs.one rfl rfl) ⟨rfl, congrArg Tr.bool (decide_eq_false (by omega))⟩
end Lg
end
