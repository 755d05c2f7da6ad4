/- A part of the proof of a law of this seat: it adds no condition. By an AI agent. -/
import Derived.Test.YtcojnmobcfpeeaaDoorLgNest
import Derived.Test.YtcojnmobcfpeeaaDoorKey
section
set_option linter.all false
set_option maxRecDepth 100000
set_option maxHeartbeats 4000000
namespace Lg
open Go Go.Proofs
def strLe (a b : ByteArray) : Bool := strLt a b || decide (a = b)
def prevB {α : Type} (p : α → α → Bool) (l : List α) : Nat → α → Bool
 |0, _ => false
 |j + 1, x => match l[j]? with
  |none => false
  |some y => p x y
end Lg
end
section
set_option linter.all false
set_option maxRecDepth 100000
set_option maxHeartbeats 8000000
namespace Lg
open Go Go.Proofs

def idxN : List Int → Int → Nat
 |[], _ => 0
 |x :: l, v => if x = v then 0 else idxN l v + 1
theorem idxN_no {l : List Int} {k : Nat} {x v : Int} (h : l[k]? = some x) (hx : x ≠ v) : k + idxN (l.drop k) v = (k + 1) + idxN (l.drop (k + 1)) v := by
 rw [drop_at h, idxN, if_neg hx]
 omega
theorem idxN_yes {l : List Int} {k : Nat} {v : Int} (h : l[k]? = some v) : k + idxN (l.drop k) v = k := by
 rw [drop_at h, idxN, if_pos rfl]
 omega
theorem idxN_lt : ∀ {l : List Int} {v : Int}, v ∈ l → idxN l v < l.length
 |x :: l, v, h => by
  rw [idxN]
  by_cases hx : x = v
  ·rw [if_pos hx]; simp
  ·rw [if_neg hx]
   rcases List.mem_cons.1 h with e | h
   ·exact absurd e.symm hx
   ·have := idxN_lt h
    simp
    omega
attribute [local irreducible] intRows
theorem index_fn (l : List Int) (v : Int) (hv : v ∈ l) (hl : l.length ≤ 1000000) : PFn Tryd.prog 66 [.ints l, .int v] (· = .int (idxN l v)) := by
 have hL := intRows_len l
 have hlt := idxN_lt hv
 refine PFn.mk (Spec.body Tryd.func66 rfl rfl (Tryd.ntmps66) rfl fun w0 own0 M => ?_)
 repeat' (first | refine goH ?_ | refine goV ?_ | refine goB (fun b => ?_) | refine goC (fun ad cap => ?_) | refine goG ?_ | (refine Ops.k_guard ?_; first | (refine Ops.guard_dec rfl rfl ?_ ?_ <;> intro hc <;> try omega) | refine Ops.guard_split rfl rfl ?_ ?_ <;> intro hc) | refine goI ?_ | (refine Cw.k_cond ?_; first | (refine Cw.cond_dec rfl ?_ ?_ <;> intro hc <;> try omega) | refine Cw.cond_bool rfl ?_ ?_ <;> intro hc) | refine goR ?_ | refine goP ?_ | apply PSeq.cons | apply PSeq.yes rfl rfl rfl | exact goW | fail)
 refine Cw.loopI [(0, _), (1, _), (7, _)] _ (fun q e cc => ∃ (k : Nat), q = l.length - k ∧ (k ≤ l.length ∧ idxN l v = k + idxN (l.drop k) v) ∧ e = [(8, .int k)] ∧ cc = []) ⟨_, _, _, (Ent.mkP goSub goPm), 0, rfl, ⟨by omega, by rw [List.drop_zero]; omega⟩, rfl, rfl⟩ ?_
 rintro _ _ _ ⟨k, rfl, ⟨hk, hV⟩, rfl, rfl⟩
 by_cases hkl : k < l.length
 ·obtain ⟨y, hy⟩ := at_lt hkl
  have r1 := intRows_at hy
  by_cases hyv : v = y
  ·subst hyv
   have hV2 := hV.trans (idxN_yes hy)
   rw [hV2]
   clear hV hy hV2
   repeat' (first | refine goH ?_ | refine goV ?_ | refine goB (fun b => ?_) | refine goC (fun ad cap => ?_) | refine goG ?_ | (refine Ops.k_guard ?_; first | (refine Ops.guard_dec rfl rfl ?_ ?_ <;> intro hc <;> try omega) | refine Ops.guard_split rfl rfl ?_ ?_ <;> intro hc) | refine goI ?_ | (refine Cw.k_cond ?_; first | (refine Cw.cond_dec rfl ?_ ?_ <;> intro hc <;> try omega) | refine Cw.cond_bool rfl ?_ ?_ <;> intro hc) | refine goR ?_ | refine goP ?_ | apply PSeq.cons | apply PSeq.yes rfl rfl rfl | exact goW | fail)
   exact Fin.ret (Ent.take goTk) (Outs.one rfl rfl) ⟨rfl, rfl⟩
  ·have hV2 := hV.trans (idxN_no hy (fun e => hyv e.symm))
   clear hV hy
   repeat' (first | refine goH ?_ | refine goV ?_ | refine goB (fun b => ?_) | refine goC (fun ad cap => ?_) | refine goG ?_ | (refine Ops.k_guard ?_; first | (refine Ops.guard_dec rfl rfl ?_ ?_ <;> intro hc <;> try omega) | refine Ops.guard_split rfl rfl ?_ ?_ <;> intro hc) | refine goI ?_ | (refine Cw.k_cond ?_; first | (refine Cw.cond_dec rfl ?_ ?_ <;> intro hc <;> try omega) | refine Cw.cond_bool rfl ?_ ?_ <;> intro hc) | refine goR ?_ | refine goP ?_ | apply PSeq.cons | apply PSeq.yes rfl rfl rfl | exact goW | fail)
   exact ⟨_, _, _, (Ent.mk goSub goTk), ⟨k + 1, rfl, ⟨by omega, hV2⟩, rfl, rfl⟩, by omega⟩
 ·exfalso
  omega
theorem indexN_fn (l : List Int) (v : Int) (hv : v ∉ l) (hl : l.length ≤ 1000000) : PFn Tryd.prog 66 [.ints l, .int v] (· = .int (-1)) := by
 have hL := intRows_len l
 refine PFn.mk (Spec.body Tryd.func66 rfl rfl (Tryd.ntmps66) rfl fun w0 own0 M => ?_)
 repeat' (first | refine goH ?_ | refine goV ?_ | refine goB (fun b => ?_) | refine goC (fun ad cap => ?_) | refine goG ?_ | (refine Ops.k_guard ?_; first | (refine Ops.guard_dec rfl rfl ?_ ?_ <;> intro hc <;> try omega) | refine Ops.guard_split rfl rfl ?_ ?_ <;> intro hc) | refine goI ?_ | (refine Cw.k_cond ?_; first | (refine Cw.cond_dec rfl ?_ ?_ <;> intro hc <;> try omega) | refine Cw.cond_bool rfl ?_ ?_ <;> intro hc) | refine goR ?_ | refine goP ?_ | apply PSeq.cons | apply PSeq.yes rfl rfl rfl | exact goW | fail)
 refine Cw.loopI [(0, _), (1, _), (7, _)] _ (fun q e cc => ∃ (k : Nat), q = l.length - k ∧ k ≤ l.length ∧ e = [(8, .int k)] ∧ cc = []) ⟨_, _, _, (Ent.mkP goSub goPm), 0, rfl, by omega, rfl, rfl⟩ ?_
 rintro _ _ _ ⟨k, rfl, hk, rfl, rfl⟩
 by_cases hkl : k < l.length
 ·obtain ⟨y, hy⟩ := at_lt hkl
  have r1 := intRows_at hy
  have hyv : v ≠ y := fun e => hv (by rw [e]; exact List.mem_of_getElem? hy)
  clear hy
  repeat' (first | refine goH ?_ | refine goV ?_ | refine goB (fun b => ?_) | refine goC (fun ad cap => ?_) | refine goG ?_ | (refine Ops.k_guard ?_; first | (refine Ops.guard_dec rfl rfl ?_ ?_ <;> intro hc <;> try omega) | refine Ops.guard_split rfl rfl ?_ ?_ <;> intro hc) | refine goI ?_ | (refine Cw.k_cond ?_; first | (refine Cw.cond_dec rfl ?_ ?_ <;> intro hc <;> try omega) | refine Cw.cond_bool rfl ?_ ?_ <;> intro hc) | refine goR ?_ | refine goP ?_ | apply PSeq.cons | apply PSeq.yes rfl rfl rfl | exact goW | fail)
  exact ⟨_, _, _, (Ent.mk goSub goTk), ⟨k + 1, rfl, by omega, rfl, rfl⟩, by omega⟩
 ·repeat' (first | refine goH ?_ | refine goV ?_ | refine goB (fun b => ?_) | refine goC (fun ad cap => ?_) | refine goG ?_ | (refine Ops.k_guard ?_; first | (refine Ops.guard_dec rfl rfl ?_ ?_ <;> intro hc <;> try omega) | refine Ops.guard_split rfl rfl ?_ ?_ <;> intro hc) | refine goI ?_ | (refine Cw.k_cond ?_; first | (refine Cw.cond_dec rfl ?_ ?_ <;> intro hc <;> try omega) | refine Cw.cond_bool rfl ?_ ?_ <;> intro hc) | refine goR ?_ | refine goP ?_ | apply PSeq.cons | apply PSeq.yes rfl rfl rfl | exact goW | fail)
  exact Fin.ret (Ent.take goTk) (Outs.one rfl rfl) ⟨rfl, rfl⟩
theorem contains_fn (l : List Int) (v : Int) (hl : l.length ≤ 1000000) : PFn Tryd.prog 39 [.ints l, .int v] (· = .bool (decide (v ∈ l))) := by
 by_cases hv : v ∈ l
 ·rw [decide_eq_true hv]
  have k1 := index_fn l v hv hl
  generalize idxN l v = i at *
  refine PFn.mk (Spec.body Tryd.func39 rfl rfl (Tryd.ntmps39) rfl fun w0 own0 M => ?_)
  repeat' (first | refine goH ?_ | refine goV ?_ | refine goB (fun b => ?_) | refine goC (fun ad cap => ?_) | refine goG ?_ | (refine Ops.k_guard ?_; first | (refine Ops.guard_dec rfl rfl ?_ ?_ <;> intro hc <;> try omega) | refine Ops.guard_split rfl rfl ?_ ?_ <;> intro hc) | refine goI ?_ | (refine Cw.k_cond ?_; first | (refine Cw.cond_dec rfl ?_ ?_ <;> intro hc <;> try omega) | refine Cw.cond_bool rfl ?_ ?_ <;> intro hc) | (refine Ops.k_calla ?_; first | (refine Ops.k_callf 66 ?_; refine Ops.callV k1 (Evs.cons rfl (Evs.cons rfl Evs.nil)) rfl ?_)) | (apply OpW.k_call; first | (apply OpW.k_callf 66; exact OpW.callV k1 (Evs.cons rfl (Evs.cons rfl Evs.nil)))) | refine goR ?_ | refine goP ?_ | apply PSeq.cons | apply PSeq.yes rfl rfl rfl | exact goW | fail)
  exact Fin.ret (Ent.take goTk) (Outs.one rfl rfl) ⟨rfl, congrArg Tr.bool (decide_eq_true (by omega))⟩
 ·rw [decide_eq_false hv]
  have k1 := indexN_fn l v hv hl
  refine PFn.mk (Spec.body Tryd.func39 rfl rfl (Tryd.ntmps39) rfl fun w0 own0 M => ?_)
  repeat' (first | refine goH ?_ | refine goV ?_ | refine goB (fun b => ?_) | refine goC (fun ad cap => ?_) | refine goG ?_ | (refine Ops.k_guard ?_; first | (refine Ops.guard_dec rfl rfl ?_ ?_ <;> intro hc <;> try omega) | refine Ops.guard_split rfl rfl ?_ ?_ <;> intro hc) | refine goI ?_ | (refine Cw.k_cond ?_; first | (refine Cw.cond_dec rfl ?_ ?_ <;> intro hc <;> try omega) | refine Cw.cond_bool rfl ?_ ?_ <;> intro hc) | (refine Ops.k_calla ?_; first | (refine Ops.k_callf 66 ?_; refine Ops.callV k1 (Evs.cons rfl (Evs.cons rfl Evs.nil)) rfl ?_)) | (apply OpW.k_call; first | (apply OpW.k_callf 66; exact OpW.callV k1 (Evs.cons rfl (Evs.cons rfl Evs.nil)))) | refine goR ?_ | refine goP ?_ | apply PSeq.cons | apply PSeq.yes rfl rfl rfl | exact goW | fail)
  exact Fin.ret (Ent.take goTk) (Outs.one rfl rfl) ⟨rfl, congrArg Tr.bool (decide_eq_false (by omega))⟩
end Lg
end
section
set_option linter.all false
set_option maxRecDepth 100000
set_option maxHeartbeats 8000000
namespace Lg
open Go Go.Proofs

/-! ### configurations of machines -/
structure SlotM where
 key : ByteArray
 prod : ByteArray
 price : Int
 most : Int
 cnt : Int
def SlotM.row (x : SlotM) : List Tr := [.str x.key, .str x.prod, .int x.price, .int x.most, .int x.cnt]
abbrev Tr.slots (l : List SlotM) : Tr := Tr.sl 5 (l.map SlotM.row)
abbrev Tr.cfg (T : List Tube) (K : List Int) (S : List SlotM) (H : Int) : Tr := .agg [.tubes T, .ints K, .slots S, .int H]
def tkE (K : List Int) (k : Nat) : Int := match K[k]? with
 |none => 0
 |some n => if n < 1 ∨ 20000 < n then 1 else if prevB (fun x y => decide (x ≤ y)) K k n then 7 else 0
def sltErr (x : SlotM) : Int := if isKey x.prod = false then 5 else if x.price < 1 ∨ 20000 < x.price ∨ x.most < 0 ∨ 1000 < x.most ∨ x.cnt < 0 ∨ x.most < x.cnt then 1 else 0
def sltE (l : List SlotM) (k : Nat) : Int := match l[k]? with
 |none => 0
 |some x => if isKey x.key = false then 5 else if prevB (fun x y => strLe x.key y.key) l k x then 7 else sltErr x
def cfgE (T : List Tube) (K : List Int) (S : List SlotM) (H : Int) : Int :=
 if tubesErr T ≠ 0 then tubesErr T else if 20 < K.length then 2 else if firstE (tkE K) 0 K.length ≠ 0 then firstE (tkE K) 0 K.length
 else if T.any (fun d => !decide (d.val ∈ K)) = true ∨ S.length = 0 then 8 else if 60 < S.length then 2
 else if firstE (sltE S) 0 S.length ≠ 0 then firstE (sltE S) 0 S.length else if H < 1 ∨ 20000 < H then 1 else 0
/-- the parts of it, one by one -/
structure CfgP (T : List Tube) (K : List Int) (S : List SlotM) (H : Int) (e : Int) : Prop where
 p1 : ∀ c, tubesErr T = c → c ≠ 0 → e = c
 p2 : tubesErr T = 0 → 20 < K.length → e = 2
 p3 : tubesErr T = 0 → ¬ 20 < K.length → ∀ c, firstE (tkE K) 0 K.length = c → c ≠ 0 → e = c
 p4 : tubesErr T = 0 → ¬ 20 < K.length → firstE (tkE K) 0 K.length = 0 → (T.any (fun d => !decide (d.val ∈ K)) = true ∨ S.length = 0) → e = 8
 p5 : tubesErr T = 0 → ¬ 20 < K.length → firstE (tkE K) 0 K.length = 0 → ¬ (T.any (fun d => !decide (d.val ∈ K)) = true ∨ S.length = 0) → 60 < S.length → e = 2
 p6 : tubesErr T = 0 → ¬ 20 < K.length → firstE (tkE K) 0 K.length = 0 → ¬ (T.any (fun d => !decide (d.val ∈ K)) = true ∨ S.length = 0) → ¬ 60 < S.length → ∀ c, firstE (sltE S) 0 S.length = c → c ≠ 0 → e = c
 p7 : tubesErr T = 0 → ¬ 20 < K.length → firstE (tkE K) 0 K.length = 0 → ¬ (T.any (fun d => !decide (d.val ∈ K)) = true ∨ S.length = 0) → ¬ 60 < S.length → firstE (sltE S) 0 S.length = 0 → (H < 1 ∨ 20000 < H) → e = 1
 p8 : tubesErr T = 0 → ¬ 20 < K.length → firstE (tkE K) 0 K.length = 0 → ¬ (T.any (fun d => !decide (d.val ∈ K)) = true ∨ S.length = 0) → ¬ 60 < S.length → firstE (sltE S) 0 S.length = 0 → ¬ (H < 1 ∨ 20000 < H) → e = 0
theorem cfgP (T : List Tube) (K : List Int) (S : List SlotM) (H : Int) : CfgP T K S H (cfgE T K S H) where
 p1 := fun c h1 h2 => by unfold cfgE; rw [if_pos (by rw [h1]; exact h2), h1]
 p2 := fun h1 h2 => by unfold cfgE; rw [if_neg (by simp [h1]), if_pos h2]
 p3 := fun h1 h2 c h3 h4 => by unfold cfgE; rw [if_neg (by simp [h1]), if_neg h2, if_pos (by rw [h3]; exact h4), h3]
 p4 := fun h1 h2 h3 h4 => by unfold cfgE; rw [if_neg (by simp [h1]), if_neg h2, if_neg (by simp [h3]), if_pos h4]
 p5 := fun h1 h2 h3 h4 h5 => by unfold cfgE; rw [if_neg (by simp [h1]), if_neg h2, if_neg (by simp [h3]), if_neg h4, if_pos h5]
 p6 := fun h1 h2 h3 h4 h5 c h6 h7 => by unfold cfgE; rw [if_neg (by simp [h1]), if_neg h2, if_neg (by simp [h3]), if_neg h4, if_neg h5, if_pos (by rw [h6]; exact h7), h6]
 p7 := fun h1 h2 h3 h4 h5 h6 h7 => by unfold cfgE; rw [if_neg (by simp [h1]), if_neg h2, if_neg (by simp [h3]), if_neg h4, if_neg h5, if_neg (by simp [h6]), if_pos h7]
 p8 := fun h1 h2 h3 h4 h5 h6 h7 => by unfold cfgE; rw [if_neg (by simp [h1]), if_neg h2, if_neg (by simp [h3]), if_neg h4, if_neg h5, if_neg (by simp [h6]), if_neg h7]
structure COk (T : List Tube) (K : List Int) (S : List SlotM) (H : Int) : Prop where
 t : TbOk T
 k : K.length ≤ 20 ∧ ∀ x ∈ K, 1 ≤ x ∧ x ≤ 20000
 s : S.length ≤ 60 ∧ ∀ x ∈ S, 1 ≤ x.price ∧ x.price ≤ 20000 ∧ 0 ≤ x.cnt ∧ x.cnt ≤ x.most ∧ x.most ≤ 1000
 h : 1 ≤ H ∧ H ≤ 20000
theorem tkE_ok {K : List Int} (h : firstE (tkE K) 0 K.length = 0) : ∀ x ∈ K, 1 ≤ x ∧ x ≤ 20000 := by
 intro x hx
 obtain ⟨j, hj⟩ := List.getElem?_of_mem hx
 have h1 := firstE_zero h j (by omega) (by have := (List.getElem?_eq_some_iff.1 hj).1; omega)
 unfold tkE at h1
 rw [hj] at h1
 simp only at h1
 split at h1
 ·omega
 ·omega
theorem sltE_ok {S : List SlotM} (h : firstE (sltE S) 0 S.length = 0) : ∀ x ∈ S, 1 ≤ x.price ∧ x.price ≤ 20000 ∧ 0 ≤ x.cnt ∧ x.cnt ≤ x.most ∧ x.most ≤ 1000 := by
 intro x hx
 obtain ⟨j, hj⟩ := List.getElem?_of_mem hx
 have h1 := firstE_zero h j (by omega) (by have := (List.getElem?_eq_some_iff.1 hj).1; omega)
 unfold sltE sltErr at h1
 rw [hj] at h1
 simp only at h1
 (repeat' split at h1) <;> first | (exact absurd h1 (by decide)) | skip
 omega
theorem cfg_ok {T : List Tube} {K : List Int} {S : List SlotM} {H : Int} (h : cfgE T K S H = 0) : COk T K S H := by
 unfold cfgE at h
 split at h
 ·rename_i h1; exact absurd h h1
 rename_i h1
 split at h
 ·exact absurd h (by decide)
 rename_i h2
 split at h
 ·rename_i h3; exact absurd h h3
 rename_i h3
 split at h
 ·exact absurd h (by decide)
 split at h
 ·exact absurd h (by decide)
 rename_i h5
 split at h
 ·rename_i h6; exact absurd h h6
 rename_i h6
 split at h
 ·exact absurd h (by decide)
 rename_i h7
 exact ⟨tubesErr_ok (Classical.not_not.1 h1), ⟨by omega, tkE_ok (Classical.not_not.1 h3)⟩, ⟨by omega, sltE_ok (Classical.not_not.1 h6)⟩, by omega⟩
end Lg
end
