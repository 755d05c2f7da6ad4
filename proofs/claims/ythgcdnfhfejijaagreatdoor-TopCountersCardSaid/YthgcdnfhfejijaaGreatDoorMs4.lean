/- A part of the proof of a law of this seat: it adds no condition. By an AI agent. -/
import Derived.Test.YthgcdnfhfejijaaGreatDoorVend2
import Derived.Test.YthgcdnfhfejijaaGreatDoorCont
section
set_option linter.all false
set_option maxRecDepth 100000
set_option maxHeartbeats 8000000
namespace Lg
open Go Go.Proofs

/-! ### configurations of machines -/
structure SlotM where
 key : ByteArray
 prod : ByteArray
 price : Int
 most : Int
 cnt : Int
def SlotM.row (x : SlotM) : List Tr := [.str x.key, .str x.prod, .int x.price, .int x.most, .int x.cnt]
abbrev Tr.slots (l : List SlotM) : Tr := Tr.sl 5 (l.map SlotM.row)
abbrev Tr.cfg (T : List Tube) (K : List Int) (S : List SlotM) (H : Int) : Tr := .agg [.tubes T, .ints K, .slots S, .int H]
def tkE (K : List Int) (k : Nat) : Int := match K[k]? with
 |none => 0
 |some n => if n < 1 ∨ 20000 < n then 1 else if prevB (fun x y => decide (x ≤ y)) K k n then 7 else 0
def sltErr (x : SlotM) : Int := if isKey x.prod = false then 5 else if x.price < 1 ∨ 20000 < x.price ∨ x.most < 0 ∨ 1000 < x.most ∨ x.cnt < 0 ∨ x.most < x.cnt then 1 else 0
def sltE (l : List SlotM) (k : Nat) : Int := match l[k]? with
 |none => 0
 |some x => if isKey x.key = false then 5 else if prevB (fun x y => strLe x.key y.key) l k x then 7 else sltErr x
def cfgE (T : List Tube) (K : List Int) (S : List SlotM) (H : Int) : Int :=
 if tubesErr T ≠ 0 then tubesErr T else if 20 < K.length then 2 else if firstE (tkE K) 0 K.length ≠ 0 then firstE (tkE K) 0 K.length
 else if T.any (fun d => !decide (d.val ∈ K)) = true ∨ S.length = 0 then 8 else if 60 < S.length then 2
 else if firstE (sltE S) 0 S.length ≠ 0 then firstE (sltE S) 0 S.length else if H < 1 ∨ 20000 < H then 1 else 0
/-- the parts of it, one by one -/
structure CfgP (T : List Tube) (K : List Int) (S : List SlotM) (H : Int) (e : Int) : Prop where
 p1 : ∀ c, tubesErr T = c → c ≠ 0 → e = c
 p2 : tubesErr T = 0 → 20 < K.length → e = 2
 p3 : tubesErr T = 0 → ¬ 20 < K.length → ∀ c, firstE (tkE K) 0 K.length = c → c ≠ 0 → e = c
 p4 : tubesErr T = 0 → ¬ 20 < K.length → firstE (tkE K) 0 K.length = 0 → (T.any (fun d => !decide (d.val ∈ K)) = true ∨ S.length = 0) → e = 8
 p5 : tubesErr T = 0 → ¬ 20 < K.length → firstE (tkE K) 0 K.length = 0 → ¬ (T.any (fun d => !decide (d.val ∈ K)) = true ∨ S.length = 0) → 60 < S.length → e = 2
 p6 : tubesErr T = 0 → ¬ 20 < K.length → firstE (tkE K) 0 K.length = 0 → ¬ (T.any (fun d => !decide (d.val ∈ K)) = true ∨ S.length = 0) → ¬ 60 < S.length → ∀ c, firstE (sltE S) 0 S.length = c → c ≠ 0 → e = c
 p7 : tubesErr T = 0 → ¬ 20 < K.length → firstE (tkE K) 0 K.length = 0 → ¬ (T.any (fun d => !decide (d.val ∈ K)) = true ∨ S.length = 0) → ¬ 60 < S.length → firstE (sltE S) 0 S.length = 0 → (H < 1 ∨ 20000 < H) → e = 1
 p8 : tubesErr T = 0 → ¬ 20 < K.length → firstE (tkE K) 0 K.length = 0 → ¬ (T.any (fun d => !decide (d.val ∈ K)) = true ∨ S.length = 0) → ¬ 60 < S.length → firstE (sltE S) 0 S.length = 0 → ¬ (H < 1 ∨ 20000 < H) → e = 0
theorem cfgP (T : List Tube) (K : List Int) (S : List SlotM) (H : Int) : CfgP T K S H (cfgE T K S H) where
 p1 := fun c h1 h2 => by unfold cfgE; rw [if_pos (by rw [h1]; exact h2), h1]
 p2 := fun h1 h2 => by unfold cfgE; rw [if_neg (by simp [h1]), if_pos h2]
 p3 := fun h1 h2 c h3 h4 => by unfold cfgE; rw [if_neg (by simp [h1]), if_neg h2, if_pos (by rw [h3]; exact h4), h3]
 p4 := fun h1 h2 h3 h4 => by unfold cfgE; rw [if_neg (by simp [h1]), if_neg h2, if_neg (by simp [h3]), if_pos h4]
 p5 := fun h1 h2 h3 h4 h5 => by unfold cfgE; rw [if_neg (by simp [h1]), if_neg h2, if_neg (by simp [h3]), if_neg h4, if_pos h5]
 p6 := fun h1 h2 h3 h4 h5 c h6 h7 => by unfold cfgE; rw [if_neg (by simp [h1]), if_neg h2, if_neg (by simp [h3]), if_neg h4, if_neg h5, if_pos (by rw [h6]; exact h7), h6]
 p7 := fun h1 h2 h3 h4 h5 h6 h7 => by unfold cfgE; rw [if_neg (by simp [h1]), if_neg h2, if_neg (by simp [h3]), if_neg h4, if_neg h5, if_neg (by simp [h6]), if_pos h7]
 p8 := fun h1 h2 h3 h4 h5 h6 h7 => by unfold cfgE; rw [if_neg (by simp [h1]), if_neg h2, if_neg (by simp [h3]), if_neg h4, if_neg h5, if_neg (by simp [h6]), if_neg h7]
structure COk (T : List Tube) (K : List Int) (S : List SlotM) (H : Int) : Prop where
 t : TbOk T
 k : K.length ≤ 20 ∧ ∀ x ∈ K, 1 ≤ x ∧ x ≤ 20000
 s : S.length ≤ 60 ∧ ∀ x ∈ S, 1 ≤ x.price ∧ x.price ≤ 20000 ∧ 0 ≤ x.cnt ∧ x.cnt ≤ x.most ∧ x.most ≤ 1000
 h : 1 ≤ H ∧ H ≤ 20000
theorem tkE_ok {K : List Int} (h : firstE (tkE K) 0 K.length = 0) : ∀ x ∈ K, 1 ≤ x ∧ x ≤ 20000 := by
 intro x hx
 obtain ⟨j, hj⟩ := List.getElem?_of_mem hx
 have h1 := firstE_zero h j (by omega) (by have := (List.getElem?_eq_some_iff.1 hj).1; omega)
 unfold tkE at h1
 rw [hj] at h1
 simp only at h1
 split at h1
 ·omega
 ·omega
theorem sltE_ok {S : List SlotM} (h : firstE (sltE S) 0 S.length = 0) : ∀ x ∈ S, 1 ≤ x.price ∧ x.price ≤ 20000 ∧ 0 ≤ x.cnt ∧ x.cnt ≤ x.most ∧ x.most ≤ 1000 := by
 intro x hx
 obtain ⟨j, hj⟩ := List.getElem?_of_mem hx
 have h1 := firstE_zero h j (by omega) (by have := (List.getElem?_eq_some_iff.1 hj).1; omega)
 unfold sltE sltErr at h1
 rw [hj] at h1
 simp only at h1
 (repeat' split at h1) <;> first | (exact absurd h1 (by decide)) | skip
 omega
theorem cfg_ok {T : List Tube} {K : List Int} {S : List SlotM} {H : Int} (h : cfgE T K S H = 0) : COk T K S H := by
 unfold cfgE at h
 split at h
 ·rename_i h1; exact absurd h h1
 rename_i h1
 split at h
 ·exact absurd h (by decide)
 rename_i h2
 split at h
 ·rename_i h3; exact absurd h h3
 rename_i h3
 split at h
 ·exact absurd h (by decide)
 split at h
 ·exact absurd h (by decide)
 rename_i h5
 split at h
 ·rename_i h6; exact absurd h h6
 rename_i h6
 split at h
 ·exact absurd h (by decide)
 rename_i h7
 exact ⟨tubesErr_ok (Classical.not_not.1 h1), ⟨by omega, tkE_ok (Classical.not_not.1 h3)⟩, ⟨by omega, sltE_ok (Classical.not_not.1 h6)⟩, by omega⟩
end Lg
end
section
set_option linter.all false
set_option maxRecDepth 100000
set_option maxHeartbeats 8000000
namespace Lg
open Go Go.Proofs

theorem indexFunc_tube {l : List Tube} {p : Tube → Bool} {g : Nat} {caps : List Value} {cin : List Chunk} (hl : l.length ≤ 1000000000)
  (hs : ∀ x, x ∈ l → Spec Tryz.prog g ([Tr.agg x.row] ++ caps.map Tr.raw) cin (fun r cs => r = Tr.bool (p x) ∧ cs = cin)) :
  Spec Tryz.prog 83 [Tr.sl 3 (l.map Tube.row), Tr.raw (.func (.func g) #[] caps.toArray)] cin (fun r cs => r = Tr.int (idxFrom p l 0) ∧ cs = cin) := by
 refine Spec.body Tryz.func83 rfl rfl (Tryz.ntmps83) rfl fun w0 own0 M => ?_
 have hL : (l.map Tube.row).length = l.length := List.length_map _
 repeat' (first | refine goH ?_ | refine goV ?_ | refine goI ?_ | (refine Cw.k_cond ?_; first | (refine Cw.cond_dec rfl ?_ ?_ <;> intro hc <;> try omega) | refine Cw.cond_bool rfl ?_ ?_ <;> intro hc) | fail)
 refine Cw.loop (ι := Nat) (fun k => k ≤ l.length ∧ idxFrom p l 0 = idxFrom p (l.drop k) k) (fun k => [(0, Tr.sl 3 (l.map Tube.row)), (1, Tr.raw (.func (.func g) #[] caps.toArray)), (7, .int (l.map Tube.row).length), (8, .int k)]) (fun _ => cin) (fun k => l.length - k) ⟨0, ⟨by omega, rfl⟩, Ent.sub goSub⟩ ?_
 rintro k ⟨hk, hgo⟩
 by_cases hkl : k < l.length
 ·obtain ⟨x, hx⟩ : ∃ x, l[k]? = some x := ⟨_, List.getElem?_eq_getElem hkl⟩
  have hrow : (l.map Tube.row)[k]? = some [.int x.val, .int x.cnt, .int x.most] := rows_at hx
  have hdrop := idxFrom_drop p hx
  rw [hdrop] at hgo
  have hsx := hs x (List.mem_of_getElem? hx)
  by_cases hp : p x = true
  ·rw [if_pos hp] at hgo
   rw [hp] at hsx
   repeat' (first | refine goH ?_ | refine goV ?_ | refine goI ?_ | (refine Cw.k_cond ?_; first | (refine Cw.cond_dec rfl ?_ ?_ <;> intro hc <;> try omega) | refine Cw.cond_bool rfl ?_ ?_ <;> intro hc) | (refine Ops.k_calla ?_; first | (refine Ops.call_fn rfl hsx (Evs.cons rfl Evs.nil) (by rw [List.append_nil]) rfl ?_; rintro r cs' ⟨rfl, hcs⟩; rw [hcs, List.append_nil])) | fail)
   exact Fin.ret Ent.refl (Outs.one rfl rfl) ⟨by rw [hgo], rfl⟩
  ·rw [if_neg hp] at hgo
   rw [Bool.not_eq_true] at hp
   rw [hp] at hsx
   repeat' (first | refine goH ?_ | refine goV ?_ | refine goI ?_ | (refine Cw.k_cond ?_; first | (refine Cw.cond_dec rfl ?_ ?_ <;> intro hc <;> try omega) | refine Cw.cond_bool rfl ?_ ?_ <;> intro hc) | (refine Ops.k_calla ?_; first | (refine Ops.call_fn rfl hsx (Evs.cons rfl Evs.nil) (by rw [List.append_nil]) rfl ?_; rintro r cs' ⟨rfl, hcs⟩; rw [hcs, List.append_nil])) | fail)
   exact ⟨k + 1, ⟨by omega, hgo⟩, by omega, Ent.sub goSub⟩
 ·rw [List.drop_eq_nil_of_le (by omega), idxFrom] at hgo
  repeat' (first | refine goH ?_ | refine goV ?_ | refine goI ?_ | (refine Cw.k_cond ?_; first | (refine Cw.cond_dec rfl ?_ ?_ <;> intro hc <;> try omega) | refine Cw.cond_bool rfl ?_ ?_ <;> intro hc) | fail)
  exact Fin.ret Ent.refl (Outs.one rfl rfl) ⟨by rw [hgo], rfl⟩

theorem containsFunc_tube {l : List Tube} {p : Tube → Bool} {g : Nat} {caps : List Value} {cin : List Chunk} (hl : l.length ≤ 1000000000)
  (hs : ∀ x, x ∈ l → Spec Tryz.prog g ([Tr.agg x.row] ++ caps.map Tr.raw) cin (fun r cs => r = Tr.bool (p x) ∧ cs = cin)) :
  Spec Tryz.prog 47 [Tr.sl 3 (l.map Tube.row), Tr.raw (.func (.func g) #[] caps.toArray)] cin (fun r cs => r = Tr.bool (l.any p) ∧ cs = cin) := by
 refine Spec.body Tryz.func47 rfl rfl (Tryz.ntmps47) rfl fun w0 own0 M => ?_
 repeat' (first | refine goH ?_ | refine goV ?_ | refine goI ?_ | (refine Cw.k_cond ?_; first | (refine Cw.cond_dec rfl ?_ ?_ <;> intro hc <;> try omega) | refine Cw.cond_bool rfl ?_ ?_ <;> intro hc) | (refine Ops.k_calla ?_; first | (refine Ops.k_callf 83 ?_; (refine Ops.call (indexFunc_tube hl hs) (Evs.cons rfl (Evs.cons rfl Evs.nil)) (by rw [List.append_nil]) rfl ?_; rintro r cs' ⟨rfl, hcs⟩; rw [hcs, List.append_nil]))) | fail)
 refine Fin.ret Ent.refl (Outs.one rfl rfl) ⟨congrArg Tr.bool ?_, rfl⟩
 have := idxFrom_ge p l 0 (Int.le_refl _)
 by_cases h : 0 ≤ idxFrom p l 0
 ·simp [h, this.1 h]
 ·have h2 : l.any p = false := by rw [← Bool.not_eq_true]; exact fun e => h (this.2 e)
  simp [h, h2]

theorem cfgC_fn (d : Tube) (b : Nat) (T : List Tube) (K : List Int) (S : List SlotM) (H : Int) (hK : K.length ≤ 20) : Spec Tryz.prog 48 [.agg d.row, .ptr b] [Chunk.box b 33 [.tubes T, .ints K, .slots S, .int H]] (fun r cs => r = .bool (!decide (d.val ∈ K)) ∧ cs = [Chunk.box b 33 [.tubes T, .ints K, .slots S, .int H]]) := by
 have k := contains_fn K d.val (by omega)
 unfold Tube.row
 generalize decide (d.val ∈ K) = v at *
 refine Spec.body Tryz.func48 rfl rfl (Tryz.ntmps48) rfl fun w0 own0 M => ?_
 repeat' (first | refine goH ?_ | refine goV ?_ | refine goB (fun b => ?_) | refine goI ?_ | (refine Cw.k_cond ?_; first | (refine Cw.cond_dec rfl ?_ ?_ <;> intro hc <;> try omega) | refine Cw.cond_bool rfl ?_ ?_ <;> intro hc) | (refine Ops.k_calla ?_; first | (refine Ops.k_callf 24 ?_; refine Ops.callV k (Evs.cons rfl (Evs.cons rfl Evs.nil)) rfl ?_)) | fail)
 exact Fin.ret (Ent.take (Take.cons goPk Take.nil)) (Outs.one rfl rfl) ⟨rfl, rfl⟩
attribute [local irreducible] intRows

theorem checkConfig_fn (T : List Tube) (K : List Int) (S : List SlotM) (H : Int) : PFn Tryz.prog 18 [.cfg T K S H] (· = .int (cfgE T K S H)) := by
 have hT := checkTubes_fn T
 obtain ⟨p1, p2, p3, p4, p5, p6, p7, p8⟩ := cfgP T K S H
 generalize cfgE T K S H = e0 at *
 have hLT : (T.map Tube.row).length = T.length := List.length_map _
 have hLS : (S.map SlotM.row).length = S.length := List.length_map _
 have hLK : (intRows K).length = K.length := intRows_len K
 refine PFn.mk (Spec.body Tryz.func18 rfl rfl (Tryz.ntmps18) rfl fun w0 own0 M => ?_)
 by_cases h1 : tubesErr T ≠ 0
 ·have hE := p1 _ rfl h1
  clear p1 p2 p3 p4 p5 p6 p7 p8
  generalize tubesErr T = e at *
  repeat' (first | refine goH ?_ | refine goV ?_ | refine goB (fun b => ?_) | refine goG ?_ | (refine Ops.k_guard ?_; first | (refine Ops.guard_dec rfl rfl ?_ ?_ <;> intro hc <;> try omega) | refine Ops.guard_split rfl rfl ?_ ?_ <;> intro hc) | refine goI ?_ | (refine Cw.k_cond ?_; first | (refine Cw.cond_dec rfl ?_ ?_ <;> intro hc <;> try omega) | refine Cw.cond_bool rfl ?_ ?_ <;> intro hc) | (refine Ops.k_calla ?_; first | (refine Ops.k_callf 46 ?_; refine Ops.callV hT (Evs.cons rfl Evs.nil) rfl ?_)) | (apply OpW.k_call; first | (apply OpW.k_callf 46; exact OpW.callV hT (Evs.cons rfl Evs.nil))) | refine goR ?_ | refine goP ?_ | apply PSeq.cons | apply PSeq.yes rfl rfl rfl | exact goW | fail)
  exact Fin.ret (Ent.take goTk) (Outs.one rfl rfl) ⟨rfl, congrArg Tr.int hE.symm⟩
 replace h1 : tubesErr T = 0 := by omega
 have hto := (tubesErr_ok h1).len
 rw [h1] at hT
 clear p1
 by_cases h2 : 20 < K.length
 ·have hE := p2 h1 h2
  clear p2 p3 p4 p5 p6 p7 p8
  repeat' (first | refine goH ?_ | refine goV ?_ | refine goB (fun b => ?_) | refine goG ?_ | (refine Ops.k_guard ?_; first | (refine Ops.guard_dec rfl rfl ?_ ?_ <;> intro hc <;> try omega) | refine Ops.guard_split rfl rfl ?_ ?_ <;> intro hc) | refine goI ?_ | (refine Cw.k_cond ?_; first | (refine Cw.cond_dec rfl ?_ ?_ <;> intro hc <;> try omega) | refine Cw.cond_bool rfl ?_ ?_ <;> intro hc) | (refine Ops.k_calla ?_; first | (refine Ops.k_callf 46 ?_; refine Ops.callV hT (Evs.cons rfl Evs.nil) rfl ?_)) | (apply OpW.k_call; first | (apply OpW.k_callf 46; exact OpW.callV hT (Evs.cons rfl Evs.nil))) | refine goR ?_ | refine goP ?_ | apply PSeq.cons | apply PSeq.yes rfl rfl rfl | exact goW | fail)
  exact Fin.ret (Ent.take goTk) (Outs.one rfl rfl) ⟨rfl, congrArg Tr.int hE.symm⟩
 clear p2
 replace p3 := p3 h1 h2
 replace p4 := p4 h1 h2
 replace p5 := p5 h1 h2
 replace p6 := p6 h1 h2
 replace p7 := p7 h1 h2
 replace p8 := p8 h1 h2
 repeat' (first | refine goH ?_ | refine goV ?_ | refine goB (fun b => ?_) | refine goG ?_ | (refine Ops.k_guard ?_; first | (refine Ops.guard_dec rfl rfl ?_ ?_ <;> intro hc <;> try omega) | refine Ops.guard_split rfl rfl ?_ ?_ <;> intro hc) | refine goI ?_ | (refine Cw.k_cond ?_; first | (refine Cw.cond_dec rfl ?_ ?_ <;> intro hc <;> try omega) | refine Cw.cond_bool rfl ?_ ?_ <;> intro hc) | (refine Ops.k_calla ?_; first | (refine Ops.k_callf 46 ?_; refine Ops.callV hT (Evs.cons rfl Evs.nil) rfl ?_)) | (apply OpW.k_call; first | (apply OpW.k_callf 46; exact OpW.callV hT (Evs.cons rfl Evs.nil))) | refine goR ?_ | refine goP ?_ | apply PSeq.cons | apply PSeq.yes rfl rfl rfl | exact goW | fail)
 clear hT h1
 refine Cw.loopI [(1, _), (19, _), (20, _)] _ (fun n e c => ∃ k : Nat, n = K.length - k ∧ (k ≤ K.length ∧ firstE (tkE K) 0 K.length = firstE (tkE K) k (K.length - k)) ∧ e = [(21, .int k)] ∧ c = []) ⟨_, _, _, (Ent.mkP goSub goPm), 0, rfl, ⟨by omega, rfl⟩, rfl, rfl⟩ ?_
 rintro _ _ _ ⟨k, rfl, ⟨hk, hV⟩, rfl, rfl⟩
 by_cases hkl : k < K.length
 ·obtain ⟨x, hx⟩ := at_lt hkl
  have hrow : (intRows K)[k]? = some [.int x] := intRows_at hx
  have o1 := out_fn x 1 20000
  by_cases g1 : x < 1 ∨ 20000 < x
  ·have hE := p3 1 (hV.trans (firstE_bad hkl (by simp only [tkE, hx]; rw [if_pos g1]) (by decide))) (by decide)
   rw [show outB x 1 20000 = true by simp [outB]; omega] at o1
   clear p3 p4 p5 p6 p7 p8 hV
   repeat' (first | refine goH ?_ | refine goV ?_ | refine goB (fun b => ?_) | refine goG ?_ | (refine Ops.k_guard ?_; first | (refine Ops.guard_dec rfl rfl ?_ ?_ <;> intro hc <;> try omega) | refine Ops.guard_split rfl rfl ?_ ?_ <;> intro hc) | refine goI ?_ | (refine Cw.k_cond ?_; first | (refine Cw.cond_dec rfl ?_ ?_ <;> intro hc <;> try omega) | refine Cw.cond_bool rfl ?_ ?_ <;> intro hc) | (refine Ops.k_calla ?_; first | (refine Ops.k_callf 32 ?_; refine Ops.callV o1 (Evs.cons rfl (Evs.cons rfl (Evs.cons rfl Evs.nil))) rfl ?_)) | (apply OpW.k_call; first | (apply OpW.k_callf 32; exact OpW.callV o1 (Evs.cons rfl (Evs.cons rfl (Evs.cons rfl Evs.nil))))) | refine goR ?_ | refine goP ?_ | apply PSeq.cons | apply PSeq.yes rfl rfl rfl | exact goW | fail)
   all_goals exact Fin.ret (Ent.take goTk) (Outs.one rfl rfl) ⟨rfl, congrArg Tr.int hE.symm⟩
  rw [show outB x 1 20000 = false by simp [outB]; omega] at o1
  cases k with
  |zero =>
   have hN := hV.trans (firstE_ok hkl (by simp only [tkE, hx]; rw [if_neg g1]; rfl))
   clear p3 p4 p5 p6 p7 p8 hV
   repeat' (first | refine goH ?_ | refine goV ?_ | refine goB (fun b => ?_) | refine goG ?_ | (refine Ops.k_guard ?_; first | (refine Ops.guard_dec rfl rfl ?_ ?_ <;> intro hc <;> try omega) | refine Ops.guard_split rfl rfl ?_ ?_ <;> intro hc) | refine goI ?_ | (refine Cw.k_cond ?_; first | (refine Cw.cond_dec rfl ?_ ?_ <;> intro hc <;> try omega) | refine Cw.cond_bool rfl ?_ ?_ <;> intro hc) | (refine Ops.k_calla ?_; first | (refine Ops.k_callf 32 ?_; refine Ops.callV o1 (Evs.cons rfl (Evs.cons rfl (Evs.cons rfl Evs.nil))) rfl ?_)) | (apply OpW.k_call; first | (apply OpW.k_callf 32; exact OpW.callV o1 (Evs.cons rfl (Evs.cons rfl (Evs.cons rfl Evs.nil))))) | refine goR ?_ | refine goP ?_ | apply PSeq.cons | apply PSeq.yes rfl rfl rfl | exact goW | fail)
   all_goals exact ⟨_, _, _, (Ent.mk goSub goTk), ⟨1, rfl, ⟨by omega, hN⟩, rfl, rfl⟩, by omega⟩
  |succ j =>
   obtain ⟨y, hy⟩ := at_lt (l := K) (k := j) (by omega)
   have hrow2 : (intRows K)[(((j + 1 : Nat) : Int) - 1).toNat]? = some [.int y] := by rw [show (((j + 1 : Nat) : Int) - 1).toNat = j by omega]; exact intRows_at hy
   by_cases g2 : x ≤ y
   ·have hE := p3 7 (hV.trans (firstE_bad hkl (by simp only [tkE, hx, prevB, hy]; rw [if_neg g1, if_pos (decide_eq_true g2)]) (by decide))) (by decide)
    clear p3 p4 p5 p6 p7 p8 hV
    repeat' (first | refine goH ?_ | refine goV ?_ | refine goB (fun b => ?_) | refine goG ?_ | (refine Ops.k_guard ?_; first | (refine Ops.guard_dec rfl rfl ?_ ?_ <;> intro hc <;> try omega) | refine Ops.guard_split rfl rfl ?_ ?_ <;> intro hc) | refine goI ?_ | (refine Cw.k_cond ?_; first | (refine Cw.cond_dec rfl ?_ ?_ <;> intro hc <;> try omega) | refine Cw.cond_bool rfl ?_ ?_ <;> intro hc) | (refine Ops.k_calla ?_; first | (refine Ops.k_callf 32 ?_; refine Ops.callV o1 (Evs.cons rfl (Evs.cons rfl (Evs.cons rfl Evs.nil))) rfl ?_)) | (apply OpW.k_call; first | (apply OpW.k_callf 32; exact OpW.callV o1 (Evs.cons rfl (Evs.cons rfl (Evs.cons rfl Evs.nil))))) | refine goR ?_ | refine goP ?_ | apply PSeq.cons | apply PSeq.yes rfl rfl rfl | exact goW | fail)
    all_goals exact Fin.ret (Ent.take goTk) (Outs.one rfl rfl) ⟨rfl, congrArg Tr.int hE.symm⟩
   ·have hN := hV.trans (firstE_ok hkl (by simp only [tkE, hx, prevB, hy]; rw [if_neg g1, if_neg (by simpa using g2)]))
    clear p3 p4 p5 p6 p7 p8 hV
    repeat' (first | refine goH ?_ | refine goV ?_ | refine goB (fun b => ?_) | refine goG ?_ | (refine Ops.k_guard ?_; first | (refine Ops.guard_dec rfl rfl ?_ ?_ <;> intro hc <;> try omega) | refine Ops.guard_split rfl rfl ?_ ?_ <;> intro hc) | refine goI ?_ | (refine Cw.k_cond ?_; first | (refine Cw.cond_dec rfl ?_ ?_ <;> intro hc <;> try omega) | refine Cw.cond_bool rfl ?_ ?_ <;> intro hc) | (refine Ops.k_calla ?_; first | (refine Ops.k_callf 32 ?_; refine Ops.callV o1 (Evs.cons rfl (Evs.cons rfl (Evs.cons rfl Evs.nil))) rfl ?_)) | (apply OpW.k_call; first | (apply OpW.k_callf 32; exact OpW.callV o1 (Evs.cons rfl (Evs.cons rfl (Evs.cons rfl Evs.nil))))) | refine goR ?_ | refine goP ?_ | apply PSeq.cons | apply PSeq.yes rfl rfl rfl | exact goW | fail)
    all_goals exact ⟨_, _, _, (Ent.mk goSub goTk), ⟨_, rfl, ⟨by omega, hN⟩, rfl, rfl⟩, by omega⟩
 rw [firstE_end hkl] at hV
 clear p3
 replace p4 := p4 hV
 replace p5 := p5 hV
 replace p6 := p6 hV
 replace p7 := p7 hV
 replace p8 := p8 hV
 have kC := fun v => contains_fn K v (by omega)
 have kA := fun b => containsFunc_tube (cin := [Chunk.box b 33 [.tubes T, .ints K, .slots S, .int H]]) (caps := [.pointer (some ⟨b, 0, none⟩)]) (g := 48) (p := fun d => !decide (d.val ∈ K)) (l := T) (by omega) (fun d _ => cfgC_fn d b T K S H (by omega))
 by_cases h4 : T.any (fun d => !decide (d.val ∈ K)) = true ∨ S.length = 0
 ·have hE := p4 h4
  clear p4 p5 p6 p7 p8
  generalize T.any (fun d => !decide (d.val ∈ K)) = v at *
  repeat' (first | refine goH ?_ | refine goV ?_ | refine goB (fun b => ?_) | refine goG ?_ | (refine Ops.k_guard ?_; first | (refine Ops.guard_dec rfl rfl ?_ ?_ <;> intro hc <;> try omega) | refine Ops.guard_split rfl rfl ?_ ?_ <;> intro hc) | refine goI ?_ | (refine Cw.k_cond ?_; first | (refine Cw.cond_dec rfl ?_ ?_ <;> intro hc <;> try omega) | refine Cw.cond_bool rfl ?_ ?_ <;> intro hc) | (refine Ops.k_calla ?_; first | (refine Ops.k_callf 47 ?_; refine Ops.callS (kA _) (Evs.cons rfl (Evs.cons rfl Evs.nil)) goPk rfl ?_)) | (apply OpW.k_call; first | (apply OpW.k_callf 47; exact OpW.callS (kA _) (Evs.cons rfl (Evs.cons rfl Evs.nil)) goPk)) | refine goR ?_ | refine goP ?_ | apply PSeq.cons | apply PSeq.yes rfl rfl rfl | exact goW | fail)
  all_goals (try simp only [Bool.not_eq_true] at *)
  all_goals first | exact Fin.ret (Ent.take goTk) (Outs.one rfl rfl) ⟨rfl, congrArg Tr.int hE.symm⟩ | (exfalso; simp_all; done)
 obtain ⟨h4a, h4b⟩ := not_or.1 h4
 rw [Bool.not_eq_true] at h4a
 rw [h4a] at kA
 by_cases h5 : 60 < S.length
 ·have hE := p5 h4 h5
  clear p4 p5 p6 p7 p8
  repeat' (first | refine goH ?_ | refine goV ?_ | refine goB (fun b => ?_) | refine goG ?_ | (refine Ops.k_guard ?_; first | (refine Ops.guard_dec rfl rfl ?_ ?_ <;> intro hc <;> try omega) | refine Ops.guard_split rfl rfl ?_ ?_ <;> intro hc) | refine goI ?_ | (refine Cw.k_cond ?_; first | (refine Cw.cond_dec rfl ?_ ?_ <;> intro hc <;> try omega) | refine Cw.cond_bool rfl ?_ ?_ <;> intro hc) | (refine Ops.k_calla ?_; first | (refine Ops.k_callf 47 ?_; refine Ops.callS (kA _) (Evs.cons rfl (Evs.cons rfl Evs.nil)) goPk rfl ?_)) | (apply OpW.k_call; first | (apply OpW.k_callf 47; exact OpW.callS (kA _) (Evs.cons rfl (Evs.cons rfl Evs.nil)) goPk)) | refine goR ?_ | refine goP ?_ | apply PSeq.cons | apply PSeq.yes rfl rfl rfl | exact goW | fail)
  exact Fin.ret (Ent.take goTk) (Outs.one rfl rfl) ⟨rfl, congrArg Tr.int hE.symm⟩
 replace p6 := p6 h4 h5
 replace p7 := p7 h4 h5
 replace p8 := p8 h4 h5
 clear p4 p5 h4
 repeat' (first | refine goH ?_ | refine goV ?_ | refine goB (fun b => ?_) | refine goG ?_ | (refine Ops.k_guard ?_; first | (refine Ops.guard_dec rfl rfl ?_ ?_ <;> intro hc <;> try omega) | refine Ops.guard_split rfl rfl ?_ ?_ <;> intro hc) | refine goI ?_ | (refine Cw.k_cond ?_; first | (refine Cw.cond_dec rfl ?_ ?_ <;> intro hc <;> try omega) | refine Cw.cond_bool rfl ?_ ?_ <;> intro hc) | (refine Ops.k_calla ?_; first | (refine Ops.k_callf 47 ?_; refine Ops.callS (kA _) (Evs.cons rfl (Evs.cons rfl Evs.nil)) goPk rfl ?_)) | (apply OpW.k_call; first | (apply OpW.k_callf 47; exact OpW.callS (kA _) (Evs.cons rfl (Evs.cons rfl Evs.nil)) goPk)) | refine goR ?_ | refine goP ?_ | apply PSeq.cons | apply PSeq.yes rfl rfl rfl | exact goW | fail)
 clear kA kC
 refine Cw.loopI [(1, _), (56, _), (57, _)] _ (fun n e c => ∃ k : Nat, n = S.length - k ∧ (k ≤ S.length ∧ firstE (sltE S) 0 S.length = firstE (sltE S) k (S.length - k)) ∧ e = [(58, .int k)] ∧ c = []) ⟨_, _, _, (Ent.mkP goSub goPm), 0, rfl, ⟨by omega, rfl⟩, rfl, rfl⟩ ?_
 clear hV hkl hk
 rintro _ _ _ ⟨k, rfl, ⟨hk, hV⟩, rfl, rfl⟩
 by_cases hkl : k < S.length
 ·obtain ⟨x, hx⟩ := at_lt hkl
  have hrow : (S.map SlotM.row)[k]? = some [.str x.key, .str x.prod, .int x.price, .int x.most, .int x.cnt] := rows_at hx
  have k1 := key_fn x.key
  have k2 := key_fn x.prod
  have o1 := out_fn x.price 1 20000
  have o2 := out_fn x.most 0 1000
  have o3 := out_fn x.cnt 0 x.most
  have hbad : ∀ c : Int, sltE S k = c → c ≠ 0 → e0 = c := fun c h1 h2 => p6 c (hV.trans (firstE_bad hkl h1 h2)) h2
  have hgood : sltE S k = 0 → firstE (sltE S) 0 S.length = firstE (sltE S) (k + 1) (S.length - (k + 1)) := fun he => hV.trans (firstE_ok hkl he)
  clear p6 p7 p8 hV
  by_cases g1 : isKey x.key = false
  ·have hE := hbad 5 (by simp only [sltE, hx]; rw [if_pos g1]) (by decide)
   rw [g1] at k1
   repeat' (first | refine goH ?_ | refine goV ?_ | refine goB (fun b => ?_) | refine goG ?_ | (refine Ops.k_guard ?_; first | (refine Ops.guard_dec rfl rfl ?_ ?_ <;> intro hc <;> try omega) | refine Ops.guard_split rfl rfl ?_ ?_ <;> intro hc) | refine goI ?_ | (refine Cw.k_cond ?_; first | (refine Cw.cond_dec rfl ?_ ?_ <;> intro hc <;> try omega) | refine Cw.cond_bool rfl ?_ ?_ <;> intro hc) | (refine Ops.k_calla ?_; first | (refine Ops.k_callf 49 ?_; refine Ops.callV k1 (Evs.cons rfl Evs.nil) rfl ?_)) | (apply OpW.k_call; first | (apply OpW.k_callf 49; exact OpW.callV k1 (Evs.cons rfl Evs.nil))) | refine goR ?_ | refine goP ?_ | apply PSeq.cons | apply PSeq.yes rfl rfl rfl | exact goW | fail)
   exact Fin.ret (Ent.take goTk) (Outs.one rfl rfl) ⟨rfl, congrArg Tr.int hE.symm⟩
  replace g1 : isKey x.key = true := by simpa using g1
  rw [g1] at k1
  have g1' : ¬ isKey x.key = false := by simp [g1]
  cases k with
  |zero =>
   have he : sltE S 0 = sltErr x := by simp only [sltE, hx]; rw [if_neg g1']; rfl
   by_cases g3 : isKey x.prod = false
   ·have hE := hbad 5 (by rw [he]; unfold sltErr; rw [if_pos g3]) (by decide)
    rw [g3] at k2
    repeat' (first | refine goH ?_ | refine goV ?_ | refine goB (fun b => ?_) | refine goG ?_ | (refine Ops.k_guard ?_; first | (refine Ops.guard_dec rfl rfl ?_ ?_ <;> intro hc <;> try omega) | refine Ops.guard_split rfl rfl ?_ ?_ <;> intro hc) | refine goI ?_ | (refine Cw.k_cond ?_; first | (refine Cw.cond_dec rfl ?_ ?_ <;> intro hc <;> try omega) | refine Cw.cond_bool rfl ?_ ?_ <;> intro hc) | (refine Ops.k_calla ?_; first | (refine Ops.k_callf 49 ?_; refine Ops.callV k1 (Evs.cons rfl Evs.nil) rfl ?_) | (refine Ops.k_callf 49 ?_; refine Ops.callV k2 (Evs.cons rfl Evs.nil) rfl ?_)) | (apply OpW.k_call; first | (apply OpW.k_callf 49; exact OpW.callV k1 (Evs.cons rfl Evs.nil)) | (apply OpW.k_callf 49; exact OpW.callV k2 (Evs.cons rfl Evs.nil))) | refine goR ?_ | refine goP ?_ | apply PSeq.cons | apply PSeq.yes rfl rfl rfl | exact goW | fail)
    all_goals first | exact Fin.ret (Ent.take goTk) (Outs.one rfl rfl) ⟨rfl, congrArg Tr.int hE.symm⟩ | (exfalso; simp_all; done)
   have g3' := g3
   replace g3 : isKey x.prod = true := by simpa using g3
   rw [g3] at k2
   by_cases g4 : x.price < 1 ∨ 20000 < x.price ∨ x.most < 0 ∨ 1000 < x.most ∨ x.cnt < 0 ∨ x.most < x.cnt
   ·have hE := hbad 1 (by rw [he]; unfold sltErr; rw [if_neg g3', if_pos g4]) (by decide)
    clear hbad hgood
    repeat' (first | refine goH ?_ | refine goV ?_ | refine goB (fun b => ?_) | refine goG ?_ | (refine Ops.k_guard ?_; first | (refine Ops.guard_dec rfl rfl ?_ ?_ <;> intro hc <;> try omega) | refine Ops.guard_split rfl rfl ?_ ?_ <;> intro hc) | refine goI ?_ | (refine Cw.k_cond ?_; first | (refine Cw.cond_dec rfl ?_ ?_ <;> intro hc <;> try omega) | refine Cw.cond_bool rfl ?_ ?_ <;> intro hc) | (refine Ops.k_calla ?_; first | (refine Ops.k_callf 49 ?_; refine Ops.callV k1 (Evs.cons rfl Evs.nil) rfl ?_) | (refine Ops.k_callf 49 ?_; refine Ops.callV k2 (Evs.cons rfl Evs.nil) rfl ?_) | (refine Ops.k_callf 32 ?_; refine Ops.callV o1 (Evs.cons rfl (Evs.cons rfl (Evs.cons rfl Evs.nil))) rfl ?_) | (refine Ops.k_callf 32 ?_; refine Ops.callV o2 (Evs.cons rfl (Evs.cons rfl (Evs.cons rfl Evs.nil))) rfl ?_) | (refine Ops.k_callf 32 ?_; refine Ops.callV o3 (Evs.cons rfl (Evs.cons rfl (Evs.cons rfl Evs.nil))) rfl ?_)) | (apply OpW.k_call; first | (apply OpW.k_callf 49; exact OpW.callV k1 (Evs.cons rfl Evs.nil)) | (apply OpW.k_callf 49; exact OpW.callV k2 (Evs.cons rfl Evs.nil)) | (apply OpW.k_callf 32; exact OpW.callV o1 (Evs.cons rfl (Evs.cons rfl (Evs.cons rfl Evs.nil)))) | (apply OpW.k_callf 32; exact OpW.callV o2 (Evs.cons rfl (Evs.cons rfl (Evs.cons rfl Evs.nil)))) | (apply OpW.k_callf 32; exact OpW.callV o3 (Evs.cons rfl (Evs.cons rfl (Evs.cons rfl Evs.nil))))) | refine goR ?_ | refine goP ?_ | apply PSeq.cons | apply PSeq.yes rfl rfl rfl | exact goW | fail)
    all_goals (try simp only [outB_eq, outB_f, Bool.not_eq_true] at *)
    all_goals first | exact Fin.ret (Ent.take goTk) (Outs.one rfl rfl) ⟨rfl, congrArg Tr.int hE.symm⟩ | (exfalso; omega) | (exfalso; simp_all; done)
   ·have hN := hgood (by rw [he]; unfold sltErr; rw [if_neg g3', if_neg g4])
    rw [show outB x.price 1 20000 = false by simp [outB]; omega] at o1
    rw [show outB x.most 0 1000 = false by simp [outB]; omega] at o2
    rw [show outB x.cnt 0 x.most = false by simp [outB]; omega] at o3
    clear hbad hgood
    repeat' (first | refine goH ?_ | refine goV ?_ | refine goB (fun b => ?_) | refine goG ?_ | (refine Ops.k_guard ?_; first | (refine Ops.guard_dec rfl rfl ?_ ?_ <;> intro hc <;> try omega) | refine Ops.guard_split rfl rfl ?_ ?_ <;> intro hc) | refine goI ?_ | (refine Cw.k_cond ?_; first | (refine Cw.cond_dec rfl ?_ ?_ <;> intro hc <;> try omega) | refine Cw.cond_bool rfl ?_ ?_ <;> intro hc) | (refine Ops.k_calla ?_; first | (refine Ops.k_callf 49 ?_; refine Ops.callV k1 (Evs.cons rfl Evs.nil) rfl ?_) | (refine Ops.k_callf 49 ?_; refine Ops.callV k2 (Evs.cons rfl Evs.nil) rfl ?_) | (refine Ops.k_callf 32 ?_; refine Ops.callV o1 (Evs.cons rfl (Evs.cons rfl (Evs.cons rfl Evs.nil))) rfl ?_) | (refine Ops.k_callf 32 ?_; refine Ops.callV o2 (Evs.cons rfl (Evs.cons rfl (Evs.cons rfl Evs.nil))) rfl ?_) | (refine Ops.k_callf 32 ?_; refine Ops.callV o3 (Evs.cons rfl (Evs.cons rfl (Evs.cons rfl Evs.nil))) rfl ?_)) | (apply OpW.k_call; first | (apply OpW.k_callf 49; exact OpW.callV k1 (Evs.cons rfl Evs.nil)) | (apply OpW.k_callf 49; exact OpW.callV k2 (Evs.cons rfl Evs.nil)) | (apply OpW.k_callf 32; exact OpW.callV o1 (Evs.cons rfl (Evs.cons rfl (Evs.cons rfl Evs.nil)))) | (apply OpW.k_callf 32; exact OpW.callV o2 (Evs.cons rfl (Evs.cons rfl (Evs.cons rfl Evs.nil)))) | (apply OpW.k_callf 32; exact OpW.callV o3 (Evs.cons rfl (Evs.cons rfl (Evs.cons rfl Evs.nil))))) | refine goR ?_ | refine goP ?_ | apply PSeq.cons | apply PSeq.yes rfl rfl rfl | exact goW | fail)
    all_goals first | exact ⟨_, _, _, (Ent.mk goSub goTk), ⟨_, rfl, ⟨by omega, hN⟩, rfl, rfl⟩, by omega⟩ | (exfalso; simp_all; done)
  |succ j =>
   obtain ⟨y, hy⟩ := at_lt (l := S) (k := j) (by omega)
   have hrow2 : (S.map SlotM.row)[(((j + 1 : Nat) : Int) - 1).toNat]? = some [.str y.key, .str y.prod, .int y.price, .int y.most, .int y.cnt] := by rw [show (((j + 1 : Nat) : Int) - 1).toNat = j by omega]; exact rows_at hy
   by_cases g2 : (strLt x.key y.key || decide (x.key = y.key)) = true
   ·have hE := hbad 7 (by simp only [sltE, hx, prevB, hy, strLe]; rw [if_neg g1', if_pos g2]) (by decide)
    repeat' (first | refine goH ?_ | refine goV ?_ | refine goB (fun b => ?_) | refine goG ?_ | (refine Ops.k_guard ?_; first | (refine Ops.guard_dec rfl rfl ?_ ?_ <;> intro hc <;> try omega) | refine Ops.guard_split rfl rfl ?_ ?_ <;> intro hc) | refine goI ?_ | (refine Cw.k_cond ?_; first | (refine Cw.cond_dec rfl ?_ ?_ <;> intro hc <;> try omega) | refine Cw.cond_bool rfl ?_ ?_ <;> intro hc) | (refine Ops.k_calla ?_; first | (refine Ops.k_callf 49 ?_; refine Ops.callV k1 (Evs.cons rfl Evs.nil) rfl ?_)) | (apply OpW.k_call; first | (apply OpW.k_callf 49; exact OpW.callV k1 (Evs.cons rfl Evs.nil))) | refine goR ?_ | refine goP ?_ | apply PSeq.cons | apply PSeq.yes rfl rfl rfl | exact goW | fail)
    all_goals first | exact Fin.ret (Ent.take goTk) (Outs.one rfl rfl) ⟨rfl, congrArg Tr.int hE.symm⟩ | (exfalso; simp_all; done)
   have he : sltE S (j + 1) = sltErr x := by simp only [sltE, hx, prevB, hy, strLe]; rw [if_neg g1', if_neg g2]
   rw [Bool.not_eq_true] at g2
   by_cases g3 : isKey x.prod = false
   ·have hE := hbad 5 (by rw [he]; unfold sltErr; rw [if_pos g3]) (by decide)
    rw [g3] at k2
    repeat' (first | refine goH ?_ | refine goV ?_ | refine goB (fun b => ?_) | refine goG ?_ | (refine Ops.k_guard ?_; first | (refine Ops.guard_dec rfl rfl ?_ ?_ <;> intro hc <;> try omega) | refine Ops.guard_split rfl rfl ?_ ?_ <;> intro hc) | refine goI ?_ | (refine Cw.k_cond ?_; first | (refine Cw.cond_dec rfl ?_ ?_ <;> intro hc <;> try omega) | refine Cw.cond_bool rfl ?_ ?_ <;> intro hc) | (refine Ops.k_calla ?_; first | (refine Ops.k_callf 49 ?_; refine Ops.callV k1 (Evs.cons rfl Evs.nil) rfl ?_) | (refine Ops.k_callf 49 ?_; refine Ops.callV k2 (Evs.cons rfl Evs.nil) rfl ?_)) | (apply OpW.k_call; first | (apply OpW.k_callf 49; exact OpW.callV k1 (Evs.cons rfl Evs.nil)) | (apply OpW.k_callf 49; exact OpW.callV k2 (Evs.cons rfl Evs.nil))) | refine goR ?_ | refine goP ?_ | apply PSeq.cons | apply PSeq.yes rfl rfl rfl | exact goW | fail)
    all_goals first | exact Fin.ret (Ent.take goTk) (Outs.one rfl rfl) ⟨rfl, congrArg Tr.int hE.symm⟩ | (exfalso; simp_all; done)
   have g3' := g3
   replace g3 : isKey x.prod = true := by simpa using g3
   rw [g3] at k2
   by_cases g4 : x.price < 1 ∨ 20000 < x.price ∨ x.most < 0 ∨ 1000 < x.most ∨ x.cnt < 0 ∨ x.most < x.cnt
   ·have hE := hbad 1 (by rw [he]; unfold sltErr; rw [if_neg g3', if_pos g4]) (by decide)
    clear hbad hgood
    repeat' (first | refine goH ?_ | refine goV ?_ | refine goB (fun b => ?_) | refine goG ?_ | (refine Ops.k_guard ?_; first | (refine Ops.guard_dec rfl rfl ?_ ?_ <;> intro hc <;> try omega) | refine Ops.guard_split rfl rfl ?_ ?_ <;> intro hc) | refine goI ?_ | (refine Cw.k_cond ?_; first | (refine Cw.cond_dec rfl ?_ ?_ <;> intro hc <;> try omega) | refine Cw.cond_bool rfl ?_ ?_ <;> intro hc) | (refine Ops.k_calla ?_; first | (refine Ops.k_callf 49 ?_; refine Ops.callV k1 (Evs.cons rfl Evs.nil) rfl ?_) | (refine Ops.k_callf 49 ?_; refine Ops.callV k2 (Evs.cons rfl Evs.nil) rfl ?_) | (refine Ops.k_callf 32 ?_; refine Ops.callV o1 (Evs.cons rfl (Evs.cons rfl (Evs.cons rfl Evs.nil))) rfl ?_) | (refine Ops.k_callf 32 ?_; refine Ops.callV o2 (Evs.cons rfl (Evs.cons rfl (Evs.cons rfl Evs.nil))) rfl ?_) | (refine Ops.k_callf 32 ?_; refine Ops.callV o3 (Evs.cons rfl (Evs.cons rfl (Evs.cons rfl Evs.nil))) rfl ?_)) | (apply OpW.k_call; first | (apply OpW.k_callf 49; exact OpW.callV k1 (Evs.cons rfl Evs.nil)) | (apply OpW.k_callf 49; exact OpW.callV k2 (Evs.cons rfl Evs.nil)) | (apply OpW.k_callf 32; exact OpW.callV o1 (Evs.cons rfl (Evs.cons rfl (Evs.cons rfl Evs.nil)))) | (apply OpW.k_callf 32; exact OpW.callV o2 (Evs.cons rfl (Evs.cons rfl (Evs.cons rfl Evs.nil)))) | (apply OpW.k_callf 32; exact OpW.callV o3 (Evs.cons rfl (Evs.cons rfl (Evs.cons rfl Evs.nil))))) | refine goR ?_ | refine goP ?_ | apply PSeq.cons | apply PSeq.yes rfl rfl rfl | exact goW | fail)
    all_goals (try simp only [outB_eq, outB_f, Bool.not_eq_true] at *)
    all_goals first | exact Fin.ret (Ent.take goTk) (Outs.one rfl rfl) ⟨rfl, congrArg Tr.int hE.symm⟩ | (exfalso; omega) | (exfalso; simp_all; done)
   ·have hN := hgood (by rw [he]; unfold sltErr; rw [if_neg g3', if_neg g4])
    rw [show outB x.price 1 20000 = false by simp [outB]; omega] at o1
    rw [show outB x.most 0 1000 = false by simp [outB]; omega] at o2
    rw [show outB x.cnt 0 x.most = false by simp [outB]; omega] at o3
    clear hbad hgood
    repeat' (first | refine goH ?_ | refine goV ?_ | refine goB (fun b => ?_) | refine goG ?_ | (refine Ops.k_guard ?_; first | (refine Ops.guard_dec rfl rfl ?_ ?_ <;> intro hc <;> try omega) | refine Ops.guard_split rfl rfl ?_ ?_ <;> intro hc) | refine goI ?_ | (refine Cw.k_cond ?_; first | (refine Cw.cond_dec rfl ?_ ?_ <;> intro hc <;> try omega) | refine Cw.cond_bool rfl ?_ ?_ <;> intro hc) | (refine Ops.k_calla ?_; first | (refine Ops.k_callf 49 ?_; refine Ops.callV k1 (Evs.cons rfl Evs.nil) rfl ?_) | (refine Ops.k_callf 49 ?_; refine Ops.callV k2 (Evs.cons rfl Evs.nil) rfl ?_) | (refine Ops.k_callf 32 ?_; refine Ops.callV o1 (Evs.cons rfl (Evs.cons rfl (Evs.cons rfl Evs.nil))) rfl ?_) | (refine Ops.k_callf 32 ?_; refine Ops.callV o2 (Evs.cons rfl (Evs.cons rfl (Evs.cons rfl Evs.nil))) rfl ?_) | (refine Ops.k_callf 32 ?_; refine Ops.callV o3 (Evs.cons rfl (Evs.cons rfl (Evs.cons rfl Evs.nil))) rfl ?_)) | (apply OpW.k_call; first | (apply OpW.k_callf 49; exact OpW.callV k1 (Evs.cons rfl Evs.nil)) | (apply OpW.k_callf 49; exact OpW.callV k2 (Evs.cons rfl Evs.nil)) | (apply OpW.k_callf 32; exact OpW.callV o1 (Evs.cons rfl (Evs.cons rfl (Evs.cons rfl Evs.nil)))) | (apply OpW.k_callf 32; exact OpW.callV o2 (Evs.cons rfl (Evs.cons rfl (Evs.cons rfl Evs.nil)))) | (apply OpW.k_callf 32; exact OpW.callV o3 (Evs.cons rfl (Evs.cons rfl (Evs.cons rfl Evs.nil))))) | refine goR ?_ | refine goP ?_ | apply PSeq.cons | apply PSeq.yes rfl rfl rfl | exact goW | fail)
    all_goals first | exact ⟨_, _, _, (Ent.mk goSub goTk), ⟨_, rfl, ⟨by omega, hN⟩, rfl, rfl⟩, by omega⟩ | (exfalso; simp_all; done)
 rw [firstE_end hkl] at hV
 have o4 := out_fn H 1 20000
 by_cases h7 : H < 1 ∨ 20000 < H
 ·have hE := p7 hV h7
  rw [show outB H 1 20000 = true by simp [outB]; omega] at o4
  clear p6 p7 p8
  repeat' (first | refine goH ?_ | refine goV ?_ | refine goB (fun b => ?_) | refine goG ?_ | (refine Ops.k_guard ?_; first | (refine Ops.guard_dec rfl rfl ?_ ?_ <;> intro hc <;> try omega) | refine Ops.guard_split rfl rfl ?_ ?_ <;> intro hc) | refine goI ?_ | (refine Cw.k_cond ?_; first | (refine Cw.cond_dec rfl ?_ ?_ <;> intro hc <;> try omega) | refine Cw.cond_bool rfl ?_ ?_ <;> intro hc) | (refine Ops.k_calla ?_; first | (refine Ops.k_callf 32 ?_; refine Ops.callV o4 (Evs.cons rfl (Evs.cons rfl (Evs.cons rfl Evs.nil))) rfl ?_)) | (apply OpW.k_call; first | (apply OpW.k_callf 32; exact OpW.callV o4 (Evs.cons rfl (Evs.cons rfl (Evs.cons rfl Evs.nil))))) | refine goR ?_ | refine goP ?_ | apply PSeq.cons | apply PSeq.yes rfl rfl rfl | exact goW | fail)
  all_goals exact Fin.ret (Ent.take goTk) (Outs.one rfl rfl) ⟨rfl, congrArg Tr.int hE.symm⟩
 ·have hE := p8 hV h7
  rw [show outB H 1 20000 = false by simp [outB]; omega] at o4
  clear p6 p7 p8
  repeat' (first | refine goH ?_ | refine goV ?_ | refine goB (fun b => ?_) | refine goG ?_ | (refine Ops.k_guard ?_; first | (refine Ops.guard_dec rfl rfl ?_ ?_ <;> intro hc <;> try omega) | refine Ops.guard_split rfl rfl ?_ ?_ <;> intro hc) | refine goI ?_ | (refine Cw.k_cond ?_; first | (refine Cw.cond_dec rfl ?_ ?_ <;> intro hc <;> try omega) | refine Cw.cond_bool rfl ?_ ?_ <;> intro hc) | (refine Ops.k_calla ?_; first | (refine Ops.k_callf 32 ?_; refine Ops.callV o4 (Evs.cons rfl (Evs.cons rfl (Evs.cons rfl Evs.nil))) rfl ?_)) | (apply OpW.k_call; first | (apply OpW.k_callf 32; exact OpW.callV o4 (Evs.cons rfl (Evs.cons rfl (Evs.cons rfl Evs.nil))))) | refine goR ?_ | refine goP ?_ | apply PSeq.cons | apply PSeq.yes rfl rfl rfl | exact goW | fail)
  all_goals exact Fin.ret (Ent.take goTk) (Outs.one rfl rfl) ⟨rfl, congrArg Tr.int hE.symm⟩

end Lg
end
