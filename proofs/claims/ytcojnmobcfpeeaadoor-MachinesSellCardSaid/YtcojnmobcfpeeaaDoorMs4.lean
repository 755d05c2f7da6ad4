/- A part of the proof of a law of this seat: it adds no condition. By an AI agent. -/
import Derived.Test.YtcojnmobcfpeeaaDoorMs1
set_option linter.all false
set_option maxRecDepth 100000
set_option maxHeartbeats 8000000
namespace Lg
open Go Go.Proofs

theorem indexFunc_tube {l : List Tube} {p : Tube → Bool} {g : Nat} {caps : List Value} {cin : List Chunk} (hl : l.length ≤ 1000000000)
  (hs : ∀ x, x ∈ l → Spec Tryd.prog g ([Tr.agg x.row] ++ caps.map Tr.raw) cin (fun r cs => r = Tr.bool (p x) ∧ cs = cin)) :
  Spec Tryd.prog 56 [Tr.sl 3 (l.map Tube.row), Tr.raw (.func (.func g) #[] caps.toArray)] cin (fun r cs => r = Tr.int (idxFrom p l 0) ∧ cs = cin) := by
 refine Spec.body Tryd.func56 rfl rfl (Tryd.ntmps56) rfl fun w0 own0 M => ?_
 have hL : (l.map Tube.row).length = l.length := List.length_map _
 repeat' (first | refine goH ?_ | refine goV ?_ | refine goB (fun b => ?_) | refine goC (fun ad cap => ?_) | refine goG ?_ | (refine Ops.k_guard ?_; first | (refine Ops.guard_dec rfl rfl ?_ ?_ <;> intro hc <;> try omega) | refine Ops.guard_split rfl rfl ?_ ?_ <;> intro hc) | refine goI ?_ | (refine Cw.k_cond ?_; first | (refine Cw.cond_dec rfl ?_ ?_ <;> intro hc <;> try omega) | refine Cw.cond_bool rfl ?_ ?_ <;> intro hc) | refine goR ?_ | refine goP ?_ | apply PSeq.cons | apply PSeq.yes rfl rfl rfl | exact goW | fail)
 refine Cw.loop (ι := Nat) (fun k => k ≤ l.length ∧ idxFrom p l 0 = idxFrom p (l.drop k) k) (fun k => [(0, Tr.sl 3 (l.map Tube.row)), (1, Tr.raw (.func (.func g) #[] caps.toArray)), (7, .int (l.map Tube.row).length), (8, .int k)]) (fun _ => cin) (fun k => l.length - k) ⟨0, ⟨by omega, rfl⟩, Ent.sub goSub⟩ ?_
 rintro k ⟨hk, hgo⟩
 by_cases hkl : k < l.length
 ·obtain ⟨x, hx⟩ : ∃ x, l[k]? = some x := ⟨_, List.getElem?_eq_getElem hkl⟩
  have hrow : (l.map Tube.row)[k]? = some [.int x.val, .int x.cnt, .int x.most] := rows_at hx
  have hdrop := idxFrom_drop p hx
  rw [hdrop] at hgo
  have hsx := hs x (List.mem_of_getElem? hx)
  by_cases hp : p x = true
  ·rw [if_pos hp] at hgo
   rw [hp] at hsx
   repeat' (first | refine goH ?_ | refine goV ?_ | refine goB (fun b => ?_) | refine goC (fun ad cap => ?_) | refine goG ?_ | (refine Ops.k_guard ?_; first | (refine Ops.guard_dec rfl rfl ?_ ?_ <;> intro hc <;> try omega) | refine Ops.guard_split rfl rfl ?_ ?_ <;> intro hc) | refine goI ?_ | (refine Cw.k_cond ?_; first | (refine Cw.cond_dec rfl ?_ ?_ <;> intro hc <;> try omega) | refine Cw.cond_bool rfl ?_ ?_ <;> intro hc) | (refine Ops.k_calla ?_; first | (refine Ops.call_fn rfl hsx (Evs.cons rfl Evs.nil) (by rw [List.append_nil]) rfl ?_; rintro r cs' ⟨rfl, hcs⟩; rw [hcs, List.append_nil])) | refine goR ?_ | refine goP ?_ | apply PSeq.cons | apply PSeq.yes rfl rfl rfl | exact goW | fail)
   exact Fin.ret Ent.refl (Outs.one rfl rfl) ⟨by rw [hgo], rfl⟩
  ·rw [if_neg hp] at hgo
   rw [Bool.not_eq_true] at hp
   rw [hp] at hsx
   repeat' (first | refine goH ?_ | refine goV ?_ | refine goB (fun b => ?_) | refine goC (fun ad cap => ?_) | refine goG ?_ | (refine Ops.k_guard ?_; first | (refine Ops.guard_dec rfl rfl ?_ ?_ <;> intro hc <;> try omega) | refine Ops.guard_split rfl rfl ?_ ?_ <;> intro hc) | refine goI ?_ | (refine Cw.k_cond ?_; first | (refine Cw.cond_dec rfl ?_ ?_ <;> intro hc <;> try omega) | refine Cw.cond_bool rfl ?_ ?_ <;> intro hc) | (refine Ops.k_calla ?_; first | (refine Ops.call_fn rfl hsx (Evs.cons rfl Evs.nil) (by rw [List.append_nil]) rfl ?_; rintro r cs' ⟨rfl, hcs⟩; rw [hcs, List.append_nil])) | refine goR ?_ | refine goP ?_ | apply PSeq.cons | apply PSeq.yes rfl rfl rfl | exact goW | fail)
   exact ⟨k + 1, ⟨by omega, hgo⟩, by omega, Ent.sub goSub⟩
 ·rw [List.drop_eq_nil_of_le (by omega), idxFrom] at hgo
  repeat' (first | refine goH ?_ | refine goV ?_ | refine goB (fun b => ?_) | refine goC (fun ad cap => ?_) | refine goG ?_ | (refine Ops.k_guard ?_; first | (refine Ops.guard_dec rfl rfl ?_ ?_ <;> intro hc <;> try omega) | refine Ops.guard_split rfl rfl ?_ ?_ <;> intro hc) | refine goI ?_ | (refine Cw.k_cond ?_; first | (refine Cw.cond_dec rfl ?_ ?_ <;> intro hc <;> try omega) | refine Cw.cond_bool rfl ?_ ?_ <;> intro hc) | refine goR ?_ | refine goP ?_ | apply PSeq.cons | apply PSeq.yes rfl rfl rfl | exact goW | fail)
  exact Fin.ret Ent.refl (Outs.one rfl rfl) ⟨by rw [hgo], rfl⟩

theorem containsFunc_tube {l : List Tube} {p : Tube → Bool} {g : Nat} {caps : List Value} {cin : List Chunk} (hl : l.length ≤ 1000000000)
  (hs : ∀ x, x ∈ l → Spec Tryd.prog g ([Tr.agg x.row] ++ caps.map Tr.raw) cin (fun r cs => r = Tr.bool (p x) ∧ cs = cin)) :
  Spec Tryd.prog 46 [Tr.sl 3 (l.map Tube.row), Tr.raw (.func (.func g) #[] caps.toArray)] cin (fun r cs => r = Tr.bool (l.any p) ∧ cs = cin) := by
 refine Spec.body Tryd.func46 rfl rfl (Tryd.ntmps46) rfl fun w0 own0 M => ?_
 repeat' (first | refine goH ?_ | refine goV ?_ | refine goB (fun b => ?_) | refine goC (fun ad cap => ?_) | refine goG ?_ | (refine Ops.k_guard ?_; first | (refine Ops.guard_dec rfl rfl ?_ ?_ <;> intro hc <;> try omega) | refine Ops.guard_split rfl rfl ?_ ?_ <;> intro hc) | refine goI ?_ | (refine Cw.k_cond ?_; first | (refine Cw.cond_dec rfl ?_ ?_ <;> intro hc <;> try omega) | refine Cw.cond_bool rfl ?_ ?_ <;> intro hc) | (refine Ops.k_calla ?_; first | (refine Ops.k_callf 56 ?_; (refine Ops.call (indexFunc_tube hl hs) (Evs.cons rfl (Evs.cons rfl Evs.nil)) (by rw [List.append_nil]) rfl ?_; rintro r cs' ⟨rfl, hcs⟩; rw [hcs, List.append_nil]))) | refine goR ?_ | refine goP ?_ | apply PSeq.cons | apply PSeq.yes rfl rfl rfl | exact goW | fail)
 refine Fin.ret Ent.refl (Outs.one rfl rfl) ⟨congrArg Tr.bool ?_, rfl⟩
 have := idxFrom_ge p l 0 (Int.le_refl _)
 by_cases h : 0 ≤ idxFrom p l 0
 ·simp [h, this.1 h]
 ·have h2 : l.any p = false := by rw [← Bool.not_eq_true]; exact fun e => h (this.2 e)
  simp [h, h2]

theorem cfgC_fn (d : Tube) (b : Nat) (T : List Tube) (K : List Int) (S : List SlotM) (H : Int) (hK : K.length ≤ 20) : Spec Tryd.prog 47 [.agg d.row, .ptr b] [Chunk.box b 29 [.tubes T, .ints K, .slots S, .int H]] (fun r cs => r = .bool (!decide (d.val ∈ K)) ∧ cs = [Chunk.box b 29 [.tubes T, .ints K, .slots S, .int H]]) := by
 have k := contains_fn K d.val (by omega)
 unfold Tube.row
 generalize decide (d.val ∈ K) = v at *
 refine Spec.body Tryd.func47 rfl rfl (Tryd.ntmps47) rfl fun w0 own0 M => ?_
 repeat' (first | refine goH ?_ | refine goV ?_ | refine goB (fun b => ?_) | refine goC (fun ad cap => ?_) | refine goG ?_ | (refine Ops.k_guard ?_; first | (refine Ops.guard_dec rfl rfl ?_ ?_ <;> intro hc <;> try omega) | refine Ops.guard_split rfl rfl ?_ ?_ <;> intro hc) | refine goI ?_ | (refine Cw.k_cond ?_; first | (refine Cw.cond_dec rfl ?_ ?_ <;> intro hc <;> try omega) | refine Cw.cond_bool rfl ?_ ?_ <;> intro hc) | (refine Ops.k_calla ?_; first | (refine Ops.k_callf 39 ?_; refine Ops.callV k (Evs.cons rfl (Evs.cons rfl Evs.nil)) rfl ?_)) | (apply OpW.k_call; first | (apply OpW.k_callf 39; exact OpW.callV k (Evs.cons rfl (Evs.cons rfl Evs.nil)))) | refine goR ?_ | refine goP ?_ | apply PSeq.cons | apply PSeq.yes rfl rfl rfl | exact goW | fail)
 exact Fin.ret (Ent.take (Take.cons goPk Take.nil)) (Outs.one rfl rfl) ⟨rfl, rfl⟩
attribute [local irreducible] intRows

theorem checkConfig_fn (T : List Tube) (K : List Int) (S : List SlotM) (H : Int) : PFn Tryd.prog 7 [.cfg T K S H] (· = .int (cfgE T K S H)) := by
 have hT := checkTubes_fn T
 obtain ⟨p1, p2, p3, p4, p5, p6, p7, p8⟩ := cfgP T K S H
 generalize cfgE T K S H = e0 at *
 have hLT : (T.map Tube.row).length = T.length := List.length_map _
 have hLS : (S.map SlotM.row).length = S.length := List.length_map _
 have hLK : (intRows K).length = K.length := intRows_len K
 refine PFn.mk (Spec.body Tryd.func7 rfl rfl (Tryd.ntmps7) rfl fun w0 own0 M => ?_)
 by_cases h1 : tubesErr T ≠ 0
 ·have hE := p1 _ rfl h1
  clear p1 p2 p3 p4 p5 p6 p7 p8
  generalize tubesErr T = e at *
  repeat' (first | refine goH ?_ | refine goV ?_ | refine goB (fun b => ?_) | refine goC (fun ad cap => ?_) | refine goG ?_ | (refine Ops.k_guard ?_; first | (refine Ops.guard_dec rfl rfl ?_ ?_ <;> intro hc <;> try omega) | refine Ops.guard_split rfl rfl ?_ ?_ <;> intro hc) | refine goI ?_ | (refine Cw.k_cond ?_; first | (refine Cw.cond_dec rfl ?_ ?_ <;> intro hc <;> try omega) | refine Cw.cond_bool rfl ?_ ?_ <;> intro hc) | (refine Ops.k_calla ?_; first | (refine Ops.k_callf 44 ?_; refine Ops.callV hT (Evs.cons rfl Evs.nil) rfl ?_)) | (apply OpW.k_call; first | (apply OpW.k_callf 44; exact OpW.callV hT (Evs.cons rfl Evs.nil))) | refine goR ?_ | refine goP ?_ | apply PSeq.cons | apply PSeq.yes rfl rfl rfl | exact goW | fail)
  exact Fin.ret (Ent.take goTk) (Outs.one rfl rfl) ⟨rfl, congrArg Tr.int hE.symm⟩
 replace h1 : tubesErr T = 0 := by omega
 have hto := (tubesErr_ok h1).len
 rw [h1] at hT
 clear p1
 by_cases h2 : 20 < K.length
 ·have hE := p2 h1 h2
  clear p2 p3 p4 p5 p6 p7 p8
  repeat' (first | refine goH ?_ | refine goV ?_ | refine goB (fun b => ?_) | refine goC (fun ad cap => ?_) | refine goG ?_ | (refine Ops.k_guard ?_; first | (refine Ops.guard_dec rfl rfl ?_ ?_ <;> intro hc <;> try omega) | refine Ops.guard_split rfl rfl ?_ ?_ <;> intro hc) | refine goI ?_ | (refine Cw.k_cond ?_; first | (refine Cw.cond_dec rfl ?_ ?_ <;> intro hc <;> try omega) | refine Cw.cond_bool rfl ?_ ?_ <;> intro hc) | (refine Ops.k_calla ?_; first | (refine Ops.k_callf 44 ?_; refine Ops.callV hT (Evs.cons rfl Evs.nil) rfl ?_)) | (apply OpW.k_call; first | (apply OpW.k_callf 44; exact OpW.callV hT (Evs.cons rfl Evs.nil))) | refine goR ?_ | refine goP ?_ | apply PSeq.cons | apply PSeq.yes rfl rfl rfl | exact goW | fail)
  exact Fin.ret (Ent.take goTk) (Outs.one rfl rfl) ⟨rfl, congrArg Tr.int hE.symm⟩
 clear p2
 replace p3 := p3 h1 h2
 replace p4 := p4 h1 h2
 replace p5 := p5 h1 h2
 replace p6 := p6 h1 h2
 replace p7 := p7 h1 h2
 replace p8 := p8 h1 h2
 repeat' (first | refine goH ?_ | refine goV ?_ | refine goB (fun b => ?_) | refine goC (fun ad cap => ?_) | refine goG ?_ | (refine Ops.k_guard ?_; first | (refine Ops.guard_dec rfl rfl ?_ ?_ <;> intro hc <;> try omega) | refine Ops.guard_split rfl rfl ?_ ?_ <;> intro hc) | refine goI ?_ | (refine Cw.k_cond ?_; first | (refine Cw.cond_dec rfl ?_ ?_ <;> intro hc <;> try omega) | refine Cw.cond_bool rfl ?_ ?_ <;> intro hc) | (refine Ops.k_calla ?_; first | (refine Ops.k_callf 44 ?_; refine Ops.callV hT (Evs.cons rfl Evs.nil) rfl ?_)) | (apply OpW.k_call; first | (apply OpW.k_callf 44; exact OpW.callV hT (Evs.cons rfl Evs.nil))) | refine goR ?_ | refine goP ?_ | apply PSeq.cons | apply PSeq.yes rfl rfl rfl | exact goW | fail)
 clear hT h1
 refine Cw.loopI [(1, _), (19, _), (20, _)] _ (fun n e c => ∃ k : Nat, n = K.length - k ∧ (k ≤ K.length ∧ firstE (tkE K) 0 K.length = firstE (tkE K) k (K.length - k)) ∧ e = [(21, .int k)] ∧ c = []) ⟨_, _, _, (Ent.mkP goSub goPm), 0, rfl, ⟨by omega, rfl⟩, rfl, rfl⟩ ?_
 rintro _ _ _ ⟨k, rfl, ⟨hk, hV⟩, rfl, rfl⟩
 by_cases hkl : k < K.length
 ·obtain ⟨x, hx⟩ := at_lt hkl
  have hrow : (intRows K)[k]? = some [.int x] := intRows_at hx
  have o1 := out_fn x 1 20000
  by_cases g1 : x < 1 ∨ 20000 < x
  ·have hE := p3 1 (hV.trans (firstE_bad hkl (by simp only [tkE, hx]; rw [if_pos g1]) (by decide))) (by decide)
   rw [show outB x 1 20000 = true by simp [outB]; omega] at o1
   clear p3 p4 p5 p6 p7 p8 hV
   repeat' (first | refine goH ?_ | refine goV ?_ | refine goB (fun b => ?_) | refine goC (fun ad cap => ?_) | refine goG ?_ | (refine Ops.k_guard ?_; first | (refine Ops.guard_dec rfl rfl ?_ ?_ <;> intro hc <;> try omega) | refine Ops.guard_split rfl rfl ?_ ?_ <;> intro hc) | refine goI ?_ | (refine Cw.k_cond ?_; first | (refine Cw.cond_dec rfl ?_ ?_ <;> intro hc <;> try omega) | refine Cw.cond_bool rfl ?_ ?_ <;> intro hc) | (refine Ops.k_calla ?_; first | (refine Ops.k_callf 45 ?_; refine Ops.callV o1 (Evs.cons rfl (Evs.cons rfl (Evs.cons rfl Evs.nil))) rfl ?_)) | (apply OpW.k_call; first | (apply OpW.k_callf 45; exact OpW.callV o1 (Evs.cons rfl (Evs.cons rfl (Evs.cons rfl Evs.nil))))) | refine goR ?_ | refine goP ?_ | apply PSeq.cons | apply PSeq.yes rfl rfl rfl | exact goW | fail)
   all_goals exact Fin.ret (Ent.take goTk) (Outs.one rfl rfl) ⟨rfl, congrArg Tr.int hE.symm⟩
  rw [show outB x 1 20000 = false by simp [outB]; omega] at o1
  cases k with
  |zero =>
   have hN := hV.trans (firstE_ok hkl (by simp only [tkE, hx]; rw [if_neg g1]; rfl))
   clear p3 p4 p5 p6 p7 p8 hV
   repeat' (first | refine goH ?_ | refine goV ?_ | refine goB (fun b => ?_) | refine goC (fun ad cap => ?_) | refine goG ?_ | (refine Ops.k_guard ?_; first | (refine Ops.guard_dec rfl rfl ?_ ?_ <;> intro hc <;> try omega) | refine Ops.guard_split rfl rfl ?_ ?_ <;> intro hc) | refine goI ?_ | (refine Cw.k_cond ?_; first | (refine Cw.cond_dec rfl ?_ ?_ <;> intro hc <;> try omega) | refine Cw.cond_bool rfl ?_ ?_ <;> intro hc) | (refine Ops.k_calla ?_; first | (refine Ops.k_callf 45 ?_; refine Ops.callV o1 (Evs.cons rfl (Evs.cons rfl (Evs.cons rfl Evs.nil))) rfl ?_)) | (apply OpW.k_call; first | (apply OpW.k_callf 45; exact OpW.callV o1 (Evs.cons rfl (Evs.cons rfl (Evs.cons rfl Evs.nil))))) | refine goR ?_ | refine goP ?_ | apply PSeq.cons | apply PSeq.yes rfl rfl rfl | exact goW | fail)
   all_goals exact ⟨_, _, _, (Ent.mk goSub goTk), ⟨1, rfl, ⟨by omega, hN⟩, rfl, rfl⟩, by omega⟩
  |succ j =>
   obtain ⟨y, hy⟩ := at_lt (l := K) (k := j) (by omega)
   have hrow2 : (intRows K)[(((j + 1 : Nat) : Int) - 1).toNat]? = some [.int y] := by rw [show (((j + 1 : Nat) : Int) - 1).toNat = j by omega]; exact intRows_at hy
   by_cases g2 : x ≤ y
   ·have hE := p3 7 (hV.trans (firstE_bad hkl (by simp only [tkE, hx, prevB, hy]; rw [if_neg g1, if_pos (decide_eq_true g2)]) (by decide))) (by decide)
    clear p3 p4 p5 p6 p7 p8 hV
    repeat' (first | refine goH ?_ | refine goV ?_ | refine goB (fun b => ?_) | refine goC (fun ad cap => ?_) | refine goG ?_ | (refine Ops.k_guard ?_; first | (refine Ops.guard_dec rfl rfl ?_ ?_ <;> intro hc <;> try omega) | refine Ops.guard_split rfl rfl ?_ ?_ <;> intro hc) | refine goI ?_ | (refine Cw.k_cond ?_; first | (refine Cw.cond_dec rfl ?_ ?_ <;> intro hc <;> try omega) | refine Cw.cond_bool rfl ?_ ?_ <;> intro hc) | (refine Ops.k_calla ?_; first | (refine Ops.k_callf 45 ?_; refine Ops.callV o1 (Evs.cons rfl (Evs.cons rfl (Evs.cons rfl Evs.nil))) rfl ?_)) | (apply OpW.k_call; first | (apply OpW.k_callf 45; exact OpW.callV o1 (Evs.cons rfl (Evs.cons rfl (Evs.cons rfl Evs.nil))))) | refine goR ?_ | refine goP ?_ | apply PSeq.cons | apply PSeq.yes rfl rfl rfl | exact goW | fail)
    all_goals exact Fin.ret (Ent.take goTk) (Outs.one rfl rfl) ⟨rfl, congrArg Tr.int hE.symm⟩
   ·have hN := hV.trans (firstE_ok hkl (by simp only [tkE, hx, prevB, hy]; rw [if_neg g1, if_neg (by simpa using g2)]))
    clear p3 p4 p5 p6 p7 p8 hV
    repeat' (first | refine goH ?_ | refine goV ?_ | refine goB (fun b => ?_) | refine goC (fun ad cap => ?_) | refine goG ?_ | (refine Ops.k_guard ?_; first | (refine Ops.guard_dec rfl rfl ?_ ?_ <;> intro hc <;> try omega) | refine Ops.guard_split rfl rfl ?_ ?_ <;> intro hc) | refine goI ?_ | (refine Cw.k_cond ?_; first | (refine Cw.cond_dec rfl ?_ ?_ <;> intro hc <;> try omega) | refine Cw.cond_bool rfl ?_ ?_ <;> intro hc) | (refine Ops.k_calla ?_; first | (refine Ops.k_callf 45 ?_; refine Ops.callV o1 (Evs.cons rfl (Evs.cons rfl (Evs.cons rfl Evs.nil))) rfl ?_)) | (apply OpW.k_call; first | (apply OpW.k_callf 45; exact OpW.callV o1 (Evs.cons rfl (Evs.cons rfl (Evs.cons rfl Evs.nil))))) | refine goR ?_ | refine goP ?_ | apply PSeq.cons | apply PSeq.yes rfl rfl rfl | exact goW | fail)
    all_goals exact ⟨_, _, _, (Ent.mk goSub goTk), ⟨_, rfl, ⟨by omega, hN⟩, rfl, rfl⟩, by omega⟩
 rw [firstE_end hkl] at hV
 clear p3
 replace p4 := p4 hV
 replace p5 := p5 hV
 replace p6 := p6 hV
 replace p7 := p7 hV
 replace p8 := p8 hV
 have kC := fun v => contains_fn K v (by omega)
 have kA := fun b => containsFunc_tube (cin := [Chunk.box b 29 [.tubes T, .ints K, .slots S, .int H]]) (caps := [.pointer (some ⟨b, 0, none⟩)]) (g := 47) (p := fun d => !decide (d.val ∈ K)) (l := T) (by omega) (fun d _ => cfgC_fn d b T K S H (by omega))
 by_cases h4 : T.any (fun d => !decide (d.val ∈ K)) = true ∨ S.length = 0
 ·have hE := p4 h4
  clear p4 p5 p6 p7 p8
  generalize T.any (fun d => !decide (d.val ∈ K)) = v at *
  repeat' (first | refine goH ?_ | refine goV ?_ | refine goB (fun b => ?_) | refine goC (fun ad cap => ?_) | refine goG ?_ | (refine Ops.k_guard ?_; first | (refine Ops.guard_dec rfl rfl ?_ ?_ <;> intro hc <;> try omega) | refine Ops.guard_split rfl rfl ?_ ?_ <;> intro hc) | refine goI ?_ | (refine Cw.k_cond ?_; first | (refine Cw.cond_dec rfl ?_ ?_ <;> intro hc <;> try omega) | refine Cw.cond_bool rfl ?_ ?_ <;> intro hc) | (refine Ops.k_calla ?_; first | (refine Ops.k_callf 46 ?_; refine Ops.callS (kA _) (Evs.cons rfl (Evs.cons rfl Evs.nil)) goPk rfl ?_)) | (apply OpW.k_call; first | (apply OpW.k_callf 46; exact OpW.callS (kA _) (Evs.cons rfl (Evs.cons rfl Evs.nil)) goPk)) | refine goR ?_ | refine goP ?_ | apply PSeq.cons | apply PSeq.yes rfl rfl rfl | exact goW | fail)
  all_goals (try simp only [Bool.not_eq_true] at *)
  all_goals first | exact Fin.ret (Ent.take goTk) (Outs.one rfl rfl) ⟨rfl, congrArg Tr.int hE.symm⟩ | (exfalso; simp_all; done)
 obtain ⟨h4a, h4b⟩ := not_or.1 h4
 rw [Bool.not_eq_true] at h4a
 rw [h4a] at kA
 by_cases h5 : 60 < S.length
 ·have hE := p5 h4 h5
  clear p4 p5 p6 p7 p8
  repeat' (first | refine goH ?_ | refine goV ?_ | refine goB (fun b => ?_) | refine goC (fun ad cap => ?_) | refine goG ?_ | (refine Ops.k_guard ?_; first | (refine Ops.guard_dec rfl rfl ?_ ?_ <;> intro hc <;> try omega) | refine Ops.guard_split rfl rfl ?_ ?_ <;> intro hc) | refine goI ?_ | (refine Cw.k_cond ?_; first | (refine Cw.cond_dec rfl ?_ ?_ <;> intro hc <;> try omega) | refine Cw.cond_bool rfl ?_ ?_ <;> intro hc) | (refine Ops.k_calla ?_; first | (refine Ops.k_callf 46 ?_; refine Ops.callS (kA _) (Evs.cons rfl (Evs.cons rfl Evs.nil)) goPk rfl ?_)) | (apply OpW.k_call; first | (apply OpW.k_callf 46; exact OpW.callS (kA _) (Evs.cons rfl (Evs.cons rfl Evs.nil)) goPk)) | refine goR ?_ | refine goP ?_ | apply PSeq.cons | apply PSeq.yes rfl rfl rfl | exact goW | fail)
  exact Fin.ret (Ent.take goTk) (Outs.one rfl rfl) ⟨rfl, congrArg Tr.int hE.symm⟩
 replace p6 := p6 h4 h5
 replace p7 := p7 h4 h5
 replace p8 := p8 h4 h5
 clear p4 p5 h4
 repeat' (first | refine goH ?_ | refine goV ?_ | refine goB (fun b => ?_) | refine goC (fun ad cap => ?_) | refine goG ?_ | (refine Ops.k_guard ?_; first | (refine Ops.guard_dec rfl rfl ?_ ?_ <;> intro hc <;> try omega) | refine Ops.guard_split rfl rfl ?_ ?_ <;> intro hc) | refine goI ?_ | (refine Cw.k_cond ?_; first | (refine Cw.cond_dec rfl ?_ ?_ <;> intro hc <;> try omega) | refine Cw.cond_bool rfl ?_ ?_ <;> intro hc) | (refine Ops.k_calla ?_; first | (refine Ops.k_callf 46 ?_; refine Ops.callS (kA _) (Evs.cons rfl (Evs.cons rfl Evs.nil)) goPk rfl ?_)) | (apply OpW.k_call; first | (apply OpW.k_callf 46; exact OpW.callS (kA _) (Evs.cons rfl (Evs.cons rfl Evs.nil)) goPk)) | refine goR ?_ | refine goP ?_ | apply PSeq.cons | apply PSeq.yes rfl rfl rfl | exact goW | fail)
 clear kA kC
 refine Cw.loopI [(1, _), (56, _), (57, _)] _ (fun n e c => ∃ k : Nat, n = S.length - k ∧ (k ≤ S.length ∧ firstE (sltE S) 0 S.length = firstE (sltE S) k (S.length - k)) ∧ e = [(58, .int k)] ∧ c = []) ⟨_, _, _, (Ent.mkP goSub goPm), 0, rfl, ⟨by omega, rfl⟩, rfl, rfl⟩ ?_
 clear hV hkl hk
 rintro _ _ _ ⟨k, rfl, ⟨hk, hV⟩, rfl, rfl⟩
 by_cases hkl : k < S.length
 ·obtain ⟨x, hx⟩ := at_lt hkl
  have hrow : (S.map SlotM.row)[k]? = some [.str x.key, .str x.prod, .int x.price, .int x.most, .int x.cnt] := rows_at hx
  have k1 := key_fn x.key
  have k2 := key_fn x.prod
  have o1 := out_fn x.price 1 20000
  have o2 := out_fn x.most 0 1000
  have o3 := out_fn x.cnt 0 x.most
  have hbad : ∀ c : Int, sltE S k = c → c ≠ 0 → e0 = c := fun c h1 h2 => p6 c (hV.trans (firstE_bad hkl h1 h2)) h2
  have hgood : sltE S k = 0 → firstE (sltE S) 0 S.length = firstE (sltE S) (k + 1) (S.length - (k + 1)) := fun he => hV.trans (firstE_ok hkl he)
  clear p6 p7 p8 hV
  by_cases g1 : isKey x.key = false
  ·have hE := hbad 5 (by simp only [sltE, hx]; rw [if_pos g1]) (by decide)
   rw [g1] at k1
   repeat' (first | refine goH ?_ | refine goV ?_ | refine goB (fun b => ?_) | refine goC (fun ad cap => ?_) | refine goG ?_ | (refine Ops.k_guard ?_; first | (refine Ops.guard_dec rfl rfl ?_ ?_ <;> intro hc <;> try omega) | refine Ops.guard_split rfl rfl ?_ ?_ <;> intro hc) | refine goI ?_ | (refine Cw.k_cond ?_; first | (refine Cw.cond_dec rfl ?_ ?_ <;> intro hc <;> try omega) | refine Cw.cond_bool rfl ?_ ?_ <;> intro hc) | (refine Ops.k_calla ?_; first | (refine Ops.k_callf 48 ?_; refine Ops.callV k1 (Evs.cons rfl Evs.nil) rfl ?_)) | (apply OpW.k_call; first | (apply OpW.k_callf 48; exact OpW.callV k1 (Evs.cons rfl Evs.nil))) | refine goR ?_ | refine goP ?_ | apply PSeq.cons | apply PSeq.yes rfl rfl rfl | exact goW | fail)
   exact Fin.ret (Ent.take goTk) (Outs.one rfl rfl) ⟨rfl, congrArg Tr.int hE.symm⟩
  replace g1 : isKey x.key = true := by simpa using g1
  rw [g1] at k1
  have g1' : ¬ isKey x.key = false := by simp [g1]
  cases k with
  |zero =>
   have he : sltE S 0 = sltErr x := by simp only [sltE, hx]; rw [if_neg g1']; rfl
   by_cases g3 : isKey x.prod = false
   ·have hE := hbad 5 (by rw [he]; unfold sltErr; rw [if_pos g3]) (by decide)
    rw [g3] at k2
    repeat' (first | refine goH ?_ | refine goV ?_ | refine goB (fun b => ?_) | refine goC (fun ad cap => ?_) | refine goG ?_ | (refine Ops.k_guard ?_; first | (refine Ops.guard_dec rfl rfl ?_ ?_ <;> intro hc <;> try omega) | refine Ops.guard_split rfl rfl ?_ ?_ <;> intro hc) | refine goI ?_ | (refine Cw.k_cond ?_; first | (refine Cw.cond_dec rfl ?_ ?_ <;> intro hc <;> try omega) | refine Cw.cond_bool rfl ?_ ?_ <;> intro hc) | (refine Ops.k_calla ?_; first | (refine Ops.k_callf 48 ?_; refine Ops.callV k1 (Evs.cons rfl Evs.nil) rfl ?_) | (refine Ops.k_callf 48 ?_; refine Ops.callV k2 (Evs.cons rfl Evs.nil) rfl ?_)) | (apply OpW.k_call; first | (apply OpW.k_callf 48; exact OpW.callV k1 (Evs.cons rfl Evs.nil)) | (apply OpW.k_callf 48; exact OpW.callV k2 (Evs.cons rfl Evs.nil))) | refine goR ?_ | refine goP ?_ | apply PSeq.cons | apply PSeq.yes rfl rfl rfl | exact goW | fail)
    all_goals first | exact Fin.ret (Ent.take goTk) (Outs.one rfl rfl) ⟨rfl, congrArg Tr.int hE.symm⟩ | (exfalso; simp_all; done)
   have g3' := g3
   replace g3 : isKey x.prod = true := by simpa using g3
   rw [g3] at k2
   by_cases g4 : x.price < 1 ∨ 20000 < x.price ∨ x.most < 0 ∨ 1000 < x.most ∨ x.cnt < 0 ∨ x.most < x.cnt
   ·have hE := hbad 1 (by rw [he]; unfold sltErr; rw [if_neg g3', if_pos g4]) (by decide)
    clear hbad hgood
    repeat' (first | refine goH ?_ | refine goV ?_ | refine goB (fun b => ?_) | refine goC (fun ad cap => ?_) | refine goG ?_ | (refine Ops.k_guard ?_; first | (refine Ops.guard_dec rfl rfl ?_ ?_ <;> intro hc <;> try omega) | refine Ops.guard_split rfl rfl ?_ ?_ <;> intro hc) | refine goI ?_ | (refine Cw.k_cond ?_; first | (refine Cw.cond_dec rfl ?_ ?_ <;> intro hc <;> try omega) | refine Cw.cond_bool rfl ?_ ?_ <;> intro hc) | (refine Ops.k_calla ?_; first | (refine Ops.k_callf 48 ?_; refine Ops.callV k1 (Evs.cons rfl Evs.nil) rfl ?_) | (refine Ops.k_callf 48 ?_; refine Ops.callV k2 (Evs.cons rfl Evs.nil) rfl ?_) | (refine Ops.k_callf 45 ?_; refine Ops.callV o1 (Evs.cons rfl (Evs.cons rfl (Evs.cons rfl Evs.nil))) rfl ?_) | (refine Ops.k_callf 45 ?_; refine Ops.callV o2 (Evs.cons rfl (Evs.cons rfl (Evs.cons rfl Evs.nil))) rfl ?_) | (refine Ops.k_callf 45 ?_; refine Ops.callV o3 (Evs.cons rfl (Evs.cons rfl (Evs.cons rfl Evs.nil))) rfl ?_)) | (apply OpW.k_call; first | (apply OpW.k_callf 48; exact OpW.callV k1 (Evs.cons rfl Evs.nil)) | (apply OpW.k_callf 48; exact OpW.callV k2 (Evs.cons rfl Evs.nil)) | (apply OpW.k_callf 45; exact OpW.callV o1 (Evs.cons rfl (Evs.cons rfl (Evs.cons rfl Evs.nil)))) | (apply OpW.k_callf 45; exact OpW.callV o2 (Evs.cons rfl (Evs.cons rfl (Evs.cons rfl Evs.nil)))) | (apply OpW.k_callf 45; exact OpW.callV o3 (Evs.cons rfl (Evs.cons rfl (Evs.cons rfl Evs.nil))))) | refine goR ?_ | refine goP ?_ | apply PSeq.cons | apply PSeq.yes rfl rfl rfl | exact goW | fail)
    all_goals (try simp only [outB_eq, outB_f, Bool.not_eq_true] at *)
    all_goals first | exact Fin.ret (Ent.take goTk) (Outs.one rfl rfl) ⟨rfl, congrArg Tr.int hE.symm⟩ | (exfalso; omega) | (exfalso; simp_all; done)
   ·have hN := hgood (by rw [he]; unfold sltErr; rw [if_neg g3', if_neg g4])
    rw [show outB x.price 1 20000 = false by simp [outB]; omega] at o1
    rw [show outB x.most 0 1000 = false by simp [outB]; omega] at o2
    rw [show outB x.cnt 0 x.most = false by simp [outB]; omega] at o3
    clear hbad hgood
    repeat' (first | refine goH ?_ | refine goV ?_ | refine goB (fun b => ?_) | refine goC (fun ad cap => ?_) | refine goG ?_ | (refine Ops.k_guard ?_; first | (refine Ops.guard_dec rfl rfl ?_ ?_ <;> intro hc <;> try omega) | refine Ops.guard_split rfl rfl ?_ ?_ <;> intro hc) | refine goI ?_ | (refine Cw.k_cond ?_; first | (refine Cw.cond_dec rfl ?_ ?_ <;> intro hc <;> try omega) | refine Cw.cond_bool rfl ?_ ?_ <;> intro hc) | (refine Ops.k_calla ?_; first | (refine Ops.k_callf 48 ?_; refine Ops.callV k1 (Evs.cons rfl Evs.nil) rfl ?_) | (refine Ops.k_callf 48 ?_; refine Ops.callV k2 (Evs.cons rfl Evs.nil) rfl ?_) | (refine Ops.k_callf 45 ?_; refine Ops.callV o1 (Evs.cons rfl (Evs.cons rfl (Evs.cons rfl Evs.nil))) rfl ?_) | (refine Ops.k_callf 45 ?_; refine Ops.callV o2 (Evs.cons rfl (Evs.cons rfl (Evs.cons rfl Evs.nil))) rfl ?_) | (refine Ops.k_callf 45 ?_; refine Ops.callV o3 (Evs.cons rfl (Evs.cons rfl (Evs.cons rfl Evs.nil))) rfl ?_)) | (apply OpW.k_call; first | (apply OpW.k_callf 48; exact OpW.callV k1 (Evs.cons rfl Evs.nil)) | (apply OpW.k_callf 48; exact OpW.callV k2 (Evs.cons rfl Evs.nil)) | (apply OpW.k_callf 45; exact OpW.callV o1 (Evs.cons rfl (Evs.cons rfl (Evs.cons rfl Evs.nil)))) | (apply OpW.k_callf 45; exact OpW.callV o2 (Evs.cons rfl (Evs.cons rfl (Evs.cons rfl Evs.nil)))) | (apply OpW.k_callf 45; exact OpW.callV o3 (Evs.cons rfl (Evs.cons rfl (Evs.cons rfl Evs.nil))))) | refine goR ?_ | refine goP ?_ | apply PSeq.cons | apply PSeq.yes rfl rfl rfl | exact goW | fail)
    all_goals first | exact ⟨_, _, _, (Ent.mk goSub goTk), ⟨_, rfl, ⟨by omega, hN⟩, rfl, rfl⟩, by omega⟩ | (exfalso; simp_all; done)
  |succ j =>
   obtain ⟨y, hy⟩ := at_lt (l := S) (k := j) (by omega)
   have hrow2 : (S.map SlotM.row)[(((j + 1 : Nat) : Int) - 1).toNat]? = some [.str y.key, .str y.prod, .int y.price, .int y.most, .int y.cnt] := by rw [show (((j + 1 : Nat) : Int) - 1).toNat = j by omega]; exact rows_at hy
   by_cases g2 : (strLt x.key y.key || decide (x.key = y.key)) = true
   ·have hE := hbad 7 (by simp only [sltE, hx, prevB, hy, strLe]; rw [if_neg g1', if_pos g2]) (by decide)
    repeat' (first | refine goH ?_ | refine goV ?_ | refine goB (fun b => ?_) | refine goC (fun ad cap => ?_) | refine goG ?_ | (refine Ops.k_guard ?_; first | (refine Ops.guard_dec rfl rfl ?_ ?_ <;> intro hc <;> try omega) | refine Ops.guard_split rfl rfl ?_ ?_ <;> intro hc) | refine goI ?_ | (refine Cw.k_cond ?_; first | (refine Cw.cond_dec rfl ?_ ?_ <;> intro hc <;> try omega) | refine Cw.cond_bool rfl ?_ ?_ <;> intro hc) | (refine Ops.k_calla ?_; first | (refine Ops.k_callf 48 ?_; refine Ops.callV k1 (Evs.cons rfl Evs.nil) rfl ?_)) | (apply OpW.k_call; first | (apply OpW.k_callf 48; exact OpW.callV k1 (Evs.cons rfl Evs.nil))) | refine goR ?_ | refine goP ?_ | apply PSeq.cons | apply PSeq.yes rfl rfl rfl | exact goW | fail)
    all_goals first | exact Fin.ret (Ent.take goTk) (Outs.one rfl rfl) ⟨rfl, congrArg Tr.int hE.symm⟩ | (exfalso; simp_all; done)
   have he : sltE S (j + 1) = sltErr x := by simp only [sltE, hx, prevB, hy, strLe]; rw [if_neg g1', if_neg g2]
   rw [Bool.not_eq_true] at g2
   by_cases g3 : isKey x.prod = false
   ·have hE := hbad 5 (by rw [he]; unfold sltErr; rw [if_pos g3]) (by decide)
    rw [g3] at k2
    repeat' (first | refine goH ?_ | refine goV ?_ | refine goB (fun b => ?_) | refine goC (fun ad cap => ?_) | refine goG ?_ | (refine Ops.k_guard ?_; first | (refine Ops.guard_dec rfl rfl ?_ ?_ <;> intro hc <;> try omega) | refine Ops.guard_split rfl rfl ?_ ?_ <;> intro hc) | refine goI ?_ | (refine Cw.k_cond ?_; first | (refine Cw.cond_dec rfl ?_ ?_ <;> intro hc <;> try omega) | refine Cw.cond_bool rfl ?_ ?_ <;> intro hc) | (refine Ops.k_calla ?_; first | (refine Ops.k_callf 48 ?_; refine Ops.callV k1 (Evs.cons rfl Evs.nil) rfl ?_) | (refine Ops.k_callf 48 ?_; refine Ops.callV k2 (Evs.cons rfl Evs.nil) rfl ?_)) | (apply OpW.k_call; first | (apply OpW.k_callf 48; exact OpW.callV k1 (Evs.cons rfl Evs.nil)) | (apply OpW.k_callf 48; exact OpW.callV k2 (Evs.cons rfl Evs.nil))) | refine goR ?_ | refine goP ?_ | apply PSeq.cons | apply PSeq.yes rfl rfl rfl | exact goW | fail)
    all_goals first | exact Fin.ret (Ent.take goTk) (Outs.one rfl rfl) ⟨rfl, congrArg Tr.int hE.symm⟩ | (exfalso; simp_all; done)
   have g3' := g3
   replace g3 : isKey x.prod = true := by simpa using g3
   rw [g3] at k2
   by_cases g4 : x.price < 1 ∨ 20000 < x.price ∨ x.most < 0 ∨ 1000 < x.most ∨ x.cnt < 0 ∨ x.most < x.cnt
   ·have hE := hbad 1 (by rw [he]; unfold sltErr; rw [if_neg g3', if_pos g4]) (by decide)
    clear hbad hgood
    repeat' (first | refine goH ?_ | refine goV ?_ | refine goB (fun b => ?_) | refine goC (fun ad cap => ?_) | refine goG ?_ | (refine Ops.k_guard ?_; first | (refine Ops.guard_dec rfl rfl ?_ ?_ <;> intro hc <;> try omega) | refine Ops.guard_split rfl rfl ?_ ?_ <;> intro hc) | refine goI ?_ | (refine Cw.k_cond ?_; first | (refine Cw.cond_dec rfl ?_ ?_ <;> intro hc <;> try omega) | refine Cw.cond_bool rfl ?_ ?_ <;> intro hc) | (refine Ops.k_calla ?_; first | (refine Ops.k_callf 48 ?_; refine Ops.callV k1 (Evs.cons rfl Evs.nil) rfl ?_) | (refine Ops.k_callf 48 ?_; refine Ops.callV k2 (Evs.cons rfl Evs.nil) rfl ?_) | (refine Ops.k_callf 45 ?_; refine Ops.callV o1 (Evs.cons rfl (Evs.cons rfl (Evs.cons rfl Evs.nil))) rfl ?_) | (refine Ops.k_callf 45 ?_; refine Ops.callV o2 (Evs.cons rfl (Evs.cons rfl (Evs.cons rfl Evs.nil))) rfl ?_) | (refine Ops.k_callf 45 ?_; refine Ops.callV o3 (Evs.cons rfl (Evs.cons rfl (Evs.cons rfl Evs.nil))) rfl ?_)) | (apply OpW.k_call; first | (apply OpW.k_callf 48; exact OpW.callV k1 (Evs.cons rfl Evs.nil)) | (apply OpW.k_callf 48; exact OpW.callV k2 (Evs.cons rfl Evs.nil)) | (apply OpW.k_callf 45; exact OpW.callV o1 (Evs.cons rfl (Evs.cons rfl (Evs.cons rfl Evs.nil)))) | (apply OpW.k_callf 45; exact OpW.callV o2 (Evs.cons rfl (Evs.cons rfl (Evs.cons rfl Evs.nil)))) | (apply OpW.k_callf 45; exact OpW.callV o3 (Evs.cons rfl (Evs.cons rfl (Evs.cons rfl Evs.nil))))) | refine goR ?_ | refine goP ?_ | apply PSeq.cons | apply PSeq.yes rfl rfl rfl | exact goW | fail)
    all_goals (try simp only [outB_eq, outB_f, Bool.not_eq_true] at *)
    all_goals first | exact Fin.ret (Ent.take goTk) (Outs.one rfl rfl) ⟨rfl, congrArg Tr.int hE.symm⟩ | (exfalso; omega) | (exfalso; simp_all; done)
   ·have hN := hgood (by rw [he]; unfold sltErr; rw [if_neg g3', if_neg g4])
    rw [show outB x.price 1 20000 = false by simp [outB]; omega] at o1
    rw [show outB x.most 0 1000 = false by simp [outB]; omega] at o2
    rw [show outB x.cnt 0 x.most = false by simp [outB]; omega] at o3
    clear hbad hgood
    repeat' (first | refine goH ?_ | refine goV ?_ | refine goB (fun b => ?_) | refine goC (fun ad cap => ?_) | refine goG ?_ | (refine Ops.k_guard ?_; first | (refine Ops.guard_dec rfl rfl ?_ ?_ <;> intro hc <;> try omega) | refine Ops.guard_split rfl rfl ?_ ?_ <;> intro hc) | refine goI ?_ | (refine Cw.k_cond ?_; first | (refine Cw.cond_dec rfl ?_ ?_ <;> intro hc <;> try omega) | refine Cw.cond_bool rfl ?_ ?_ <;> intro hc) | (refine Ops.k_calla ?_; first | (refine Ops.k_callf 48 ?_; refine Ops.callV k1 (Evs.cons rfl Evs.nil) rfl ?_) | (refine Ops.k_callf 48 ?_; refine Ops.callV k2 (Evs.cons rfl Evs.nil) rfl ?_) | (refine Ops.k_callf 45 ?_; refine Ops.callV o1 (Evs.cons rfl (Evs.cons rfl (Evs.cons rfl Evs.nil))) rfl ?_) | (refine Ops.k_callf 45 ?_; refine Ops.callV o2 (Evs.cons rfl (Evs.cons rfl (Evs.cons rfl Evs.nil))) rfl ?_) | (refine Ops.k_callf 45 ?_; refine Ops.callV o3 (Evs.cons rfl (Evs.cons rfl (Evs.cons rfl Evs.nil))) rfl ?_)) | (apply OpW.k_call; first | (apply OpW.k_callf 48; exact OpW.callV k1 (Evs.cons rfl Evs.nil)) | (apply OpW.k_callf 48; exact OpW.callV k2 (Evs.cons rfl Evs.nil)) | (apply OpW.k_callf 45; exact OpW.callV o1 (Evs.cons rfl (Evs.cons rfl (Evs.cons rfl Evs.nil)))) | (apply OpW.k_callf 45; exact OpW.callV o2 (Evs.cons rfl (Evs.cons rfl (Evs.cons rfl Evs.nil)))) | (apply OpW.k_callf 45; exact OpW.callV o3 (Evs.cons rfl (Evs.cons rfl (Evs.cons rfl Evs.nil))))) | refine goR ?_ | refine goP ?_ | apply PSeq.cons | apply PSeq.yes rfl rfl rfl | exact goW | fail)
    all_goals first | exact ⟨_, _, _, (Ent.mk goSub goTk), ⟨_, rfl, ⟨by omega, hN⟩, rfl, rfl⟩, by omega⟩ | (exfalso; simp_all; done)
 rw [firstE_end hkl] at hV
 have o4 := out_fn H 1 20000
 by_cases h7 : H < 1 ∨ 20000 < H
 ·have hE := p7 hV h7
  rw [show outB H 1 20000 = true by simp [outB]; omega] at o4
  clear p6 p7 p8
  repeat' (first | refine goH ?_ | refine goV ?_ | refine goB (fun b => ?_) | refine goC (fun ad cap => ?_) | refine goG ?_ | (refine Ops.k_guard ?_; first | (refine Ops.guard_dec rfl rfl ?_ ?_ <;> intro hc <;> try omega) | refine Ops.guard_split rfl rfl ?_ ?_ <;> intro hc) | refine goI ?_ | (refine Cw.k_cond ?_; first | (refine Cw.cond_dec rfl ?_ ?_ <;> intro hc <;> try omega) | refine Cw.cond_bool rfl ?_ ?_ <;> intro hc) | (refine Ops.k_calla ?_; first | (refine Ops.k_callf 45 ?_; refine Ops.callV o4 (Evs.cons rfl (Evs.cons rfl (Evs.cons rfl Evs.nil))) rfl ?_)) | (apply OpW.k_call; first | (apply OpW.k_callf 45; exact OpW.callV o4 (Evs.cons rfl (Evs.cons rfl (Evs.cons rfl Evs.nil))))) | refine goR ?_ | refine goP ?_ | apply PSeq.cons | apply PSeq.yes rfl rfl rfl | exact goW | fail)
  all_goals exact Fin.ret (Ent.take goTk) (Outs.one rfl rfl) ⟨rfl, congrArg Tr.int hE.symm⟩
 ·have hE := p8 hV h7
  rw [show outB H 1 20000 = false by simp [outB]; omega] at o4
  clear p6 p7 p8
  repeat' (first | refine goH ?_ | refine goV ?_ | refine goB (fun b => ?_) | refine goC (fun ad cap => ?_) | refine goG ?_ | (refine Ops.k_guard ?_; first | (refine Ops.guard_dec rfl rfl ?_ ?_ <;> intro hc <;> try omega) | refine Ops.guard_split rfl rfl ?_ ?_ <;> intro hc) | refine goI ?_ | (refine Cw.k_cond ?_; first | (refine Cw.cond_dec rfl ?_ ?_ <;> intro hc <;> try omega) | refine Cw.cond_bool rfl ?_ ?_ <;> intro hc) | (refine Ops.k_calla ?_; first | (refine Ops.k_callf 45 ?_; refine Ops.callV o4 (Evs.cons rfl (Evs.cons rfl (Evs.cons rfl Evs.nil))) rfl ?_)) | (apply OpW.k_call; first | (apply OpW.k_callf 45; exact OpW.callV o4 (Evs.cons rfl (Evs.cons rfl (Evs.cons rfl Evs.nil))))) | refine goR ?_ | refine goP ?_ | apply PSeq.cons | apply PSeq.yes rfl rfl rfl | exact goW | fail)
  all_goals exact Fin.ret (Ent.take goTk) (Outs.one rfl rfl) ⟨rfl, congrArg Tr.int hE.symm⟩

theorem configFault_fn (T : List Tube) (K : List Int) (S : List SlotM) (H : Int) : PFn Tryd.prog 5 [.cfg T K S H] (· = .int (cfgE T K S H)) := by
 have hT := tubesFault_fn T
 obtain ⟨p1, p2, p3, p4, p5, p6, p7, p8⟩ := cfgP T K S H
 generalize cfgE T K S H = e0 at *
 have hLT : (T.map Tube.row).length = T.length := List.length_map _
 have hLS : (S.map SlotM.row).length = S.length := List.length_map _
 have hLK : (intRows K).length = K.length := intRows_len K
 refine PFn.mk (Spec.body Tryd.func5 rfl rfl (Tryd.ntmps5) rfl fun w0 own0 M => ?_)
 by_cases h1 : tubesErr T ≠ 0
 ·have hE := p1 _ rfl h1
  clear p1 p2 p3 p4 p5 p6 p7 p8
  generalize tubesErr T = e at *
  repeat' (first | refine goH ?_ | refine goV ?_ | refine goB (fun b => ?_) | refine goC (fun ad cap => ?_) | refine goG ?_ | (refine Ops.k_guard ?_; first | (refine Ops.guard_dec rfl rfl ?_ ?_ <;> intro hc <;> try omega) | refine Ops.guard_split rfl rfl ?_ ?_ <;> intro hc) | refine goI ?_ | (refine Cw.k_cond ?_; first | (refine Cw.cond_dec rfl ?_ ?_ <;> intro hc <;> try omega) | refine Cw.cond_bool rfl ?_ ?_ <;> intro hc) | (refine Ops.k_calla ?_; first | (refine Ops.k_callf 38 ?_; refine Ops.callV hT (Evs.cons rfl Evs.nil) rfl ?_)) | (apply OpW.k_call; first | (apply OpW.k_callf 38; exact OpW.callV hT (Evs.cons rfl Evs.nil))) | refine goR ?_ | refine goP ?_ | apply PSeq.cons | apply PSeq.yes rfl rfl rfl | exact goW | fail)
  exact Fin.ret (Ent.take goTk) (Outs.one rfl rfl) ⟨rfl, congrArg Tr.int hE.symm⟩
 replace h1 : tubesErr T = 0 := by omega
 have hto := (tubesErr_ok h1).len
 rw [h1] at hT
 clear p1
 by_cases h2 : 20 < K.length
 ·have hE := p2 h1 h2
  clear p2 p3 p4 p5 p6 p7 p8
  repeat' (first | refine goH ?_ | refine goV ?_ | refine goB (fun b => ?_) | refine goC (fun ad cap => ?_) | refine goG ?_ | (refine Ops.k_guard ?_; first | (refine Ops.guard_dec rfl rfl ?_ ?_ <;> intro hc <;> try omega) | refine Ops.guard_split rfl rfl ?_ ?_ <;> intro hc) | refine goI ?_ | (refine Cw.k_cond ?_; first | (refine Cw.cond_dec rfl ?_ ?_ <;> intro hc <;> try omega) | refine Cw.cond_bool rfl ?_ ?_ <;> intro hc) | (refine Ops.k_calla ?_; first | (refine Ops.k_callf 38 ?_; refine Ops.callV hT (Evs.cons rfl Evs.nil) rfl ?_)) | (apply OpW.k_call; first | (apply OpW.k_callf 38; exact OpW.callV hT (Evs.cons rfl Evs.nil))) | refine goR ?_ | refine goP ?_ | apply PSeq.cons | apply PSeq.yes rfl rfl rfl | exact goW | fail)
  exact Fin.ret (Ent.take goTk) (Outs.one rfl rfl) ⟨rfl, congrArg Tr.int hE.symm⟩
 clear p2
 replace p3 := p3 h1 h2
 replace p4 := p4 h1 h2
 replace p5 := p5 h1 h2
 replace p6 := p6 h1 h2
 replace p7 := p7 h1 h2
 replace p8 := p8 h1 h2
 repeat' (first | refine goH ?_ | refine goV ?_ | refine goB (fun b => ?_) | refine goC (fun ad cap => ?_) | refine goG ?_ | (refine Ops.k_guard ?_; first | (refine Ops.guard_dec rfl rfl ?_ ?_ <;> intro hc <;> try omega) | refine Ops.guard_split rfl rfl ?_ ?_ <;> intro hc) | refine goI ?_ | (refine Cw.k_cond ?_; first | (refine Cw.cond_dec rfl ?_ ?_ <;> intro hc <;> try omega) | refine Cw.cond_bool rfl ?_ ?_ <;> intro hc) | (refine Ops.k_calla ?_; first | (refine Ops.k_callf 38 ?_; refine Ops.callV hT (Evs.cons rfl Evs.nil) rfl ?_)) | (apply OpW.k_call; first | (apply OpW.k_callf 38; exact OpW.callV hT (Evs.cons rfl Evs.nil))) | refine goR ?_ | refine goP ?_ | apply PSeq.cons | apply PSeq.yes rfl rfl rfl | exact goW | fail)
 clear hT h1
 refine Cw.loopI [(1, _), (21, _), (22, _)] _ (fun n e c => ∃ k : Nat, n = K.length - k ∧ (k ≤ K.length ∧ firstE (tkE K) 0 K.length = firstE (tkE K) k (K.length - k)) ∧ e = [(23, .int k)] ∧ c = []) ⟨_, _, _, (Ent.mkP goSub goPm), 0, rfl, ⟨by omega, rfl⟩, rfl, rfl⟩ ?_
 rintro _ _ _ ⟨k, rfl, ⟨hk, hV⟩, rfl, rfl⟩
 by_cases hkl : k < K.length
 ·obtain ⟨x, hx⟩ := at_lt hkl
  have hrow : (intRows K)[k]? = some [.int x] := intRows_at hx
  have o1 := out_fn x 1 20000
  by_cases g1 : x < 1 ∨ 20000 < x
  ·have hE := p3 1 (hV.trans (firstE_bad hkl (by simp only [tkE, hx]; rw [if_pos g1]) (by decide))) (by decide)
   rw [show outB x 1 20000 = true by simp [outB]; omega] at o1
   clear p3 p4 p5 p6 p7 p8 hV
   repeat' (first | refine goH ?_ | refine goV ?_ | refine goB (fun b => ?_) | refine goC (fun ad cap => ?_) | refine goG ?_ | (refine Ops.k_guard ?_; first | (refine Ops.guard_dec rfl rfl ?_ ?_ <;> intro hc <;> try omega) | refine Ops.guard_split rfl rfl ?_ ?_ <;> intro hc) | refine goI ?_ | (refine Cw.k_cond ?_; first | (refine Cw.cond_dec rfl ?_ ?_ <;> intro hc <;> try omega) | refine Cw.cond_bool rfl ?_ ?_ <;> intro hc) | refine goR ?_ | refine goP ?_ | apply PSeq.cons | apply PSeq.yes rfl rfl rfl | exact goW | fail)
   all_goals exact Fin.ret (Ent.take goTk) (Outs.one rfl rfl) ⟨rfl, congrArg Tr.int hE.symm⟩
  rw [show outB x 1 20000 = false by simp [outB]; omega] at o1
  cases k with
  |zero =>
   have hN := hV.trans (firstE_ok hkl (by simp only [tkE, hx]; rw [if_neg g1]; rfl))
   clear p3 p4 p5 p6 p7 p8 hV
   repeat' (first | refine goH ?_ | refine goV ?_ | refine goB (fun b => ?_) | refine goC (fun ad cap => ?_) | refine goG ?_ | (refine Ops.k_guard ?_; first | (refine Ops.guard_dec rfl rfl ?_ ?_ <;> intro hc <;> try omega) | refine Ops.guard_split rfl rfl ?_ ?_ <;> intro hc) | refine goI ?_ | (refine Cw.k_cond ?_; first | (refine Cw.cond_dec rfl ?_ ?_ <;> intro hc <;> try omega) | refine Cw.cond_bool rfl ?_ ?_ <;> intro hc) | refine goR ?_ | refine goP ?_ | apply PSeq.cons | apply PSeq.yes rfl rfl rfl | exact goW | fail)
   all_goals exact ⟨_, _, _, (Ent.mk goSub goTk), ⟨1, rfl, ⟨by omega, hN⟩, rfl, rfl⟩, by omega⟩
  |succ j =>
   obtain ⟨y, hy⟩ := at_lt (l := K) (k := j) (by omega)
   have hrow2 : (intRows K)[(((j + 1 : Nat) : Int) - 1).toNat]? = some [.int y] := by rw [show (((j + 1 : Nat) : Int) - 1).toNat = j by omega]; exact intRows_at hy
   by_cases g2 : x ≤ y
   ·have hE := p3 7 (hV.trans (firstE_bad hkl (by simp only [tkE, hx, prevB, hy]; rw [if_neg g1, if_pos (decide_eq_true g2)]) (by decide))) (by decide)
    clear p3 p4 p5 p6 p7 p8 hV
    repeat' (first | refine goH ?_ | refine goV ?_ | refine goB (fun b => ?_) | refine goC (fun ad cap => ?_) | refine goG ?_ | (refine Ops.k_guard ?_; first | (refine Ops.guard_dec rfl rfl ?_ ?_ <;> intro hc <;> try omega) | refine Ops.guard_split rfl rfl ?_ ?_ <;> intro hc) | refine goI ?_ | (refine Cw.k_cond ?_; first | (refine Cw.cond_dec rfl ?_ ?_ <;> intro hc <;> try omega) | refine Cw.cond_bool rfl ?_ ?_ <;> intro hc) | refine goR ?_ | refine goP ?_ | apply PSeq.cons | apply PSeq.yes rfl rfl rfl | exact goW | fail)
    all_goals exact Fin.ret (Ent.take goTk) (Outs.one rfl rfl) ⟨rfl, congrArg Tr.int hE.symm⟩
   ·have hN := hV.trans (firstE_ok hkl (by simp only [tkE, hx, prevB, hy]; rw [if_neg g1, if_neg (by simpa using g2)]))
    clear p3 p4 p5 p6 p7 p8 hV
    repeat' (first | refine goH ?_ | refine goV ?_ | refine goB (fun b => ?_) | refine goC (fun ad cap => ?_) | refine goG ?_ | (refine Ops.k_guard ?_; first | (refine Ops.guard_dec rfl rfl ?_ ?_ <;> intro hc <;> try omega) | refine Ops.guard_split rfl rfl ?_ ?_ <;> intro hc) | refine goI ?_ | (refine Cw.k_cond ?_; first | (refine Cw.cond_dec rfl ?_ ?_ <;> intro hc <;> try omega) | refine Cw.cond_bool rfl ?_ ?_ <;> intro hc) | refine goR ?_ | refine goP ?_ | apply PSeq.cons | apply PSeq.yes rfl rfl rfl | exact goW | fail)
    all_goals exact ⟨_, _, _, (Ent.mk goSub goTk), ⟨_, rfl, ⟨by omega, hN⟩, rfl, rfl⟩, by omega⟩
 rw [firstE_end hkl] at hV
 clear p3
 replace p4 := p4 hV
 replace p5 := p5 hV
 replace p6 := p6 hV
 replace p7 := p7 hV
 replace p8 := p8 hV
 have kC := fun v => contains_fn K v (by omega)
 repeat' (first | refine goH ?_ | refine goV ?_ | refine goB (fun b => ?_) | refine goC (fun ad cap => ?_) | refine goG ?_ | (refine Ops.k_guard ?_; first | (refine Ops.guard_dec rfl rfl ?_ ?_ <;> intro hc <;> try omega) | refine Ops.guard_split rfl rfl ?_ ?_ <;> intro hc) | refine goI ?_ | (refine Cw.k_cond ?_; first | (refine Cw.cond_dec rfl ?_ ?_ <;> intro hc <;> try omega) | refine Cw.cond_bool rfl ?_ ?_ <;> intro hc) | refine goR ?_ | refine goP ?_ | apply PSeq.cons | apply PSeq.yes rfl rfl rfl | exact goW | fail)
 refine Cw.loopI [(1, _), (48, _), (49, _)] _ (fun n e c => ∃ k : Nat, n = T.length - k ∧ (k ≤ T.length ∧ T.any (fun d => !decide (d.val ∈ K)) = (T.drop k).any (fun d => !decide (d.val ∈ K))) ∧ e = [(50, .int k)] ∧ c = []) ⟨_, _, _, (Ent.mkP goSub goPm), 0, rfl, ⟨by omega, by rw [List.drop_zero]⟩, rfl, rfl⟩ ?_
 clear hV hkl hk
 rintro _ _ _ ⟨k, rfl, ⟨hk, hA⟩, rfl, rfl⟩
 by_cases hkl : k < T.length
 ·obtain ⟨d, hd⟩ := at_lt hkl
  have hrow : (T.map Tube.row)[k]? = some [.int d.val, .int d.cnt, .int d.most] := rows_at hd
  have k3 := kC d.val
  rw [drop_at hd, List.any_cons] at hA
  by_cases g : d.val ∈ K
  ·rw [decide_eq_true g] at k3 hA
   rw [Bool.not_true, Bool.false_or] at hA
   clear p4 p5 p6 p7 p8
   repeat' (first | refine goH ?_ | refine goV ?_ | refine goB (fun b => ?_) | refine goC (fun ad cap => ?_) | refine goG ?_ | (refine Ops.k_guard ?_; first | (refine Ops.guard_dec rfl rfl ?_ ?_ <;> intro hc <;> try omega) | refine Ops.guard_split rfl rfl ?_ ?_ <;> intro hc) | refine goI ?_ | (refine Cw.k_cond ?_; first | (refine Cw.cond_dec rfl ?_ ?_ <;> intro hc <;> try omega) | refine Cw.cond_bool rfl ?_ ?_ <;> intro hc) | (refine Ops.k_calla ?_; first | (refine Ops.k_callf 39 ?_; refine Ops.callV k3 (Evs.cons rfl (Evs.cons rfl Evs.nil)) rfl ?_)) | (apply OpW.k_call; first | (apply OpW.k_callf 39; exact OpW.callV k3 (Evs.cons rfl (Evs.cons rfl Evs.nil)))) | refine goR ?_ | refine goP ?_ | apply PSeq.cons | apply PSeq.yes rfl rfl rfl | exact goW | fail)
   exact ⟨_, _, _, (Ent.mk goSub goTk), ⟨k + 1, rfl, ⟨by omega, hA⟩, rfl, rfl⟩, by omega⟩
  ·rw [decide_eq_false g] at k3 hA
   have hE := p4 (.inl hA)
   clear p4 p5 p6 p7 p8
   repeat' (first | refine goH ?_ | refine goV ?_ | refine goB (fun b => ?_) | refine goC (fun ad cap => ?_) | refine goG ?_ | (refine Ops.k_guard ?_; first | (refine Ops.guard_dec rfl rfl ?_ ?_ <;> intro hc <;> try omega) | refine Ops.guard_split rfl rfl ?_ ?_ <;> intro hc) | refine goI ?_ | (refine Cw.k_cond ?_; first | (refine Cw.cond_dec rfl ?_ ?_ <;> intro hc <;> try omega) | refine Cw.cond_bool rfl ?_ ?_ <;> intro hc) | (refine Ops.k_calla ?_; first | (refine Ops.k_callf 39 ?_; refine Ops.callV k3 (Evs.cons rfl (Evs.cons rfl Evs.nil)) rfl ?_)) | (apply OpW.k_call; first | (apply OpW.k_callf 39; exact OpW.callV k3 (Evs.cons rfl (Evs.cons rfl Evs.nil)))) | refine goR ?_ | refine goP ?_ | apply PSeq.cons | apply PSeq.yes rfl rfl rfl | exact goW | fail)
   exact Fin.ret (Ent.take goTk) (Outs.one rfl rfl) ⟨rfl, congrArg Tr.int hE.symm⟩
 rw [List.drop_of_length_le (by omega), List.any_nil] at hA
 clear kC
 by_cases h4b : S.length = 0
 ·have hE := p4 (.inr h4b)
  clear p4 p5 p6 p7 p8
  repeat' (first | refine goH ?_ | refine goV ?_ | refine goB (fun b => ?_) | refine goC (fun ad cap => ?_) | refine goG ?_ | (refine Ops.k_guard ?_; first | (refine Ops.guard_dec rfl rfl ?_ ?_ <;> intro hc <;> try omega) | refine Ops.guard_split rfl rfl ?_ ?_ <;> intro hc) | refine goI ?_ | (refine Cw.k_cond ?_; first | (refine Cw.cond_dec rfl ?_ ?_ <;> intro hc <;> try omega) | refine Cw.cond_bool rfl ?_ ?_ <;> intro hc) | refine goR ?_ | refine goP ?_ | apply PSeq.cons | apply PSeq.yes rfl rfl rfl | exact goW | fail)
  exact Fin.ret (Ent.take goTk) (Outs.one rfl rfl) ⟨rfl, congrArg Tr.int hE.symm⟩
 have h4 : ¬ (T.any (fun d => !decide (d.val ∈ K)) = true ∨ S.length = 0) := by rw [hA]; simp [h4b]
 by_cases h5 : 60 < S.length
 ·have hE := p5 h4 h5
  clear p4 p5 p6 p7 p8
  repeat' (first | refine goH ?_ | refine goV ?_ | refine goB (fun b => ?_) | refine goC (fun ad cap => ?_) | refine goG ?_ | (refine Ops.k_guard ?_; first | (refine Ops.guard_dec rfl rfl ?_ ?_ <;> intro hc <;> try omega) | refine Ops.guard_split rfl rfl ?_ ?_ <;> intro hc) | refine goI ?_ | (refine Cw.k_cond ?_; first | (refine Cw.cond_dec rfl ?_ ?_ <;> intro hc <;> try omega) | refine Cw.cond_bool rfl ?_ ?_ <;> intro hc) | refine goR ?_ | refine goP ?_ | apply PSeq.cons | apply PSeq.yes rfl rfl rfl | exact goW | fail)
  exact Fin.ret (Ent.take goTk) (Outs.one rfl rfl) ⟨rfl, congrArg Tr.int hE.symm⟩
 replace p6 := p6 h4 h5
 replace p7 := p7 h4 h5
 replace p8 := p8 h4 h5
 clear p4 p5 h4 hA
 have hV := h5
 repeat' (first | refine goH ?_ | refine goV ?_ | refine goB (fun b => ?_) | refine goC (fun ad cap => ?_) | refine goG ?_ | (refine Ops.k_guard ?_; first | (refine Ops.guard_dec rfl rfl ?_ ?_ <;> intro hc <;> try omega) | refine Ops.guard_split rfl rfl ?_ ?_ <;> intro hc) | refine goI ?_ | (refine Cw.k_cond ?_; first | (refine Cw.cond_dec rfl ?_ ?_ <;> intro hc <;> try omega) | refine Cw.cond_bool rfl ?_ ?_ <;> intro hc) | refine goR ?_ | refine goP ?_ | apply PSeq.cons | apply PSeq.yes rfl rfl rfl | exact goW | fail)
 refine Cw.loopI [(1, _), (70, _), (71, _)] _ (fun n e c => ∃ k : Nat, n = S.length - k ∧ (k ≤ S.length ∧ firstE (sltE S) 0 S.length = firstE (sltE S) k (S.length - k)) ∧ e = [(72, .int k)] ∧ c = []) ⟨_, _, _, (Ent.mkP goSub goPm), 0, rfl, ⟨by omega, rfl⟩, rfl, rfl⟩ ?_
 clear hV hkl hk
 rintro _ _ _ ⟨k, rfl, ⟨hk, hV⟩, rfl, rfl⟩
 by_cases hkl : k < S.length
 ·obtain ⟨x, hx⟩ := at_lt hkl
  have hrow : (S.map SlotM.row)[k]? = some [.str x.key, .str x.prod, .int x.price, .int x.most, .int x.cnt] := rows_at hx
  have k1 := keyOf_fn x.key
  have k2 := keyOf_fn x.prod
  have o1 := out_fn x.price 1 20000
  have o2 := out_fn x.most 0 1000
  have o3 := out_fn x.cnt 0 x.most
  have hbad : ∀ c : Int, sltE S k = c → c ≠ 0 → e0 = c := fun c h1 h2 => p6 c (hV.trans (firstE_bad hkl h1 h2)) h2
  have hgood : sltE S k = 0 → firstE (sltE S) 0 S.length = firstE (sltE S) (k + 1) (S.length - (k + 1)) := fun he => hV.trans (firstE_ok hkl he)
  clear p6 p7 p8 hV
  by_cases g1 : isKey x.key = false
  ·have hE := hbad 5 (by simp only [sltE, hx]; rw [if_pos g1]) (by decide)
   rw [g1] at k1
   repeat' (first | refine goH ?_ | refine goV ?_ | refine goB (fun b => ?_) | refine goC (fun ad cap => ?_) | refine goG ?_ | (refine Ops.k_guard ?_; first | (refine Ops.guard_dec rfl rfl ?_ ?_ <;> intro hc <;> try omega) | refine Ops.guard_split rfl rfl ?_ ?_ <;> intro hc) | refine goI ?_ | (refine Cw.k_cond ?_; first | (refine Cw.cond_dec rfl ?_ ?_ <;> intro hc <;> try omega) | refine Cw.cond_bool rfl ?_ ?_ <;> intro hc) | (refine Ops.k_calla ?_; first | (refine Ops.k_callf 40 ?_; refine Ops.callV k1 (Evs.cons rfl Evs.nil) rfl ?_)) | (apply OpW.k_call; first | (apply OpW.k_callf 40; exact OpW.callV k1 (Evs.cons rfl Evs.nil))) | refine goR ?_ | refine goP ?_ | apply PSeq.cons | apply PSeq.yes rfl rfl rfl | exact goW | fail)
   exact Fin.ret (Ent.take goTk) (Outs.one rfl rfl) ⟨rfl, congrArg Tr.int hE.symm⟩
  replace g1 : isKey x.key = true := by simpa using g1
  rw [g1] at k1
  have g1' : ¬ isKey x.key = false := by simp [g1]
  cases k with
  |zero =>
   have he : sltE S 0 = sltErr x := by simp only [sltE, hx]; rw [if_neg g1']; rfl
   by_cases g3 : isKey x.prod = false
   ·have hE := hbad 5 (by rw [he]; unfold sltErr; rw [if_pos g3]) (by decide)
    rw [g3] at k2
    repeat' (first | refine goH ?_ | refine goV ?_ | refine goB (fun b => ?_) | refine goC (fun ad cap => ?_) | refine goG ?_ | (refine Ops.k_guard ?_; first | (refine Ops.guard_dec rfl rfl ?_ ?_ <;> intro hc <;> try omega) | refine Ops.guard_split rfl rfl ?_ ?_ <;> intro hc) | refine goI ?_ | (refine Cw.k_cond ?_; first | (refine Cw.cond_dec rfl ?_ ?_ <;> intro hc <;> try omega) | refine Cw.cond_bool rfl ?_ ?_ <;> intro hc) | (refine Ops.k_calla ?_; first | (refine Ops.k_callf 40 ?_; refine Ops.callV k1 (Evs.cons rfl Evs.nil) rfl ?_) | (refine Ops.k_callf 40 ?_; refine Ops.callV k2 (Evs.cons rfl Evs.nil) rfl ?_)) | (apply OpW.k_call; first | (apply OpW.k_callf 40; exact OpW.callV k1 (Evs.cons rfl Evs.nil)) | (apply OpW.k_callf 40; exact OpW.callV k2 (Evs.cons rfl Evs.nil))) | refine goR ?_ | refine goP ?_ | apply PSeq.cons | apply PSeq.yes rfl rfl rfl | exact goW | fail)
    all_goals first | exact Fin.ret (Ent.take goTk) (Outs.one rfl rfl) ⟨rfl, congrArg Tr.int hE.symm⟩ | (exfalso; simp_all; done)
   have g3' := g3
   replace g3 : isKey x.prod = true := by simpa using g3
   rw [g3] at k2
   by_cases g4 : x.price < 1 ∨ 20000 < x.price ∨ x.most < 0 ∨ 1000 < x.most ∨ x.cnt < 0 ∨ x.most < x.cnt
   ·have hE := hbad 1 (by rw [he]; unfold sltErr; rw [if_neg g3', if_pos g4]) (by decide)
    clear hbad hgood
    repeat' (first | refine goH ?_ | refine goV ?_ | refine goB (fun b => ?_) | refine goC (fun ad cap => ?_) | refine goG ?_ | (refine Ops.k_guard ?_; first | (refine Ops.guard_dec rfl rfl ?_ ?_ <;> intro hc <;> try omega) | refine Ops.guard_split rfl rfl ?_ ?_ <;> intro hc) | refine goI ?_ | (refine Cw.k_cond ?_; first | (refine Cw.cond_dec rfl ?_ ?_ <;> intro hc <;> try omega) | refine Cw.cond_bool rfl ?_ ?_ <;> intro hc) | (refine Ops.k_calla ?_; first | (refine Ops.k_callf 40 ?_; refine Ops.callV k1 (Evs.cons rfl Evs.nil) rfl ?_) | (refine Ops.k_callf 40 ?_; refine Ops.callV k2 (Evs.cons rfl Evs.nil) rfl ?_)) | (apply OpW.k_call; first | (apply OpW.k_callf 40; exact OpW.callV k1 (Evs.cons rfl Evs.nil)) | (apply OpW.k_callf 40; exact OpW.callV k2 (Evs.cons rfl Evs.nil))) | refine goR ?_ | refine goP ?_ | apply PSeq.cons | apply PSeq.yes rfl rfl rfl | exact goW | fail)
    all_goals (try simp only [outB_eq, outB_f, Bool.not_eq_true] at *)
    all_goals first | exact Fin.ret (Ent.take goTk) (Outs.one rfl rfl) ⟨rfl, congrArg Tr.int hE.symm⟩ | (exfalso; omega) | (exfalso; simp_all; done)
   ·have hN := hgood (by rw [he]; unfold sltErr; rw [if_neg g3', if_neg g4])
    rw [show outB x.price 1 20000 = false by simp [outB]; omega] at o1
    rw [show outB x.most 0 1000 = false by simp [outB]; omega] at o2
    rw [show outB x.cnt 0 x.most = false by simp [outB]; omega] at o3
    clear hbad hgood
    repeat' (first | refine goH ?_ | refine goV ?_ | refine goB (fun b => ?_) | refine goC (fun ad cap => ?_) | refine goG ?_ | (refine Ops.k_guard ?_; first | (refine Ops.guard_dec rfl rfl ?_ ?_ <;> intro hc <;> try omega) | refine Ops.guard_split rfl rfl ?_ ?_ <;> intro hc) | refine goI ?_ | (refine Cw.k_cond ?_; first | (refine Cw.cond_dec rfl ?_ ?_ <;> intro hc <;> try omega) | refine Cw.cond_bool rfl ?_ ?_ <;> intro hc) | (refine Ops.k_calla ?_; first | (refine Ops.k_callf 40 ?_; refine Ops.callV k1 (Evs.cons rfl Evs.nil) rfl ?_) | (refine Ops.k_callf 40 ?_; refine Ops.callV k2 (Evs.cons rfl Evs.nil) rfl ?_)) | (apply OpW.k_call; first | (apply OpW.k_callf 40; exact OpW.callV k1 (Evs.cons rfl Evs.nil)) | (apply OpW.k_callf 40; exact OpW.callV k2 (Evs.cons rfl Evs.nil))) | refine goR ?_ | refine goP ?_ | apply PSeq.cons | apply PSeq.yes rfl rfl rfl | exact goW | fail)
    all_goals first | exact ⟨_, _, _, (Ent.mk goSub goTk), ⟨_, rfl, ⟨by omega, hN⟩, rfl, rfl⟩, by omega⟩ | (exfalso; simp_all; done)
  |succ j =>
   obtain ⟨y, hy⟩ := at_lt (l := S) (k := j) (by omega)
   have hrow2 : (S.map SlotM.row)[(((j + 1 : Nat) : Int) - 1).toNat]? = some [.str y.key, .str y.prod, .int y.price, .int y.most, .int y.cnt] := by rw [show (((j + 1 : Nat) : Int) - 1).toNat = j by omega]; exact rows_at hy
   by_cases g2 : (strLt x.key y.key || decide (x.key = y.key)) = true
   ·have hE := hbad 7 (by simp only [sltE, hx, prevB, hy, strLe]; rw [if_neg g1', if_pos g2]) (by decide)
    repeat' (first | refine goH ?_ | refine goV ?_ | refine goB (fun b => ?_) | refine goC (fun ad cap => ?_) | refine goG ?_ | (refine Ops.k_guard ?_; first | (refine Ops.guard_dec rfl rfl ?_ ?_ <;> intro hc <;> try omega) | refine Ops.guard_split rfl rfl ?_ ?_ <;> intro hc) | refine goI ?_ | (refine Cw.k_cond ?_; first | (refine Cw.cond_dec rfl ?_ ?_ <;> intro hc <;> try omega) | refine Cw.cond_bool rfl ?_ ?_ <;> intro hc) | (refine Ops.k_calla ?_; first | (refine Ops.k_callf 40 ?_; refine Ops.callV k1 (Evs.cons rfl Evs.nil) rfl ?_)) | (apply OpW.k_call; first | (apply OpW.k_callf 40; exact OpW.callV k1 (Evs.cons rfl Evs.nil))) | refine goR ?_ | refine goP ?_ | apply PSeq.cons | apply PSeq.yes rfl rfl rfl | exact goW | fail)
    all_goals first | exact Fin.ret (Ent.take goTk) (Outs.one rfl rfl) ⟨rfl, congrArg Tr.int hE.symm⟩ | (exfalso; simp_all; done)
   have he : sltE S (j + 1) = sltErr x := by simp only [sltE, hx, prevB, hy, strLe]; rw [if_neg g1', if_neg g2]
   rw [Bool.not_eq_true] at g2
   by_cases g3 : isKey x.prod = false
   ·have hE := hbad 5 (by rw [he]; unfold sltErr; rw [if_pos g3]) (by decide)
    rw [g3] at k2
    repeat' (first | refine goH ?_ | refine goV ?_ | refine goB (fun b => ?_) | refine goC (fun ad cap => ?_) | refine goG ?_ | (refine Ops.k_guard ?_; first | (refine Ops.guard_dec rfl rfl ?_ ?_ <;> intro hc <;> try omega) | refine Ops.guard_split rfl rfl ?_ ?_ <;> intro hc) | refine goI ?_ | (refine Cw.k_cond ?_; first | (refine Cw.cond_dec rfl ?_ ?_ <;> intro hc <;> try omega) | refine Cw.cond_bool rfl ?_ ?_ <;> intro hc) | (refine Ops.k_calla ?_; first | (refine Ops.k_callf 40 ?_; refine Ops.callV k1 (Evs.cons rfl Evs.nil) rfl ?_) | (refine Ops.k_callf 40 ?_; refine Ops.callV k2 (Evs.cons rfl Evs.nil) rfl ?_)) | (apply OpW.k_call; first | (apply OpW.k_callf 40; exact OpW.callV k1 (Evs.cons rfl Evs.nil)) | (apply OpW.k_callf 40; exact OpW.callV k2 (Evs.cons rfl Evs.nil))) | refine goR ?_ | refine goP ?_ | apply PSeq.cons | apply PSeq.yes rfl rfl rfl | exact goW | fail)
    all_goals first | exact Fin.ret (Ent.take goTk) (Outs.one rfl rfl) ⟨rfl, congrArg Tr.int hE.symm⟩ | (exfalso; simp_all; done)
   have g3' := g3
   replace g3 : isKey x.prod = true := by simpa using g3
   rw [g3] at k2
   by_cases g4 : x.price < 1 ∨ 20000 < x.price ∨ x.most < 0 ∨ 1000 < x.most ∨ x.cnt < 0 ∨ x.most < x.cnt
   ·have hE := hbad 1 (by rw [he]; unfold sltErr; rw [if_neg g3', if_pos g4]) (by decide)
    clear hbad hgood
    repeat' (first | refine goH ?_ | refine goV ?_ | refine goB (fun b => ?_) | refine goC (fun ad cap => ?_) | refine goG ?_ | (refine Ops.k_guard ?_; first | (refine Ops.guard_dec rfl rfl ?_ ?_ <;> intro hc <;> try omega) | refine Ops.guard_split rfl rfl ?_ ?_ <;> intro hc) | refine goI ?_ | (refine Cw.k_cond ?_; first | (refine Cw.cond_dec rfl ?_ ?_ <;> intro hc <;> try omega) | refine Cw.cond_bool rfl ?_ ?_ <;> intro hc) | (refine Ops.k_calla ?_; first | (refine Ops.k_callf 40 ?_; refine Ops.callV k1 (Evs.cons rfl Evs.nil) rfl ?_) | (refine Ops.k_callf 40 ?_; refine Ops.callV k2 (Evs.cons rfl Evs.nil) rfl ?_)) | (apply OpW.k_call; first | (apply OpW.k_callf 40; exact OpW.callV k1 (Evs.cons rfl Evs.nil)) | (apply OpW.k_callf 40; exact OpW.callV k2 (Evs.cons rfl Evs.nil))) | refine goR ?_ | refine goP ?_ | apply PSeq.cons | apply PSeq.yes rfl rfl rfl | exact goW | fail)
    all_goals (try simp only [outB_eq, outB_f, Bool.not_eq_true] at *)
    all_goals first | exact Fin.ret (Ent.take goTk) (Outs.one rfl rfl) ⟨rfl, congrArg Tr.int hE.symm⟩ | (exfalso; omega) | (exfalso; simp_all; done)
   ·have hN := hgood (by rw [he]; unfold sltErr; rw [if_neg g3', if_neg g4])
    rw [show outB x.price 1 20000 = false by simp [outB]; omega] at o1
    rw [show outB x.most 0 1000 = false by simp [outB]; omega] at o2
    rw [show outB x.cnt 0 x.most = false by simp [outB]; omega] at o3
    clear hbad hgood
    repeat' (first | refine goH ?_ | refine goV ?_ | refine goB (fun b => ?_) | refine goC (fun ad cap => ?_) | refine goG ?_ | (refine Ops.k_guard ?_; first | (refine Ops.guard_dec rfl rfl ?_ ?_ <;> intro hc <;> try omega) | refine Ops.guard_split rfl rfl ?_ ?_ <;> intro hc) | refine goI ?_ | (refine Cw.k_cond ?_; first | (refine Cw.cond_dec rfl ?_ ?_ <;> intro hc <;> try omega) | refine Cw.cond_bool rfl ?_ ?_ <;> intro hc) | (refine Ops.k_calla ?_; first | (refine Ops.k_callf 40 ?_; refine Ops.callV k1 (Evs.cons rfl Evs.nil) rfl ?_) | (refine Ops.k_callf 40 ?_; refine Ops.callV k2 (Evs.cons rfl Evs.nil) rfl ?_)) | (apply OpW.k_call; first | (apply OpW.k_callf 40; exact OpW.callV k1 (Evs.cons rfl Evs.nil)) | (apply OpW.k_callf 40; exact OpW.callV k2 (Evs.cons rfl Evs.nil))) | refine goR ?_ | refine goP ?_ | apply PSeq.cons | apply PSeq.yes rfl rfl rfl | exact goW | fail)
    all_goals first | exact ⟨_, _, _, (Ent.mk goSub goTk), ⟨_, rfl, ⟨by omega, hN⟩, rfl, rfl⟩, by omega⟩ | (exfalso; simp_all; done)
 rw [firstE_end hkl] at hV
 have o4 := out_fn H 1 20000
 by_cases h7 : H < 1 ∨ 20000 < H
 ·have hE := p7 hV h7
  rw [show outB H 1 20000 = true by simp [outB]; omega] at o4
  clear p6 p7 p8
  repeat' (first | refine goH ?_ | refine goV ?_ | refine goB (fun b => ?_) | refine goC (fun ad cap => ?_) | refine goG ?_ | (refine Ops.k_guard ?_; first | (refine Ops.guard_dec rfl rfl ?_ ?_ <;> intro hc <;> try omega) | refine Ops.guard_split rfl rfl ?_ ?_ <;> intro hc) | refine goI ?_ | (refine Cw.k_cond ?_; first | (refine Cw.cond_dec rfl ?_ ?_ <;> intro hc <;> try omega) | refine Cw.cond_bool rfl ?_ ?_ <;> intro hc) | refine goR ?_ | refine goP ?_ | apply PSeq.cons | apply PSeq.yes rfl rfl rfl | exact goW | fail)
  all_goals exact Fin.ret (Ent.take goTk) (Outs.one rfl rfl) ⟨rfl, congrArg Tr.int hE.symm⟩
 ·have hE := p8 hV h7
  rw [show outB H 1 20000 = false by simp [outB]; omega] at o4
  clear p6 p7 p8
  repeat' (first | refine goH ?_ | refine goV ?_ | refine goB (fun b => ?_) | refine goC (fun ad cap => ?_) | refine goG ?_ | (refine Ops.k_guard ?_; first | (refine Ops.guard_dec rfl rfl ?_ ?_ <;> intro hc <;> try omega) | refine Ops.guard_split rfl rfl ?_ ?_ <;> intro hc) | refine goI ?_ | (refine Cw.k_cond ?_; first | (refine Cw.cond_dec rfl ?_ ?_ <;> intro hc <;> try omega) | refine Cw.cond_bool rfl ?_ ?_ <;> intro hc) | refine goR ?_ | refine goP ?_ | apply PSeq.cons | apply PSeq.yes rfl rfl rfl | exact goW | fail)
  all_goals exact Fin.ret (Ent.take goTk) (Outs.one rfl rfl) ⟨rfl, congrArg Tr.int hE.symm⟩
end Lg
