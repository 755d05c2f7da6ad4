/- A part of the proof of a law of this seat: it adds no condition. By an AI agent. -/
import Derived.Test.YtfgcjpkkbhnkgaaGreatDoorWal2
section
set_option linter.all false
set_option maxRecDepth 100000
set_option maxHeartbeats 8000000
namespace Lg
open Go Go.Proofs

theorem indexFunc_intL {l : List (List Int)} {p : (List Int) → Bool} {g : Nat} {caps : List Value} {cin : List Chunk} (hl : l.length ≤ 1000000000)
  (hs : ∀ x, x ∈ l → Spec Tryz.prog g ([Tr.ints x] ++ caps.map Tr.raw) cin (fun r cs => r = Tr.bool (p x) ∧ cs = cin)) :
  Spec Tryz.prog 112 [Tr.sl 1 (l.map (fun x => [Tr.ints x])), Tr.raw (.func (.func g) #[] caps.toArray)] cin (fun r cs => r = Tr.int (idxFrom p l 0) ∧ cs = cin) := by
 refine Spec.body Tryz.func112 rfl rfl (Tryz.ntmps112) rfl fun w0 own0 M => ?_
 have hL : (l.map (fun x => [Tr.ints x])).length = l.length := List.length_map _
 repeat' (first | refine goH ?_ | refine goV ?_ | refine goI ?_ | (refine Cw.k_cond ?_; first | (refine Cw.cond_dec rfl ?_ ?_ <;> intro hc <;> try omega) | refine Cw.cond_bool rfl ?_ ?_ <;> intro hc) | fail)
 refine Cw.loop (ι := Nat) (fun k => k ≤ l.length ∧ idxFrom p l 0 = idxFrom p (l.drop k) k) (fun k => [(0, Tr.sl 1 (l.map (fun x => [Tr.ints x]))), (1, Tr.raw (.func (.func g) #[] caps.toArray)), (7, .int (l.map (fun x => [Tr.ints x])).length), (8, .int k)]) (fun _ => cin) (fun k => l.length - k) ⟨0, ⟨by omega, rfl⟩, Ent.sub goSub⟩ ?_
 rintro k ⟨hk, hgo⟩
 by_cases hkl : k < l.length
 ·obtain ⟨x, hx⟩ : ∃ x, l[k]? = some x := ⟨_, List.getElem?_eq_getElem hkl⟩
  have hrow : (l.map (fun x => [Tr.ints x]))[k]? = some [Tr.ints x] := rows_at hx
  have hdrop := idxFrom_drop p hx
  rw [hdrop] at hgo
  have hsx := hs x (List.mem_of_getElem? hx)
  by_cases hp : p x = true
  ·rw [if_pos hp] at hgo
   rw [hp] at hsx
   repeat' (first | refine goH ?_ | refine goV ?_ | refine goI ?_ | (refine Cw.k_cond ?_; first | (refine Cw.cond_dec rfl ?_ ?_ <;> intro hc <;> try omega) | refine Cw.cond_bool rfl ?_ ?_ <;> intro hc) | (refine Ops.k_calla ?_; first | (refine Ops.call_fn rfl hsx (Evs.cons rfl Evs.nil) (by rw [List.append_nil]) rfl ?_; rintro r cs' ⟨rfl, hcs⟩; rw [hcs, List.append_nil])) | fail)
   exact Fin.ret Ent.refl (Outs.one rfl rfl) ⟨by rw [hgo], rfl⟩
  ·rw [if_neg hp] at hgo
   rw [Bool.not_eq_true] at hp
   rw [hp] at hsx
   repeat' (first | refine goH ?_ | refine goV ?_ | refine goI ?_ | (refine Cw.k_cond ?_; first | (refine Cw.cond_dec rfl ?_ ?_ <;> intro hc <;> try omega) | refine Cw.cond_bool rfl ?_ ?_ <;> intro hc) | (refine Ops.k_calla ?_; first | (refine Ops.call_fn rfl hsx (Evs.cons rfl Evs.nil) (by rw [List.append_nil]) rfl ?_; rintro r cs' ⟨rfl, hcs⟩; rw [hcs, List.append_nil])) | fail)
   exact ⟨k + 1, ⟨by omega, hgo⟩, by omega, Ent.sub goSub⟩
 ·rw [List.drop_eq_nil_of_le (by omega), idxFrom] at hgo
  repeat' (first | refine goH ?_ | refine goV ?_ | refine goI ?_ | (refine Cw.k_cond ?_; first | (refine Cw.cond_dec rfl ?_ ?_ <;> intro hc <;> try omega) | refine Cw.cond_bool rfl ?_ ?_ <;> intro hc) | fail)
  exact Fin.ret Ent.refl (Outs.one rfl rfl) ⟨by rw [hgo], rfl⟩

theorem containsFunc_intL {l : List (List Int)} {p : (List Int) → Bool} {g : Nat} {caps : List Value} {cin : List Chunk} (hl : l.length ≤ 1000000000)
  (hs : ∀ x, x ∈ l → Spec Tryz.prog g ([Tr.ints x] ++ caps.map Tr.raw) cin (fun r cs => r = Tr.bool (p x) ∧ cs = cin)) :
  Spec Tryz.prog 66 [Tr.sl 1 (l.map (fun x => [Tr.ints x])), Tr.raw (.func (.func g) #[] caps.toArray)] cin (fun r cs => r = Tr.bool (l.any p) ∧ cs = cin) := by
 refine Spec.body Tryz.func66 rfl rfl (Tryz.ntmps66) rfl fun w0 own0 M => ?_
 repeat' (first | refine goH ?_ | refine goV ?_ | refine goI ?_ | (refine Cw.k_cond ?_; first | (refine Cw.cond_dec rfl ?_ ?_ <;> intro hc <;> try omega) | refine Cw.cond_bool rfl ?_ ?_ <;> intro hc) | (refine Ops.k_calla ?_; first | (refine Ops.k_callf 112 ?_; (refine Ops.call (indexFunc_intL hl hs) (Evs.cons rfl (Evs.cons rfl Evs.nil)) (by rw [List.append_nil]) rfl ?_; rintro r cs' ⟨rfl, hcs⟩; rw [hcs, List.append_nil]))) | fail)
 refine Fin.ret Ent.refl (Outs.one rfl rfl) ⟨congrArg Tr.bool ?_, rfl⟩
 have := idxFrom_ge p l 0 (Int.le_refl _)
 by_cases h : 0 ≤ idxFrom p l 0
 ·simp [h, this.1 h]
 ·have h2 : l.any p = false := by rw [← Bool.not_eq_true]; exact fun e => h (this.2 e)
  simp [h, h2]

theorem formD_fn (n b : Nat) (x : List Int) : Spec Tryz.prog 67 ([.ints x] ++ [Value.pointer (some ⟨b, 0, none⟩)].map Tr.raw) [Chunk.box b 3 [.int n]] (fun r cs => r = .bool (formB n x) ∧ cs = [Chunk.box b 3 [.int n]]) := by
 refine Spec.body Tryz.func67 rfl rfl (Tryz.ntmps67) rfl fun w0 own0 M => ?_
 have hx := intRows_len x
 repeat' (first | refine goH ?_ | refine goV ?_ | refine goI ?_ | (refine Cw.k_cond ?_; first | (refine Cw.cond_dec rfl ?_ ?_ <;> intro hc <;> try omega) | refine Cw.cond_bool rfl ?_ ?_ <;> intro hc) | fail)
 refine Fin.ret (Ent.take goTk) (Outs.one rfl rfl) ⟨congrArg Tr.bool ?_, rfl⟩
 unfold formB
 rw [Bool.eq_iff_iff, decide_eq_true_iff, decide_eq_true_iff, hx]
 omega
theorem bC_fn (x : Int) : PFn Tryz.prog 70 [.int x] (· = .bool (bC x)) := by
 refine PFn.mk (Spec.body Tryz.func70 rfl rfl (Tryz.ntmps70) rfl fun w0 own0 M => ?_)
 repeat' (first | refine goH ?_ | refine goV ?_ | refine goI ?_ | (refine Cw.k_cond ?_; first | (refine Cw.cond_dec rfl ?_ ?_ <;> intro hc <;> try omega) | refine Cw.cond_bool rfl ?_ ?_ <;> intro hc) | (refine Ops.k_calla ?_; first | (refine Ops.k_callf 19 ?_; refine Ops.callV (out_fn x 0 1000000000) (Evs.cons rfl (Evs.cons rfl (Evs.cons rfl Evs.nil))) rfl ?_)) | fail)
 refine Fin.ret (Ent.take goTk) (Outs.one rfl rfl) ⟨rfl, congrArg Tr.bool ?_⟩
 unfold bC outB
 rfl
theorem walE_3 {w : Wal} (h0 : sitE w.sites = 0) (h : badForm w = true) : walE w = 3 := by
 unfold walE
 rw [if_neg (by omega), if_pos h]
theorem walE_1 {w : Wal} (h0 : sitE w.sites = 0) (h : badForm w = false) (h1 : (w.rights.flatten ++ w.used).any bC = true) : walE w = 1 := by
 unfold walE
 rw [if_neg (by omega), if_neg (by rw [h]; decide), if_pos h1]
theorem walE_0 {w : Wal} (h0 : sitE w.sites = 0) (h : badForm w = false) (h1 : (w.rights.flatten ++ w.used).any bC = false) : walE w = firstE (rgtE w) 0 w.sites.length := by
 unfold walE
 rw [if_neg (by omega), if_neg (by rw [h]; decide), if_neg (by rw [h1]; decide)]
theorem checkWallet_fn (w : Wal) (hb : WBd w) : PFn Tryz.prog 34 [.wal w] (· = .int (walE w)) := by
 have hS := strRows_len w.sites
 have hR := intsR_len w.rights
 have hU := intRows_len w.used
 have n1 := hb.n1
 have nr := hb.r
 have nu := hb.u
 have kS := sitesFault_fn w.sites (by omega)
 have k1 : ∀ (n b : Nat), Spec Tryz.prog 66 [.sl 1 (intsR w.rights), Tr.raw (.func (.func 67) #[] [Value.pointer (some ⟨b, 0, none⟩)].toArray)] [Chunk.box b 3 [.int n]] (fun r cs => r = .bool (w.rights.any (formB n)) ∧ cs = [Chunk.box b 3 [.int n]]) := fun n b => containsFunc_intL (p := formB n) (caps := [.pointer (some ⟨b, 0, none⟩)]) (cin := [Chunk.box b 3 [.int n]]) (l := w.rights) (by omega) (fun x _ => formD_fn n b x)
 refine PFn.mk (Spec.body Tryz.func34 rfl rfl (Tryz.ntmps34) rfl fun w0 own0 M => ?_)
 by_cases h1 : sitE w.sites ≠ 0
 ·have e : walE w = sitE w.sites := by unfold walE; rw [if_pos h1]
  rw [e]
  generalize sitE w.sites = c at *
  repeat' (first | refine goH ?_ | refine goV ?_ | refine goB (fun b => ?_) | refine goG ?_ | (refine Ops.k_guard ?_; first | (refine Ops.guard_dec rfl rfl ?_ ?_ <;> intro hc <;> try omega) | refine Ops.guard_split rfl rfl ?_ ?_ <;> intro hc) | refine goI ?_ | (refine Cw.k_cond ?_; first | (refine Cw.cond_dec rfl ?_ ?_ <;> intro hc <;> try omega) | refine Cw.cond_bool rfl ?_ ?_ <;> intro hc) | (refine Ops.k_calla ?_; first | (refine Ops.k_callf 16 ?_; refine Ops.callV kS (Evs.cons rfl Evs.nil) rfl ?_)) | (apply OpW.k_call; first | (apply OpW.k_callf 16; exact OpW.callV kS (Evs.cons rfl Evs.nil))) | refine goR ?_ | refine goP ?_ | apply PSeq.cons | apply PSeq.yes rfl rfl rfl | exact goW | fail)
  exact Fin.ret (Ent.take goTk) (Outs.one rfl rfl) ⟨rfl, rfl⟩
 have h0 : sitE w.sites = 0 := by omega
 rw [h0] at kS
 repeat' (first | refine goH ?_ | refine goV ?_ | refine goB (fun b => ?_) | refine goG ?_ | (refine Ops.k_guard ?_; first | (refine Ops.guard_dec rfl rfl ?_ ?_ <;> intro hc <;> try omega) | refine Ops.guard_split rfl rfl ?_ ?_ <;> intro hc) | refine goI ?_ | (refine Cw.k_cond ?_; first | (refine Cw.cond_dec rfl ?_ ?_ <;> intro hc <;> try omega) | refine Cw.cond_bool rfl ?_ ?_ <;> intro hc) | (refine Ops.k_calla ?_; first | (refine Ops.k_callf 16 ?_; refine Ops.callV kS (Evs.cons rfl Evs.nil) rfl ?_) | (refine Ops.k_callf 66 ?_; (refine Ops.call (k1 _ _) (Evs.cons rfl (Evs.cons rfl Evs.nil)) goPm rfl ?_; rintro r cs' ⟨rfl, rfl⟩))) | (apply OpW.k_call; first | (apply OpW.k_callf 16; exact OpW.callV kS (Evs.cons rfl Evs.nil))) | fail)
 ·exact Fin.ret (Ent.take goTk) (Outs.one rfl rfl) ⟨rfl, congrArg Tr.int (walE_3 h0 (by unfold badForm; simp; omega)).symm⟩
 ·exact Fin.ret (Ent.take goTk) (Outs.one rfl rfl) ⟨rfl, congrArg Tr.int (walE_3 h0 (by unfold badForm; simp; omega)).symm⟩
 ·rename_i hc1 hc2
  rw [hS] at hc
  exact Fin.ret (Ent.take goTk) (Outs.one rfl rfl) ⟨rfl, congrArg Tr.int (walE_3 h0 (by unfold badForm; rw [hc]; simp)).symm⟩
 rename_i hc1 hc2
 rw [hS] at hc
 have hbf : badForm w = false := by unfold badForm; rw [Bool.or_eq_false_iff, Bool.or_eq_false_iff]; exact ⟨by simp; omega, by simp; omega, by simpa using hc⟩
 have q1 : w.rights.flatten.length ≤ 10000 := flat_bd (n := 100) (m := 100) hb.rr (by omega)
 have hfl := intRows_len w.rights.flatten
 have k2 := (concat_fn w.rights (by omega) (by omega)).val
 have e3 : [w.rights.flatten, w.used].flatten = w.rights.flatten ++ w.used := by simp
 have k3 := (concat_fn [w.rights.flatten, w.used] (by simp) (by rw [e3, List.length_append]; omega)).val
 rw [e3] at k3
 have k4 : Spec Tryz.prog 68 [.ints (w.rights.flatten ++ w.used), Tr.raw (.func (.func 70) #[] #[])] [] (fun r cs => r = .bool ((w.rights.flatten ++ w.used).any bC) ∧ cs = []) := containsFunc_int (p := bC) (caps := []) (cin := []) (l := w.rights.flatten ++ w.used) (by rw [List.length_append]; omega) (fun x _ => (bC_fn x).lend)
 have hW3 := walE_1 h0 hbf
 have hW4 := walE_0 h0 hbf
 have hwo := wok_of h0 hbf
 by_cases g1 : (w.rights.flatten ++ w.used).any bC = true
 ·have e := hW3 g1
  rw [g1] at k4
  clear hW4 hwo
  repeat' (first | refine goH ?_ | refine goV ?_ | refine goB (fun b => ?_) | refine goG ?_ | (refine Ops.k_guard ?_; first | (refine Ops.guard_dec rfl rfl ?_ ?_ <;> intro hc <;> try omega) | refine Ops.guard_split rfl rfl ?_ ?_ <;> intro hc) | refine goI ?_ | (refine Cw.k_cond ?_; first | (refine Cw.cond_dec rfl ?_ ?_ <;> intro hc <;> try omega) | refine Cw.cond_bool rfl ?_ ?_ <;> intro hc) | (refine Ops.k_calla ?_; first | (refine Ops.k_callf 69 ?_; refine Ops.callV k2 (Evs.cons rfl Evs.nil) rfl ?_) | (refine Ops.k_callf 69 ?_; refine Ops.callV k3 (Evs.cons rfl Evs.nil) rfl ?_) | (refine Ops.k_callf 68 ?_; refine Ops.callS k4 (Evs.cons rfl (Evs.cons rfl Evs.nil)) (List.Perm.refl _) rfl ?_)) | (apply OpW.k_call; first | (apply OpW.k_callf 69; exact OpW.callV k2 (Evs.cons rfl Evs.nil)) | (apply OpW.k_callf 69; exact OpW.callV k3 (Evs.cons rfl Evs.nil)) | (apply OpW.k_callf 68; exact OpW.callS k4 (Evs.cons rfl (Evs.cons rfl Evs.nil)) (List.Perm.refl _))) | refine goR ?_ | refine goP ?_ | apply PSeq.cons | apply PSeq.yes rfl rfl rfl | exact goW | fail)
  exact Fin.ret (Ent.take goTk) (Outs.one rfl rfl) ⟨rfl, congrArg Tr.int e.symm⟩
 have g0 : (w.rights.flatten ++ w.used).any bC = false := by simpa using g1
 have hV0 := hW4 g0
 have hw := hwo g0
 rw [g0] at k4
 clear hW4 hwo hW3 g1
 repeat' (first | refine goH ?_ | refine goV ?_ | refine goB (fun b => ?_) | refine goG ?_ | (refine Ops.k_guard ?_; first | (refine Ops.guard_dec rfl rfl ?_ ?_ <;> intro hc <;> try omega) | refine Ops.guard_split rfl rfl ?_ ?_ <;> intro hc) | refine goI ?_ | (refine Cw.k_cond ?_; first | (refine Cw.cond_dec rfl ?_ ?_ <;> intro hc <;> try omega) | refine Cw.cond_bool rfl ?_ ?_ <;> intro hc) | (refine Ops.k_calla ?_; first | (refine Ops.k_callf 69 ?_; refine Ops.callV k2 (Evs.cons rfl Evs.nil) rfl ?_) | (refine Ops.k_callf 69 ?_; refine Ops.callV k3 (Evs.cons rfl Evs.nil) rfl ?_) | (refine Ops.k_callf 68 ?_; refine Ops.callS k4 (Evs.cons rfl (Evs.cons rfl Evs.nil)) (List.Perm.refl _) rfl ?_)) | (apply OpW.k_call; first | (apply OpW.k_callf 69; exact OpW.callV k2 (Evs.cons rfl Evs.nil)) | (apply OpW.k_callf 69; exact OpW.callV k3 (Evs.cons rfl Evs.nil)) | (apply OpW.k_callf 68; exact OpW.callS k4 (Evs.cons rfl (Evs.cons rfl Evs.nil)) (List.Perm.refl _))) | refine goR ?_ | refine goP ?_ | apply PSeq.cons | apply PSeq.yes rfl rfl rfl | exact goW | fail)
 clear k1 k2 k3 k4 e3
 refine Cw.loopI [(1, _), (43, _)] _ (fun q e cc => ∃ (k : Nat), q = w.sites.length - k ∧ (k ≤ w.sites.length ∧ walE w = firstE (rgtE w) k (w.sites.length - k)) ∧ e = [(44, .int k)] ∧ cc = []) ⟨_, _, _, (Ent.mkP goSub goPm), 0, rfl, ⟨by omega, hV0⟩, rfl, rfl⟩ ?_
 clear hV0
 rintro _ _ _ ⟨k, rfl, ⟨hk, hV⟩, rfl, rfl⟩
 by_cases hkl : k < w.sites.length
 rotate_left
 ·repeat' (first | refine goH ?_ | refine goV ?_ | refine goB (fun b => ?_) | refine goG ?_ | (refine Ops.k_guard ?_; first | (refine Ops.guard_dec rfl rfl ?_ ?_ <;> intro hc <;> try omega) | refine Ops.guard_split rfl rfl ?_ ?_ <;> intro hc) | refine goI ?_ | (refine Cw.k_cond ?_; first | (refine Cw.cond_dec rfl ?_ ?_ <;> intro hc <;> try omega) | refine Cw.cond_bool rfl ?_ ?_ <;> intro hc) | refine goR ?_ | refine goP ?_ | apply PSeq.cons | apply PSeq.yes rfl rfl rfl | exact goW | fail)
  refine Fin.ret (Ent.take goTk) (Outs.one rfl rfl) ⟨rfl, congrArg Tr.int ?_⟩
  rw [hV, firstE_end hkl]
 have kR := rightsD_fn w hw k hkl
 have fin : ∀ c, rgtE w k = c → c ≠ 0 → walE w = c := fun c h1 h2 => hV.trans (firstE_bad hkl h1 h2)
 have nxt : rgtE w k = 0 → walE w = firstE (rgtE w) (k + 1) (w.sites.length - (k + 1)) := fun h1 => hV.trans (firstE_ok hkl h1)
 have hE : rgtE w k = if rgt w k < 0 then 16 else 0 := rfl
 clear hV
 by_cases g : rgt w k < 0
 ·rw [if_pos g] at hE
  have hF := fin 16 hE (by decide)
  clear fin nxt
  repeat' (first | refine goH ?_ | refine goV ?_ | refine goB (fun b => ?_) | refine goG ?_ | (refine Ops.k_guard ?_; first | (refine Ops.guard_dec rfl rfl ?_ ?_ <;> intro hc <;> try omega) | refine Ops.guard_split rfl rfl ?_ ?_ <;> intro hc) | refine goI ?_ | (refine Cw.k_cond ?_; first | (refine Cw.cond_dec rfl ?_ ?_ <;> intro hc <;> try omega) | refine Cw.cond_bool rfl ?_ ?_ <;> intro hc) | (refine Ops.k_calla ?_; first | (refine Ops.k_callf 32 ?_; refine Ops.callV kR (Evs.cons rfl (Evs.cons rfl Evs.nil)) rfl ?_)) | (apply OpW.k_call; first | (apply OpW.k_callf 32; exact OpW.callV kR (Evs.cons rfl (Evs.cons rfl Evs.nil)))) | refine goR ?_ | refine goP ?_ | apply PSeq.cons | apply PSeq.yes rfl rfl rfl | exact goW | fail)
  exact Fin.ret (Ent.take goTk) (Outs.one rfl rfl) ⟨rfl, congrArg Tr.int hF.symm⟩
 ·rw [if_neg g] at hE
  have hN := nxt hE
  clear fin nxt
  repeat' (first | refine goH ?_ | refine goV ?_ | refine goB (fun b => ?_) | refine goG ?_ | (refine Ops.k_guard ?_; first | (refine Ops.guard_dec rfl rfl ?_ ?_ <;> intro hc <;> try omega) | refine Ops.guard_split rfl rfl ?_ ?_ <;> intro hc) | refine goI ?_ | (refine Cw.k_cond ?_; first | (refine Cw.cond_dec rfl ?_ ?_ <;> intro hc <;> try omega) | refine Cw.cond_bool rfl ?_ ?_ <;> intro hc) | (refine Ops.k_calla ?_; first | (refine Ops.k_callf 32 ?_; refine Ops.callV kR (Evs.cons rfl (Evs.cons rfl Evs.nil)) rfl ?_)) | (apply OpW.k_call; first | (apply OpW.k_callf 32; exact OpW.callV kR (Evs.cons rfl (Evs.cons rfl Evs.nil)))) | refine goR ?_ | refine goP ?_ | apply PSeq.cons | apply PSeq.yes rfl rfl rfl | exact goW | fail)
  exact ⟨_, _, _, (Ent.mk goSub goTk), ⟨k + 1, rfl, ⟨by omega, hN⟩, rfl, rfl⟩, by omega⟩
end Lg
end
section
set_option linter.all false
set_option maxRecDepth 100000
set_option maxHeartbeats 8000000
namespace Lg
open Go Go.Proofs

theorem drop_ne {a b : List ByteArray} {k : Nat} {x y : ByteArray} (h1 : a[k]? = some x) (h2 : b[k]? = some y) (h : x ≠ y) : a ≠ b := by
 rintro rfl
 rw [h1] at h2
 exact h (Option.some.inj h2)
theorem equalStrs_fn (a b : List ByteArray) (ha : a.length ≤ 1000000) (hb : b.length ≤ 1000000) : PFn Tryz.prog 65 [.strs a, .strs b] (· = .bool (decide (a = b))) := by
 refine PFn.mk (Spec.body Tryz.func65 rfl rfl (Tryz.ntmps65) rfl fun w0 own0 M => ?_)
 have hA := strRows_len a
 have hB := strRows_len b
 by_cases hl : a.length = b.length
 rotate_left
 ·have e : decide (a = b) = false := decide_eq_false (fun e => hl (by rw [e]))
  repeat' (first | refine goH ?_ | refine goV ?_ | refine goI ?_ | (refine Cw.k_cond ?_; first | (refine Cw.cond_dec rfl ?_ ?_ <;> intro hc <;> try omega) | refine Cw.cond_bool rfl ?_ ?_ <;> intro hc) | refine goR ?_ | refine goP ?_ | apply PSeq.cons | apply PSeq.yes rfl rfl rfl | exact goW | fail)
  exact Fin.ret (Ent.take goTk) (Outs.one rfl rfl) ⟨rfl, congrArg Tr.bool e.symm⟩
 repeat' (first | refine goH ?_ | refine goV ?_ | refine goI ?_ | (refine Cw.k_cond ?_; first | (refine Cw.cond_dec rfl ?_ ?_ <;> intro hc <;> try omega) | refine Cw.cond_bool rfl ?_ ?_ <;> intro hc) | refine goR ?_ | refine goP ?_ | apply PSeq.cons | apply PSeq.yes rfl rfl rfl | exact goW | fail)
 refine Cw.loopI [(0, _), (1, _), (11, _), (12, _)] _ (fun q e cc => ∃ (k : Nat), q = a.length - k ∧ (k ≤ a.length ∧ ∀ j, j < k → a[j]? = b[j]?) ∧ e = [(13, .int k)] ∧ cc = []) ⟨_, _, _, (Ent.mkP goSub goPm), 0, rfl, ⟨by omega, fun j h => absurd h (by omega)⟩, rfl, rfl⟩ ?_
 rintro _ _ _ ⟨k, rfl, ⟨hk, hV⟩, rfl, rfl⟩
 by_cases hkl : k < a.length
 ·obtain ⟨x, hx⟩ := at_lt hkl
  obtain ⟨y, hy⟩ := at_lt (l := b) (k := k) (by omega)
  have hr1 := strRows_at hx
  have hr2 := strRows_at hy
  by_cases hxy : x = y
  ·have nx : ∀ j, j < k + 1 → a[j]? = b[j]? := by
    intro j hj
    by_cases e : j = k
    ·subst e; rw [hx, hy, hxy]
    ·exact hV j (by omega)
   subst hxy
   clear hV
   repeat' (first | refine goH ?_ | refine goV ?_ | refine goI ?_ | (refine Cw.k_cond ?_; first | (refine Cw.cond_dec rfl ?_ ?_ <;> intro hc <;> try omega) | refine Cw.cond_bool rfl ?_ ?_ <;> intro hc) | refine goR ?_ | refine goP ?_ | apply PSeq.cons | apply PSeq.yes rfl rfl rfl | exact goW | fail)
   all_goals first | exact ⟨_, _, _, (Ent.mk goSub goTk), ⟨k + 1, rfl, ⟨by omega, nx⟩, rfl, rfl⟩, by omega⟩ | exact absurd rfl hc
  ·have e : decide (a = b) = false := decide_eq_false (drop_ne hx hy hxy)
   clear hV
   repeat' (first | refine goH ?_ | refine goV ?_ | refine goI ?_ | (refine Cw.k_cond ?_; first | (refine Cw.cond_dec rfl ?_ ?_ <;> intro hc <;> try omega) | refine Cw.cond_bool rfl ?_ ?_ <;> intro hc) | refine goR ?_ | refine goP ?_ | apply PSeq.cons | apply PSeq.yes rfl rfl rfl | exact goW | fail)
   all_goals first | exact Fin.ret (Ent.take goTk) (Outs.one rfl rfl) ⟨rfl, congrArg Tr.bool e.symm⟩ | (exfalso; simp_all; done)
 ·have e : decide (a = b) = true := by
   refine decide_eq_true (List.ext_getElem? fun j => ?_)
   by_cases hj : j < k
   ·exact hV j hj
   ·rw [List.getElem?_eq_none (by omega), List.getElem?_eq_none (by omega)]
  clear hV
  repeat' (first | refine goH ?_ | refine goV ?_ | refine goI ?_ | (refine Cw.k_cond ?_; first | (refine Cw.cond_dec rfl ?_ ?_ <;> intro hc <;> try omega) | refine Cw.cond_bool rfl ?_ ?_ <;> intro hc) | refine goR ?_ | refine goP ?_ | apply PSeq.cons | apply PSeq.yes rfl rfl rfl | exact goW | fail)
  exact Fin.ret (Ent.take goTk) (Outs.one rfl rfl) ⟨rfl, congrArg Tr.bool e.symm⟩
def pairE (a b : Wal) : Int := if orI [walE a, walE b] ≠ 0 then orI [walE a, walE b] else if decide (a.sites = b.sites) = true then 0 else 3
theorem pairE_ok {a b : Wal} (h : pairE a b = 0) : walE a = 0 ∧ walE b = 0 ∧ b.sites = a.sites := by
 unfold pairE at h
 by_cases h1 : orI [walE a, walE b] ≠ 0
 ·rw [if_pos h1] at h; exact absurd h h1
 rw [if_neg h1] at h
 by_cases h2 : decide (a.sites = b.sites) = true
 ·have h1' : orI [walE a, walE b] = 0 := by omega
  rw [orI_cons] at h1'
  by_cases g : walE a ≠ 0
  ·rw [if_pos g] at h1'; exact absurd h1' g
  rw [if_neg g, orI_cons] at h1'
  by_cases g2 : walE b ≠ 0
  ·rw [if_pos g2] at h1'; exact absurd h1' g2
  exact ⟨by omega, by omega, (of_decide_eq_true h2).symm⟩
 ·rw [if_neg h2] at h; cases h
theorem pairD_fn (a b : Wal) (ha : WBd a) (hb : WBd b) : PFn Tryz.prog 33 [.wal a, .wal b] (· = .int (pairE a b)) := by
 have kA := checkWallet_fn a ha
 have kB := checkWallet_fn b hb
 have n1 := ha.n1
 have n2 := hb.n1
 have kO := cmpOr_fn [walE a, walE b] (by simp)
 have kE := equalStrs_fn a.sites b.sites (by omega) (by omega)
 refine PFn.mk (Spec.body Tryz.func33 rfl rfl (Tryz.ntmps33) rfl fun w0 own0 M => ?_)
 unfold pairE
 by_cases h1 : orI [walE a, walE b] ≠ 0
 ·rw [if_pos h1]
  generalize hX : walE a = x at *
  generalize hY : walE b = y at *
  generalize orI [x, y] = o at *
  repeat' (first | refine goH ?_ | refine goV ?_ | refine goB (fun b => ?_) | refine goI ?_ | (refine Cw.k_cond ?_; first | (refine Cw.cond_dec rfl ?_ ?_ <;> intro hc <;> try omega) | refine Cw.cond_bool rfl ?_ ?_ <;> intro hc) | (refine Ops.k_calla ?_; first | (refine Ops.k_callf 34 ?_; refine Ops.callV kA (Evs.cons rfl Evs.nil) rfl ?_) | (refine Ops.k_callf 34 ?_; refine Ops.callV kB (Evs.cons rfl Evs.nil) rfl ?_) | (refine Ops.k_callf 24 ?_; refine Ops.callV kO (Evs.cons rfl Evs.nil) rfl ?_)) | (apply OpW.k_call; first | (apply OpW.k_callf 34; exact OpW.callV kA (Evs.cons rfl Evs.nil)) | (apply OpW.k_callf 34; exact OpW.callV kB (Evs.cons rfl Evs.nil)) | (apply OpW.k_callf 24; exact OpW.callV kO (Evs.cons rfl Evs.nil))) | refine goR ?_ | refine goP ?_ | apply PSeq.cons | apply PSeq.yes rfl rfl rfl | exact goW | fail)
  exact Fin.ret (Ent.take goTk) (Outs.one rfl rfl) ⟨rfl, rfl⟩
 ·rw [if_neg h1]
  have h0 : orI [walE a, walE b] = 0 := by omega
  rw [h0] at kO
  generalize hX : walE a = x at *
  generalize hY : walE b = y at *
  by_cases h2 : decide (a.sites = b.sites) = true
  ·rw [if_pos h2]
   rw [h2] at kE
   repeat' (first | refine goH ?_ | refine goV ?_ | refine goB (fun b => ?_) | refine goI ?_ | (refine Cw.k_cond ?_; first | (refine Cw.cond_dec rfl ?_ ?_ <;> intro hc <;> try omega) | refine Cw.cond_bool rfl ?_ ?_ <;> intro hc) | (refine Ops.k_calla ?_; first | (refine Ops.k_callf 34 ?_; refine Ops.callV kA (Evs.cons rfl Evs.nil) rfl ?_) | (refine Ops.k_callf 34 ?_; refine Ops.callV kB (Evs.cons rfl Evs.nil) rfl ?_) | (refine Ops.k_callf 24 ?_; refine Ops.callV kO (Evs.cons rfl Evs.nil) rfl ?_) | (refine Ops.k_callf 65 ?_; refine Ops.callV kE (Evs.cons rfl (Evs.cons rfl Evs.nil)) rfl ?_)) | (apply OpW.k_call; first | (apply OpW.k_callf 34; exact OpW.callV kA (Evs.cons rfl Evs.nil)) | (apply OpW.k_callf 34; exact OpW.callV kB (Evs.cons rfl Evs.nil)) | (apply OpW.k_callf 24; exact OpW.callV kO (Evs.cons rfl Evs.nil)) | (apply OpW.k_callf 65; exact OpW.callV kE (Evs.cons rfl (Evs.cons rfl Evs.nil)))) | refine goR ?_ | refine goP ?_ | apply PSeq.cons | apply PSeq.yes rfl rfl rfl | exact goW | fail)
   exact Fin.ret (Ent.take goTk) (Outs.one rfl rfl) ⟨rfl, rfl⟩
  ·rw [if_neg h2]
   have h3 : decide (a.sites = b.sites) = false := by simpa using h2
   rw [h3] at kE
   repeat' (first | refine goH ?_ | refine goV ?_ | refine goB (fun b => ?_) | refine goI ?_ | (refine Cw.k_cond ?_; first | (refine Cw.cond_dec rfl ?_ ?_ <;> intro hc <;> try omega) | refine Cw.cond_bool rfl ?_ ?_ <;> intro hc) | (refine Ops.k_calla ?_; first | (refine Ops.k_callf 34 ?_; refine Ops.callV kA (Evs.cons rfl Evs.nil) rfl ?_) | (refine Ops.k_callf 34 ?_; refine Ops.callV kB (Evs.cons rfl Evs.nil) rfl ?_) | (refine Ops.k_callf 24 ?_; refine Ops.callV kO (Evs.cons rfl Evs.nil) rfl ?_) | (refine Ops.k_callf 65 ?_; refine Ops.callV kE (Evs.cons rfl (Evs.cons rfl Evs.nil)) rfl ?_)) | (apply OpW.k_call; first | (apply OpW.k_callf 34; exact OpW.callV kA (Evs.cons rfl Evs.nil)) | (apply OpW.k_callf 34; exact OpW.callV kB (Evs.cons rfl Evs.nil)) | (apply OpW.k_callf 24; exact OpW.callV kO (Evs.cons rfl Evs.nil)) | (apply OpW.k_callf 65; exact OpW.callV kE (Evs.cons rfl (Evs.cons rfl Evs.nil)))) | refine goR ?_ | refine goP ?_ | apply PSeq.cons | apply PSeq.yes rfl rfl rfl | exact goW | fail)
   exact Fin.ret (Ent.take goTk) (Outs.one rfl rfl) ⟨rfl, rfl⟩
end Lg
end
section
set_option linter.all false
set_option maxRecDepth 100000
set_option maxHeartbeats 4000000
namespace Lg
open Go Go.Proofs

/-! ### merged wallets, and what a wallet knows -/
def mxL (x y : List Int) : List Int := List.zipWith max x y
def mxR (A B : List (List Int)) : List (List Int) := List.zipWith mxL A B
def mrgW (a b : Wal) : Wal := ⟨a.sites, mxR a.rights b.rights, mxL a.used b.used⟩
theorem mxL_len {x y : List Int} (h : y.length = x.length) : (mxL x y).length = x.length := by unfold mxL; rw [List.length_zipWith]; omega
theorem mxR_len {x y : List (List Int)} (h : y.length = x.length) : (mxR x y).length = x.length := by unfold mxR; rw [List.length_zipWith]; omega
theorem mxL_at {x y : List Int} {k : Nat} {a b : Int} (h1 : x[k]? = some a) (h2 : y[k]? = some b) : (mxL x y)[k]? = some (max a b) := by unfold mxL; rw [List.getElem?_zipWith, h1, h2]
theorem mxR_at {x y : List (List Int)} {k : Nat} {a b : List Int} (h1 : x[k]? = some a) (h2 : y[k]? = some b) : (mxR x y)[k]? = some (mxL a b) := by unfold mxR; rw [List.getElem?_zipWith, h1, h2]
/-- a list that is replaced from the front on -/
def mixL {α : Type} (m l : List α) (k : Nat) : List α := m.take k ++ l.drop k
theorem mixL_zero {α : Type} (m l : List α) : mixL m l 0 = l := by simp [mixL]
theorem mixL_all {α : Type} {m l : List α} {k : Nat} (h : m.length = l.length) (hk : l.length ≤ k) : mixL m l k = m := by unfold mixL; rw [List.take_of_length_le (by omega), List.drop_of_length_le hk, List.append_nil]
theorem mixL_at {α : Type} {m l : List α} {k : Nat} (h : m.length = l.length) (hk : k < l.length) : (mixL m l k)[k]? = l[k]? := by
 unfold mixL
 rw [List.getElem?_append_right (by rw [List.length_take]; omega), List.length_take, List.getElem?_drop, Nat.min_eq_left (by omega)]
 congr 1
 omega
theorem mixL_set {α : Type} {m l : List α} {k : Nat} {x : α} (h : m.length = l.length) (hx : m[k]? = some x) : (mixL m l k).set k x = mixL m l (k + 1) := by
 have hk := (List.getElem?_eq_some_iff.1 hx).1
 unfold mixL
 rw [List.set_append_right _ _ (by rw [List.length_take]; omega), List.length_take, Nat.min_eq_left (by omega), Nat.sub_self]
 have e : l.drop k = l[k] :: l.drop (k + 1) := List.drop_eq_getElem_cons (by omega)
 rw [e, List.set_cons_zero]
 have e2 : m.take (k + 1) = m.take k ++ [x] := by
  rw [List.take_succ, hx]
  rfl
 rw [e2, List.append_assoc]
 rfl
theorem WOk.mrg {a b : Wal} (ha : WOk a) (hb : WOk b) (hs : b.sites = a.sites) : WOk (mrgW a b) := by
 have h1 := ha.r
 have h2 := hb.r
 have h3 := ha.u
 have h4 := hb.u
 rw [hs] at h2 h4
 have mem2 : ∀ {x y : List Int}, (∀ n ∈ x, 0 ≤ n ∧ n ≤ 1000000000) → (∀ n ∈ y, 0 ≤ n ∧ n ≤ 1000000000) → ∀ n ∈ mxL x y, 0 ≤ n ∧ n ≤ 1000000000 := by
  intro x y hx hy n hn
  obtain ⟨k, hk, rfl⟩ := List.getElem_of_mem hn
  unfold mxL at hk ⊢
  rw [List.length_zipWith] at hk
  rw [List.getElem_zipWith]
  have := hx _ (List.getElem_mem (show k < x.length by omega))
  have := hy _ (List.getElem_mem (show k < y.length by omega))
  omega
 have memR : ∀ l ∈ mxR a.rights b.rights, ∃ x y, x ∈ a.rights ∧ y ∈ b.rights ∧ l = mxL x y := by
  intro l hl
  obtain ⟨k, hk, rfl⟩ := List.getElem_of_mem hl
  unfold mxR at hk ⊢
  rw [List.length_zipWith] at hk
  exact ⟨_, _, List.getElem_mem (show k < a.rights.length by omega), List.getElem_mem (show k < b.rights.length by omega), by rw [List.getElem_zipWith]⟩
 refine ⟨ha.n1, by show (mxR a.rights b.rights).length = _; rw [mxR_len (by omega)]; exact h1, by show (mxL a.used b.used).length = _; rw [mxL_len (by omega)]; exact h3, ?_, mem2 ha.ru hb.ru, ?_⟩
 ·intro l hl
  obtain ⟨x, y, hx, hy, rfl⟩ := memR l hl
  have e1 := ha.rr x hx
  have e2 := hb.rr y hy
  rw [hs] at e2
  rw [mxL_len (by omega)]
  exact e1
 ·intro l hl
  obtain ⟨x, y, hx, hy, rfl⟩ := memR l hl
  exact mem2 (ha.rx x hx) (hb.rx y hy)

def geL (x y : List Int) : Prop := ∀ (k : Nat) (a b : Int), x[k]? = some a → y[k]? = some b → ¬ a < b
noncomputable instance (x y : List Int) : Decidable (geL x y) := Classical.propDecidable _
end Lg
end
