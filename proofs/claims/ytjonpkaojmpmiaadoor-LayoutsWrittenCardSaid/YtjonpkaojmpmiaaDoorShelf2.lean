/- A part of the proof of a law of this seat: it adds no condition. By an AI agent. -/
import Derived.Shelf.Strings.Search3
import Derived.Shelf.Strings.Count
import Derived.Test.YtjonpkaojmpmiaaDoorProg
import Derived.Test.YtjonpkaojmpmiaaDoorLgExs
import Derived.Test.YtjonpkaojmpmiaaDoorBld
section
set_option linter.all false
set_option maxRecDepth 100000
set_option maxHeartbeats 8000000
namespace Lg
open Go Go.Proofs

/-! ### Print: the text of a layout -/
abbrev dotB : ByteArray := ⟨#[46]⟩
abbrev spB : ByteArray := ⟨#[32]⟩
abbrev nlB : ByteArray := ⟨#[10]⟩
def dotS (s : ByteArray) : ByteArray := if s = eL then dotB else s
def sepS (C k : Nat) : ByteArray := if (k : Int) % (C : Int) = (C : Int) - 1 then nlB else spB
def layT (C : Nat) (x : List ByteArray) : Nat → ByteArray
  | 0 => eL
  | k + 1 => (layT C x k ++ dotS (x.getD k eL)) ++ sepS C k
theorem dotS_size {s : ByteArray} (h : s.size ≤ 1000) : (dotS s).size ≤ 1000 := by
  unfold dotS
  split
  · show 1 ≤ 1000
    omega
  · exact h
theorem sepS_size (C k : Nat) : (sepS C k).size = 1 := by
  unfold sepS
  split <;> rfl
theorem getD_size {x : List ByteArray} (h : ∀ s ∈ x, s.size ≤ 1000) (k : Nat) : (x.getD k eL).size ≤ 1000 := by
  rw [List.getD_eq_getElem?_getD]
  cases hk : x[k]? with
  | none => show 0 ≤ 1000; omega
  | some s => exact h s (List.mem_of_getElem? hk)
theorem layT_size (C : Nat) {x : List ByteArray} (h : ∀ s ∈ x, s.size ≤ 1000) : ∀ k, (layT C x k).size ≤ 1001 * k
  | 0 => Nat.le_refl _
  | k + 1 => by
    have ih := layT_size C h k
    have h1 := dotS_size (getD_size h k)
    have h2 := sepS_size C k
    rw [layT, ByteArray.size_append, ByteArray.size_append]
    omega
theorem orS_fn (a : ByteArray) : PFn Tryd.prog 40 [.sl 1 [[.str a], [.str dotB]]] (· = .str (dotS a)) := by
  have hnd : ¬ dotB = eL := by decide
  refine PFn.mk (Spec.body Tryd.func40 rfl rfl (Tryd.ntmps40) rfl fun w0 own0 M => ?_)
  repeat' (first | refine goH ?_ | refine goV ?_ | refine goI ?_ | (refine Cw.k_cond ?_; first | (refine Cw.cond_dec rfl (fun hc => ?_) (fun hc => ?_) <;> try (exfalso; omega)) | refine Cw.cond_bool rfl (fun hc => ?_) (fun hc => ?_)) | fail)
  refine Cw.loopI [(3, _), (6, _), (7, _)] _ (fun q e c => ∃ k : Nat, q = 2 - k ∧ (k = 0 ∨ (k = 1 ∧ a = eL)) ∧ e = [(8, .int k)] ∧ c = []) ⟨_, _, _, (Ent.mkP goSub goPm), 0, rfl, .inl rfl, rfl, rfl⟩ ?_
  rintro _ _ _ ⟨k, rfl, hk, rfl, rfl⟩
  rcases hk with rfl | ⟨rfl, ha⟩
  · unfold dotS
    by_cases h : a = eL
    · rw [if_pos h]
      have hrow : ([[Tr.str a], [Tr.str dotB]] : List (List Tr))[((0 : Nat) : Int).toNat]? = some [Tr.str a] := rfl
      repeat' (first | refine goH ?_ | refine goV ?_ | refine goI ?_ | (refine Cw.k_cond ?_; first | (refine Cw.cond_dec rfl (fun hc => ?_) (fun hc => ?_) <;> try (exfalso; omega)) | refine Cw.cond_bool rfl (fun hc => ?_) (fun hc => ?_)) | fail)
      all_goals first | (exfalso; contradiction) | exact ⟨_, _, _, (Ent.mk goSub goTk), ⟨1, rfl, .inr ⟨rfl, h⟩, rfl, rfl⟩, by omega⟩
    · rw [if_neg h]
      have hrow : ([[Tr.str a], [Tr.str dotB]] : List (List Tr))[((0 : Nat) : Int).toNat]? = some [Tr.str a] := rfl
      repeat' (first | refine goH ?_ | refine goV ?_ | refine goI ?_ | (refine Cw.k_cond ?_; first | (refine Cw.cond_dec rfl (fun hc => ?_) (fun hc => ?_) <;> try (exfalso; omega)) | refine Cw.cond_bool rfl (fun hc => ?_) (fun hc => ?_)) | fail)
      all_goals first | (exfalso; contradiction) | exact Fin.ret (Ent.take goTk) (Outs.one rfl rfl) ⟨rfl, rfl⟩
  · unfold dotS
    rw [if_pos ha]
    have hrow : ([[Tr.str a], [Tr.str dotB]] : List (List Tr))[((1 : Nat) : Int).toNat]? = some [Tr.str dotB] := rfl
    repeat' (first | refine goH ?_ | refine goV ?_ | refine goI ?_ | (refine Cw.k_cond ?_; first | (refine Cw.cond_dec rfl (fun hc => ?_) (fun hc => ?_) <;> try (exfalso; omega)) | refine Cw.cond_bool rfl (fun hc => ?_) (fun hc => ?_)) | fail)
    all_goals first | (exfalso; contradiction) | exact Fin.ret (Ent.take goTk) (Outs.one rfl rfl) ⟨rfl, rfl⟩ | (exfalso; simp_all; done)
theorem layoutText_fn (R C : Nat) (hC : 1 ≤ C ∧ C ≤ 1000) (hR : R ≤ 1000) (x : List ByteArray) (hx : x.length ≤ 1000) (hz : ∀ s ∈ x, s.size ≤ 1000) : PFn Tryd.prog 17 [.agg [.int R, .int C], .strs x] (· = .str (layT C x x.length)) := by
  have hxl := strRows_len x
  refine PFn.mk (Spec.body Tryd.func17 rfl rfl (Tryd.ntmps17) rfl fun w0 own0 M => ?_)
  repeat' (first | refine goH ?_ | refine goV ?_ | refine goB (fun b => ?_) | refine goI ?_ | (refine Cw.k_cond ?_; first | (refine Cw.cond_dec rfl (fun hc => ?_) (fun hc => ?_) <;> try (exfalso; omega)) | refine Cw.cond_bool rfl (fun hc => ?_) (fun hc => ?_)) | refine goR ?_ | refine goP ?_ | apply PSeq.cons | apply PSeq.yes rfl rfl rfl | exact goW | fail)
  refine Cw.loopI [(2, _), (8, _), (9, _)] _ (fun q e c => ∃ (k : Nat) (t : ByteArray), q = x.length - k ∧ (k ≤ x.length ∧ t = layT C x k) ∧ e = [(5, .str t), (10, .int k)] ∧ c = []) ⟨_, _, _, (Ent.mkP goSub goPm), 0, eL, rfl, ⟨by omega, rfl⟩, rfl, rfl⟩ ?_
  rintro _ _ _ ⟨k, t, rfl, ⟨hk, ht⟩, rfl, rfl⟩
  by_cases hkl : k < x.length
  · have hrow := getD_row (a := x) hkl
    have hs := dotS_size (getD_size hz k)
    have hT := layT_size C hz k
    have hnext : layT C x (k + 1) = (t ++ dotS (x.getD k eL)) ++ sepS C k := by rw [layT, ← ht]
    rw [← ht] at hT
    have h1 : ByteArray.size ⟨#[46]⟩ = 1 := rfl
    have h2 : ByteArray.size ⟨#[32]⟩ = 1 := rfl
    have h3 : ByteArray.size ⟨#[10]⟩ = 1 := rfl
    generalize x.getD k eL = s at *
    clear ht
    unfold dotS at hnext hs
    unfold sepS at hnext
    have ha := ByteArray.size_append (a := t) (b := s)
    have hb := ByteArray.size_append (a := t) (b := ⟨#[46]⟩)
    by_cases hse : s = eL
    · rw [if_pos hse] at hnext hs
      repeat' (first | refine goH ?_ | (refine Ops.k_b_add ?_; first | (first | refine Ops.catB rfl rfl (by omega) rfl ?_ | refine Ops.add rfl rfl (by omega) rfl ?_)) | refine goV ?_ | refine goB (fun b => ?_) | refine goI ?_ | (refine Cw.k_cond ?_; first | (refine Cw.cond_dec rfl (fun hc => ?_) (fun hc => ?_) <;> try (exfalso; omega)) | refine Cw.cond_bool rfl (fun hc => ?_) (fun hc => ?_)) | refine goR ?_ | refine goP ?_ | apply PSeq.cons | apply PSeq.yes rfl rfl rfl | exact goW | fail)
      all_goals first
        | (exfalso; contradiction)
        | (rw [if_pos (by assumption)] at hnext; exact ⟨_, _, _, (Ent.mk goSub goTk), ⟨k + 1, _, rfl, ⟨by omega, hnext.symm⟩, rfl, rfl⟩, by omega⟩)
        | (rw [if_neg (by assumption)] at hnext; exact ⟨_, _, _, (Ent.mk goSub goTk), ⟨k + 1, _, rfl, ⟨by omega, hnext.symm⟩, rfl, rfl⟩, by omega⟩)
    · rw [if_neg hse] at hnext hs
      repeat' (first | refine goH ?_ | (refine Ops.k_b_add ?_; first | (first | refine Ops.catB rfl rfl (by omega) rfl ?_ | refine Ops.add rfl rfl (by omega) rfl ?_)) | refine goV ?_ | refine goB (fun b => ?_) | refine goI ?_ | (refine Cw.k_cond ?_; first | (refine Cw.cond_dec rfl (fun hc => ?_) (fun hc => ?_) <;> try (exfalso; omega)) | refine Cw.cond_bool rfl (fun hc => ?_) (fun hc => ?_)) | refine goR ?_ | refine goP ?_ | apply PSeq.cons | apply PSeq.yes rfl rfl rfl | exact goW | fail)
      all_goals first
        | (exfalso; contradiction)
        | (rw [if_pos (by assumption)] at hnext; exact ⟨_, _, _, (Ent.mk goSub goTk), ⟨k + 1, _, rfl, ⟨by omega, hnext.symm⟩, rfl, rfl⟩, by omega⟩)
        | (rw [if_neg (by assumption)] at hnext; exact ⟨_, _, _, (Ent.mk goSub goTk), ⟨k + 1, _, rfl, ⟨by omega, hnext.symm⟩, rfl, rfl⟩, by omega⟩)
  · have hkn : k = x.length := by omega
    subst hkn
    repeat' (first | refine goH ?_ | refine goV ?_ | refine goB (fun b => ?_) | refine goI ?_ | (refine Cw.k_cond ?_; first | (refine Cw.cond_dec rfl (fun hc => ?_) (fun hc => ?_) <;> try (exfalso; omega)) | refine Cw.cond_bool rfl (fun hc => ?_) (fun hc => ?_)) | refine goR ?_ | refine goP ?_ | apply PSeq.cons | apply PSeq.yes rfl rfl rfl | exact goW | fail)
    exact Fin.ret (Ent.take goTk) (Outs.one rfl rfl) ⟨rfl, by rw [ht]⟩
def prtE (R C : Int) (x : List ByteArray) : Int := if rackE R C ≠ 0 then rackE R C else if (x.length : Int) ≠ R * C then 3 else if x.any oddL = true then 5 else 0
theorem printFault_fn (R C : Int) (hR : -1000 ≤ R ∧ R ≤ 1000) (hC : -1000 ≤ C ∧ C ≤ 1000) (x : List ByteArray) (hx : x.length ≤ 1000) : PFn Tryd.prog 16 [.agg [.int R, .int C], .strs x] (· = .int (prtE R C x)) := by
  have hxl := strRows_len x
  have k1 := rackFault_fn R C
  have k2 := wordFault_fn x (by omega)
  have hm : -9223372036854775808 ≤ R * C ∧ R * C ≤ 9223372036854775807 := by
    have h1 : (R * C).natAbs ≤ 1000 * 1000 := by rw [Int.natAbs_mul]; exact Nat.mul_le_mul (by omega) (by omega)
    omega
  unfold prtE
  refine PFn.mk (Spec.body Tryd.func16 rfl rfl (Tryd.ntmps16) rfl fun w0 own0 M => ?_)
  by_cases h1 : rackE R C ≠ 0
  · rw [if_pos h1]
    generalize rackE R C = E at *
    repeat' (first | refine goH ?_ | refine goV ?_ | refine goB (fun b => ?_) | refine goI ?_ | (refine Cw.k_cond ?_; first | (refine Cw.cond_dec rfl (fun hc => ?_) (fun hc => ?_) <;> try (exfalso; omega)) | refine Cw.cond_bool rfl (fun hc => ?_) (fun hc => ?_)) | (refine Ops.k_calla ?_; first | (refine Ops.k_callf 42 ?_; refine Ops.callV k1 (Evs.cons rfl Evs.nil) rfl ?_)) | fail)
    exact Fin.ret (Ent.take goTk) (Outs.one rfl rfl) ⟨rfl, rfl⟩
  rw [if_neg h1]
  rw [show rackE R C = 0 by omega] at k1
  by_cases h2 : (x.length : Int) ≠ R * C
  · rw [if_pos h2]
    repeat' (first | refine goH ?_ | (refine Ops.k_b_mul ?_; first | (refine Ops.mul rfl rfl hm rfl ?_)) | refine goV ?_ | refine goB (fun b => ?_) | refine goI ?_ | (refine Cw.k_cond ?_; first | (refine Cw.cond_dec rfl (fun hc => ?_) (fun hc => ?_) <;> try (exfalso; omega)) | refine Cw.cond_bool rfl (fun hc => ?_) (fun hc => ?_)) | (refine Ops.k_calla ?_; first | (refine Ops.k_callf 42 ?_; refine Ops.callV k1 (Evs.cons rfl Evs.nil) rfl ?_)) | fail)
    all_goals first | (exfalso; omega) | exact Fin.ret (Ent.take goTk) (Outs.one rfl rfl) ⟨rfl, rfl⟩
  rw [if_neg h2]
  generalize x.any oddL = o at *
  repeat' (first | refine goH ?_ | (refine Ops.k_b_mul ?_; first | (refine Ops.mul rfl rfl hm rfl ?_)) | refine goV ?_ | refine goB (fun b => ?_) | refine goI ?_ | (refine Cw.k_cond ?_; first | (refine Cw.cond_dec rfl (fun hc => ?_) (fun hc => ?_) <;> try (exfalso; omega)) | refine Cw.cond_bool rfl (fun hc => ?_) (fun hc => ?_)) | (refine Ops.k_calla ?_; first | (refine Ops.k_callf 42 ?_; refine Ops.callV k1 (Evs.cons rfl Evs.nil) rfl ?_) | (refine Ops.k_callf 32 ?_; refine Ops.callV k2 (Evs.cons rfl Evs.nil) rfl ?_)) | fail)
  all_goals first | (exfalso; omega) | exact Fin.ret (Ent.take goTk) (Outs.one rfl rfl) ⟨rfl, rfl⟩
/-! slices.Chunk -/
def chR (x : List ByteArray) (R C : Nat) : List (List Tr) := (List.range R).map fun r => [Tr.sl 1 (((strRows x).take (r * C + C)).drop (r * C))]
theorem chR_len (x : List ByteArray) (R C : Nat) : (chR x R C).length = R := by simp [chR]
theorem chR_at {x : List ByteArray} {R C k : Nat} (h : k < R) : (chR x R C)[k]? = some [Tr.sl 1 (((strRows x).take (k * C + C)).drop (k * C))] := by
  unfold chR
  rw [List.getElem?_map, List.getElem?_range h]
  rfl
theorem chunk_fn (x : List ByteArray) (C : Nat) (hC : 1 ≤ C ∧ C ≤ 1000) : Spec Tryd.prog 38 [.strs x, .int C] [] (fun r cs => ∃ b2 b3, r = Tr.raw (.func (.func 55) #[] #[.pointer (some ⟨b2, 0, none⟩), .pointer (some ⟨b3, 0, none⟩)]) ∧ cs = [Chunk.box b2 31 [.strs x], Chunk.box b3 3 [.int C]]) := by
  refine Spec.body Tryd.func38 rfl rfl (Tryd.ntmps38) rfl fun w0 own0 M => ?_
  repeat' (first | refine goH ?_ | refine goV ?_ | refine goB (fun b => ?_) | refine goI ?_ | (refine Cw.k_cond ?_; first | (refine Cw.cond_dec rfl (fun hc => ?_) (fun hc => ?_) <;> try (exfalso; omega)) | refine Cw.cond_bool rfl (fun hc => ?_) (fun hc => ?_)) | fail)
  all_goals first | (exfalso; omega) | exact Fin.ret (Ent.mkP goSub goPm) (Outs.one rfl rfl) ⟨_, _, rfl, rfl⟩ | exact Fin.ret (Ent.perm (List.Perm.swap _ _ _)) (Outs.one rfl rfl) ⟨_, _, rfl, rfl⟩
theorem chunk_iter (x : List ByteArray) (R C : Nat) (hC : 1 ≤ C ∧ C ≤ 1000) (hx : x.length = R * C) (hl : x.length ≤ 1000000) (b2 b3 : Nat) : IterSpec Tryd.prog 55 [.pointer (some ⟨b2, 0, none⟩), .pointer (some ⟨b3, 0, none⟩)] [Chunk.box b2 31 [.strs x], Chunk.box b3 3 [.int C]] [Chunk.box b2 31 [.strs x], Chunk.box b3 3 [.int C]] (chR x R C) := by
  unfold IterSpec
  intro lp J Jx hY c0 h0
  have hL := strRows_len x
  rw [chR_len]
  refine Spec.body Tryd.func55 rfl rfl (Tryd.ntmps55) rfl fun w0 own0 M => ?_
  repeat' (first | refine goH ?_ | refine goV ?_ | refine goI ?_ | (refine Cw.k_cond ?_; first | (refine Cw.cond_dec rfl (fun hc => ?_) (fun hc => ?_) <;> try (exfalso; omega)) | refine Cw.cond_bool rfl (fun hc => ?_) (fun hc => ?_)) | refine goR ?_ | refine goP ?_ | apply PSeq.cons | apply PSeq.yes rfl rfl rfl | exact goW | fail)
  refine Cw.loopI [(0, _), (1, _), (2, _)] _ (fun q e cc => ∃ (k m : Nat) (c : Chunk), q = R - k ∧ (k ≤ R ∧ m = k * C ∧ m ≤ x.length ∧ J k c) ∧ e = [(4, .int m)] ∧ cc = [c, Chunk.box b2 31 [.strs x], Chunk.box b3 3 [.int C]]) ⟨_, _, _, Ent.trans (Ent.eqc rfl rfl) (Ent.mk goSub goTk), 0, 0, c0, rfl, ⟨by omega, by omega, by omega, h0⟩, rfl, rfl⟩ ?_
  rintro _ _ _ ⟨k, m, c, rfl, ⟨hk, hm, hml, hJ⟩, rfl, rfl⟩
  by_cases hkl : k < R
  · have hm2 : m + C ≤ x.length := by
      have h1 := Nat.mul_le_mul_right C (show k + 1 ≤ R by omega)
      rw [Nat.add_mul, Nat.one_mul, ← hm, ← hx] at h1
      exact h1
    have hmn : m + C = (k + 1) * C := by rw [Nat.add_mul, Nat.one_mul, hm]
    have hrow := chR_at (x := x) (C := C) hkl
    rw [← hm] at hrow
    have hy := hY k _ c hrow hJ
    have e2 : ((m : Int)).toNat = m := by omega
    have hdl : ((strRows x).drop ((m : Int)).toNat).length = x.length - m := by rw [List.length_drop, hL]; omega
    have hmin : min (C : Int) ((((strRows x).drop ((m : Int)).toNat).length : Nat) : Int) = (C : Int) := by rw [hdl]; omega
    have e1 : ((m : Int) + min (C : Int) ((((strRows x).drop ((m : Int)).toNat).length : Nat) : Int)).toNat = m + C := by rw [hmin]; omega
    clear hx hm hrow hY
    repeat' (first | refine goH ?_ | (refine Ops.k_slice ?_; first | (first | (refine Ops.slice_lhm rfl rfl rfl rfl (by omega) rfl ?_; rw [e1, e2]))) | refine goV ?_ | refine goI ?_ | (refine Cw.k_cond ?_; first | (refine Cw.cond_dec rfl (fun hc => ?_) (fun hc => ?_) <;> try (exfalso; omega)) | refine Cw.cond_bool rfl (fun hc => ?_) (fun hc => ?_)) | (refine Ops.k_calla ?_; first | (refine Ops.callY rfl hy (Evs.cons rfl Evs.nil) goPm rfl ?_; rintro r cs' (⟨rfl, c', hc', rfl⟩ | ⟨rfl, c', hc', rfl⟩))) | refine goR ?_ | refine goP ?_ | apply PSeq.cons | apply PSeq.yes rfl rfl rfl | exact goW | fail)
    · exact ⟨_, _, _, (Ent.mk goSub goTk), ⟨k + 1, m + C, c', rfl, ⟨by omega, hmn, hm2, hc'⟩, rfl, rfl⟩, by omega⟩
    · exact Fin.ret (Ent.take goTk) (Outs.zero rfl) (.inr ⟨c', hc', rfl⟩)
  · have hkR : k = R := by omega
    subst hkR
    rw [← hx] at hm
    subst hm
    repeat' (first | refine goH ?_ | refine goV ?_ | refine goI ?_ | (refine Cw.k_cond ?_; first | (refine Cw.cond_dec rfl (fun hc => ?_) (fun hc => ?_) <;> try (exfalso; omega)) | refine Cw.cond_bool rfl (fun hc => ?_) (fun hc => ?_)) | refine goR ?_ | refine goP ?_ | apply PSeq.cons | apply PSeq.yes rfl rfl rfl | exact goW | fail)
    exact Fin.norm (Ent.take goTk) (Outs.zero rfl) (.inl ⟨c, hJ, rfl⟩)
end Lg
end
section
set_option linter.all false
set_option maxRecDepth 100000
set_option maxHeartbeats 8000000
namespace Lg
open Go Go.Proofs

/-! ### the program's Print -/
theorem print_bad (R C : Int) (hR : -1000 ≤ R ∧ R ≤ 1000) (hC : -1000 ≤ C ∧ C ≤ 1000) (x : List ByteArray) (hx : x.length ≤ 1000) (h : prtE R C x ≠ 0) : PFn Tryd.prog 15 [.agg [.int R, .int C], .strs x] (· = .tup [.str eL, .int (prtE R C x)]) := by
  have hxl := strRows_len x
  have k1 := checkRack_fn R C
  have k2 := oddC_fn x (by omega)
  have hm : -9223372036854775808 ≤ R * C ∧ R * C ≤ 9223372036854775807 := by
    have h1 : (R * C).natAbs ≤ 1000 * 1000 := by rw [Int.natAbs_mul]; exact Nat.mul_le_mul (by omega) (by omega)
    omega
  unfold prtE at h ⊢
  refine PFn.mk ?_
  refine Spec.bodyF Tryd.func15 rfl rfl (Tryd.ntmps15) rfl fun w0 own0 M => ?_
  refine CwF.seq rfl ?_
  repeat' (first | refine goH ?_ | refine goV ?_ | refine goB (fun b => ?_) | refine goI ?_ | (refine Cw.k_cond ?_; first | (refine Cw.cond_dec rfl (fun hc => ?_) (fun hc => ?_) <;> try (exfalso; omega)) | refine Cw.cond_bool rfl (fun hc => ?_) (fun hc => ?_)) | fail)
  refine CwF.seq rfl ?_
  by_cases h1 : rackE R C ≠ 0
  · rw [if_pos h1]
    clear h
    generalize rackE R C = E at *
    repeat' (first | refine goH ?_ | refine goV ?_ | refine goB (fun b => ?_) | refine goI ?_ | (refine Cw.k_cond ?_; first | (refine Cw.cond_dec rfl (fun hc => ?_) (fun hc => ?_) <;> try (exfalso; omega)) | refine Cw.cond_bool rfl (fun hc => ?_) (fun hc => ?_)) | (refine Ops.k_calla ?_; first | (refine Ops.k_callf 37 ?_; refine Ops.callV k1 (Evs.cons rfl Evs.nil) rfl ?_)) | fail)
    refine Fin.ret (Ent.take goTk) (Outs.many rfl (OutL.cons goOe (OutL.cons goOe OutL.nil)) rfl) ⟨rfl, rfl⟩
  rw [if_neg h1] at h ⊢
  rw [show rackE R C = 0 by omega] at k1
  repeat' (first | refine goH ?_ | refine goV ?_ | refine goB (fun b => ?_) | refine goI ?_ | (refine Cw.k_cond ?_; first | (refine Cw.cond_dec rfl (fun hc => ?_) (fun hc => ?_) <;> try (exfalso; omega)) | refine Cw.cond_bool rfl (fun hc => ?_) (fun hc => ?_)) | (refine Ops.k_calla ?_; first | (refine Ops.k_callf 37 ?_; refine Ops.callV k1 (Evs.cons rfl Evs.nil) rfl ?_)) | fail)
  refine CwF.seq rfl ?_
  by_cases h2 : (x.length : Int) ≠ R * C
  · rw [if_pos h2]
    repeat' (first | refine goH ?_ | (refine Ops.k_b_mul ?_; first | (refine Ops.mul rfl rfl hm rfl ?_)) | refine goV ?_ | refine goB (fun b => ?_) | refine goI ?_ | (refine Cw.k_cond ?_; first | (refine Cw.cond_dec rfl (fun hc => ?_) (fun hc => ?_) <;> try (exfalso; omega)) | refine Cw.cond_bool rfl (fun hc => ?_) (fun hc => ?_)) | fail)
    all_goals first | (exfalso; omega) | (refine Fin.ret (Ent.take goTk) (Outs.many rfl (OutL.cons goOe (OutL.cons goOe OutL.nil)) rfl) ⟨rfl, rfl⟩)
  rw [if_neg h2] at h ⊢
  have h3 : x.any oddL = true := by
    cases h4 : x.any oddL with
    | true => rfl
    | false => rw [h4] at h; exact absurd rfl h
  rw [h3] at k2 ⊢
  repeat' (first | refine goH ?_ | (refine Ops.k_b_mul ?_; first | (refine Ops.mul rfl rfl hm rfl ?_)) | refine goV ?_ | refine goB (fun b => ?_) | refine goI ?_ | (refine Cw.k_cond ?_; first | (refine Cw.cond_dec rfl (fun hc => ?_) (fun hc => ?_) <;> try (exfalso; omega)) | refine Cw.cond_bool rfl (fun hc => ?_) (fun hc => ?_)) | (refine Ops.k_calla ?_; first | (refine Ops.k_callf 29 ?_; refine Ops.callS k2 (Evs.cons rfl (Evs.cons rfl Evs.nil)) (List.Perm.refl _) rfl ?_)) | fail)
  all_goals first | (exfalso; omega) | (refine Fin.ret (Ent.take goTk) (Outs.many rfl (OutL.cons goOe (OutL.cons goOe OutL.nil)) rfl) ⟨rfl, rfl⟩)
def preT (C : Nat) (x : List ByteArray) (m i : Nat) : ByteArray := if i = 0 then layT C x m else layT C x (m + i - 1) ++ dotS (x.getD (m + i - 1) eL)
theorem preT_next (C : Nat) (x : List ByteArray) (m i : Nat) : preT C x m (i + 1) = layT C x (m + i) ++ dotS (x.getD (m + i) eL) := by
  unfold preT
  rw [if_neg (by omega), show m + (i + 1) - 1 = m + i by omega]
theorem mod_row {C k i : Nat} (h : i < C) : ((k * C + i : Nat) : Int) % (C : Int) = (i : Int) := by
  rw [← Int.natCast_emod, Nat.add_comm, Nat.add_mul_mod_self_right, Nat.mod_eq_of_lt h]
theorem preT_step {C : Nat} (x : List ByteArray) {k i : Nat} (h : i + 1 < C) : preT C x (k * C) (i + 1) ++ spB = layT C x (k * C + (i + 1)) := by
  rw [preT_next, show k * C + (i + 1) = (k * C + i) + 1 by omega, layT]
  congr 1
  unfold sepS
  rw [mod_row (by omega), if_neg (by omega)]
theorem preT_end {C : Nat} (x : List ByteArray) {k : Nat} (h : 1 ≤ C) : preT C x (k * C) C ++ nlB = layT C x ((k + 1) * C) := by
  obtain ⟨c, rfl⟩ : ∃ c, C = c + 1 := ⟨C - 1, by omega⟩
  rw [preT_next, show (k + 1) * (c + 1) = (k * (c + 1) + c) + 1 by rw [Nat.add_mul]; omega, layT]
  congr 1
  unfold sepS
  rw [mod_row (by omega), if_pos (by omega)]
theorem preT_size {C : Nat} {x : List ByteArray} (h : ∀ s ∈ x, s.size ≤ 1000) (m i : Nat) : (preT C x m i).size ≤ 1001 * (m + i) := by
  unfold preT
  split
  · have := layT_size C h m
    omega
  · have h1 := layT_size C h (m + i - 1)
    have h2 := dotS_size (getD_size h (m + i - 1))
    rw [ByteArray.size_append]
    omega
theorem print_ok (R C : Nat) (hR : 1 ≤ R ∧ R ≤ 10) (hC : 1 ≤ C ∧ C ≤ 10) (hE : rackE R C = 0) (x : List ByteArray) (hx : x.length = R * C) (hl : x.length ≤ 100) (ho : x.any oddL = false) (hz : ∀ s ∈ x, s.size ≤ 1000) : PFn Tryd.prog 15 [.agg [.int R, .int C], .strs x] (· = .tup [.str (layT C x x.length), .int 0]) := by
  have hxl := strRows_len x
  have k1 := checkRack_fn R C
  have k2 := oddC_fn x (by omega)
  have hxi : (x.length : Int) = (R : Int) * (C : Int) := by rw [hx]; push_cast; rfl
  rw [hE] at k1
  rw [ho] at k2
  refine PFn.mk ?_
  refine Spec.bodyF Tryd.func15 rfl rfl (Tryd.ntmps15) rfl fun w0 own0 M => ?_
  refine CwF.seq rfl ?_
  repeat' (first | refine goH ?_ | refine goV ?_ | refine goB (fun b => ?_) | refine goI ?_ | (refine Cw.k_cond ?_; first | (refine Cw.cond_dec rfl (fun hc => ?_) (fun hc => ?_) <;> try (exfalso; omega)) | refine Cw.cond_bool rfl (fun hc => ?_) (fun hc => ?_)) | fail)
  refine CwF.seq rfl ?_
  repeat' (first | refine goH ?_ | refine goV ?_ | refine goB (fun b => ?_) | refine goI ?_ | (refine Cw.k_cond ?_; first | (refine Cw.cond_dec rfl (fun hc => ?_) (fun hc => ?_) <;> try (exfalso; omega)) | refine Cw.cond_bool rfl (fun hc => ?_) (fun hc => ?_)) | (refine Ops.k_calla ?_; first | (refine Ops.k_callf 37 ?_; refine Ops.callV k1 (Evs.cons rfl Evs.nil) rfl ?_)) | fail)
  refine CwF.seq rfl ?_
  repeat' (first | refine goH ?_ | (refine Ops.k_b_mul ?_; first | (refine Ops.mul rfl rfl (by omega) rfl ?_)) | refine goV ?_ | refine goB (fun b => ?_) | refine goI ?_ | (refine Cw.k_cond ?_; first | (refine Cw.cond_dec rfl (fun hc => ?_) (fun hc => ?_) <;> try (exfalso; omega)) | refine Cw.cond_bool rfl (fun hc => ?_) (fun hc => ?_)) | (refine Ops.k_calla ?_; first | (refine Ops.k_callf 29 ?_; refine Ops.callS k2 (Evs.cons rfl (Evs.cons rfl Evs.nil)) (List.Perm.refl _) rfl ?_)) | fail)
  all_goals try (exfalso; omega)
  refine CwF.seq rfl ?_
  repeat' (first | refine goH ?_ | refine goV ?_ | refine goB (fun b => ?_) | refine goI ?_ | (refine Cw.k_cond ?_; first | (refine Cw.cond_dec rfl (fun hc => ?_) (fun hc => ?_) <;> try (exfalso; omega)) | refine Cw.cond_bool rfl (fun hc => ?_) (fun hc => ?_)) | fail)
  rename_i br
  rename Nat => bb
  refine CwF.rng (RngOk.seq ?_)
  repeat' (first | refine goH ?_ | refine goV ?_ | refine goB (fun b => ?_) | refine goI ?_ | (refine Cw.k_cond ?_; first | (refine Cw.cond_dec rfl (fun hc => ?_) (fun hc => ?_) <;> try (exfalso; omega)) | refine Cw.cond_bool rfl (fun hc => ?_) (fun hc => ?_)) | (refine Ops.k_calla ?_; first | (refine Ops.k_callf 38 ?_; (refine Ops.call (chunk_fn x C (by omega)) (Evs.cons rfl (Evs.cons rfl Evs.nil)) goPm rfl ?_; rintro r cs' ⟨b2, b3, rfl, rfl⟩))) | fail)
  refine RngOk.block ?_
  refine RngOk.ent (Ent.nil 1 5) ?_
  refine RngOk.range (ps := [32]) (I := fun k cs => ∃ (p ad : Option Addr) (cap : Nat), BldI bb p ad cap (layT C x (k * C)) ∧ cs = [bldB bb p ad cap (layT C x (k * C)), bldO ad cap (layT C x (k * C))]) (Ix := fun c cs => False) rfl rfl rfl (chunk_iter x R C (by omega) hx (by omega) b2 b3) ?_ ?_ ⟨none, none, 0, by rw [Nat.zero_mul]; exact BldI.new bb, by rw [Nat.zero_mul]⟩ goPm ?_ ?_ ?_ (fun _ _ => ?_)
  · rintro args ha
    obtain ⟨k, hk⟩ := List.getElem?_of_mem ha
    have hlt := (List.getElem?_eq_some_iff.1 hk).1
    rw [chR_len] at hlt
    rw [chR_at hlt] at hk
    cases hk
    rfl
  · intro p hp
    simp only [List.mem_cons, List.not_mem_nil, or_false] at hp
    show p < 50
    omega
  · rintro lp k args csk hk ⟨p, ad, cap, hI, rfl⟩ w1 own1 M1
    have hlt := (List.getElem?_eq_some_iff.1 hk).1
    rw [chR_len] at hlt
    rw [chR_at hlt] at hk
    cases hk
    have hmR : k * C + C ≤ x.length := by
      have h1 := Nat.mul_le_mul_right C (show k + 1 ≤ R by omega)
      rw [Nat.add_mul, Nat.one_mul, ← hx] at h1
      exact h1
    have hrl : (((strRows x).take (k * C + C)).drop (k * C)).length = C := by rw [List.length_drop, List.length_take, hxl]; omega
    have hra : ∀ i : Nat, i < C → (((strRows x).take (k * C + C)).drop (k * C))[i]? = some [Tr.str (x.getD (k * C + i) eL)] := fun i hi => by
      rw [List.getElem?_drop, List.getElem?_take_of_lt (by omega)]
      exact getD_row (by omega)
    have hps := fun i => preT_size (C := C) hz (k * C) i
    have hts := fun i => layT_size C hz (k * C + i)
    have hst := fun i (h : i + 1 < C) => preT_step x (k := k) h
    have hnx := fun i => preT_next C x (k * C) i
    have hen := preT_end x (C := C) (k := k) (by omega)
    have hgs := fun i => dotS_size (getD_size hz (k * C + i))
    have hp0 : preT C x (k * C) 0 = layT C x (k * C) := rfl
    rw [← hp0] at hI ⊢
    rw [← hen]
    generalize ((strRows x).take (k * C + C)).drop (k * C) = rows at *
    simp only [prm]
    repeat' (first | refine goH ?_ | refine goV ?_ | refine goB (fun b => ?_) | refine goI ?_ | (refine Cw.k_cond ?_; first | (refine Cw.cond_dec rfl (fun hc => ?_) (fun hc => ?_) <;> try (exfalso; omega)) | refine Cw.cond_bool rfl (fun hc => ?_) (fun hc => ?_)) | fail)
    intro w2 own2
    repeat' (first | refine goH ?_ | refine goV ?_ | refine goB (fun b => ?_) | refine goI ?_ | (refine Cw.k_cond ?_; first | (refine Cw.cond_dec rfl (fun hc => ?_) (fun hc => ?_) <;> try (exfalso; omega)) | refine Cw.cond_bool rfl (fun hc => ?_) (fun hc => ?_)) | fail)
    refine Cw.loopI [(7, _), (33, _), (34, _)] _ (fun q e c => ∃ (i : Nat) (p ad : Option Addr) (cap : Nat), q = C - i ∧ (i ≤ C ∧ BldI bb p ad cap (preT C x (k * C) i)) ∧ e = [(35, .int i)] ∧ c = [bldB bb p ad cap (preT C x (k * C) i), bldO ad cap (preT C x (k * C) i)]) ⟨_, _, _, (Ent.mkP goSub goPm), 0, p, ad, cap, rfl, ⟨by omega, hI⟩, rfl, rfl⟩ ?_
    clear hI
    rintro _ _ _ ⟨i, p, ad, cap, rfl, ⟨hi, hI⟩, rfl, rfl⟩
    by_cases hil : i < C
    · have hrow := hra i hil
      have ko := orS_fn (x.getD (k * C + i) eL)
      have hg := hgs i
      have hn := hnx i
      have ht := hts i
      have hss : (⟨#[32]⟩ : ByteArray).size = 1 := rfl
      cases i with
      | zero =>
        have hn' : preT C x (k * C) 1 = preT C x (k * C) 0 ++ dotS (x.getD (k * C + 0) eL) := hn
        have hp := hps 0
        have hkx : k * C ≤ 100 := by omega
        generalize k * C = m at *
        generalize dotS (x.getD (m + 0) eL) = g at *
        generalize x.getD (m + 0) eL = s at *
        have kW := writeString_fn hI g (by omega)
        rw [← hn'] at kW
        clear hn hn' ht hps hts hst hnx hen hgs hp0 hra
        generalize preT C x m 0 = T0 at *
        generalize hT1 : preT C x m 1 = T1 at *
        repeat' (first | refine goH ?_ | refine goV ?_ | refine goB (fun b => ?_) | refine goI ?_ | (refine Cw.k_cond ?_; first | (refine Cw.cond_dec rfl (fun hc => ?_) (fun hc => ?_) <;> try (exfalso; omega)) | refine Cw.cond_bool rfl (fun hc => ?_) (fun hc => ?_)) | (refine Ops.k_calla ?_; first | (refine Ops.k_callf 40 ?_; refine Ops.callV ko (Evs.cons rfl Evs.nil) rfl ?_) | (refine Ops.k_callf 39 ?_; (refine Ops.call kW (Evs.cons rfl (Evs.cons rfl Evs.nil)) goPm rfl ?_; rintro r cs' ⟨p2, ad2, cap2, hI2, rfl, rfl⟩))) | fail)
        subst hT1
        exact ⟨_, _, _, (Ent.mk goSub goTk), ⟨0 + 1, p2, ad2, cap2, rfl, ⟨by omega, hI2⟩, rfl, rfl⟩, by omega⟩
      | succ j =>
        have h1 := hst j (by omega)
        have hp := hps (j + 1)
        have hkx : k * C ≤ 100 := by omega
        have e1 : (k * C + (j + 1)) = k * C + j + 1 := by omega
        generalize k * C = m at *
        generalize dotS (x.getD (m + (j + 1)) eL) = g at *
        generalize x.getD (m + (j + 1)) eL = s at *
        have kW1 := writeString_fn hI ⟨#[32]⟩ (by omega)
        rw [h1] at kW1
        clear h1 hps hts hst hnx hen hgs hp0 hra
        generalize layT C x (m + (j + 1)) = L1 at *
        have kW2 := fun p ad cap (h : BldI bb p ad cap L1) => writeString_fn h g (by omega)
        rw [← hn] at kW2
        clear hn
        generalize preT C x m (j + 1) = T0 at *
        generalize hT1 : preT C x m (j + 1 + 1) = T1 at *
        repeat' (first | refine goH ?_ | refine goV ?_ | refine goB (fun b => ?_) | refine goI ?_ | (refine Cw.k_cond ?_; first | (refine Cw.cond_dec rfl (fun hc => ?_) (fun hc => ?_) <;> try (exfalso; omega)) | refine Cw.cond_bool rfl (fun hc => ?_) (fun hc => ?_)) | (refine Ops.k_calla ?_; first | (refine Ops.k_callf 40 ?_; refine Ops.callV ko (Evs.cons rfl Evs.nil) rfl ?_) | (refine Ops.k_callf 39 ?_; (refine Ops.call kW1 (Evs.cons rfl (Evs.cons rfl Evs.nil)) goPm rfl ?_; rintro r cs' ⟨p2, ad2, cap2, hI2, rfl, rfl⟩)) | (refine Ops.k_callf 39 ?_; (refine Ops.call (kW2 _ _ _ hI2) (Evs.cons rfl (Evs.cons rfl Evs.nil)) goPm rfl ?_; rintro r cs' ⟨p3, ad3, cap3, hI3, rfl, rfl⟩))) | fail)
        subst hT1
        exact ⟨_, _, _, (Ent.mk goSub goTk), ⟨j + 1 + 1, p3, ad3, cap3, rfl, ⟨by omega, hI3⟩, rfl, rfl⟩, by omega⟩
    · have hiC : i = C := by omega
      subst hiC
      have hp := hps i
      have hkx : k * i ≤ 100 := by omega
      have h1 : (⟨#[10]⟩ : ByteArray).size = 1 := rfl
      have kW := writeString_fn hI ⟨#[10]⟩ (by omega)
      repeat' (first | refine goH ?_ | refine goV ?_ | refine goB (fun b => ?_) | refine goI ?_ | (refine Cw.k_cond ?_; first | (refine Cw.cond_dec rfl (fun hc => ?_) (fun hc => ?_) <;> try (exfalso; omega)) | refine Cw.cond_bool rfl (fun hc => ?_) (fun hc => ?_)) | (refine Ops.k_calla ?_; first | (refine Ops.k_callf 39 ?_; (refine Ops.call kW (Evs.cons rfl (Evs.cons rfl Evs.nil)) goPm rfl ?_; rintro r cs' ⟨p2, ad2, cap2, hI2, rfl, rfl⟩))) | fail)
      exact RPost.norm (Ent.mk goSub goTk) ⟨p2, ad2, cap2, hI2, rfl⟩
  · rintro w1 own1 M1 D csN ⟨p, ad, cap, hI, rfl⟩
    rw [chR_len, ← hx] at hI ⊢
    have kS := string_fn hI (by have := layT_size C hz x.length; omega)
    repeat' (first | refine goH ?_ | refine goV ?_ | refine goB (fun b => ?_) | refine goI ?_ | (refine Cw.k_cond ?_; first | (refine Cw.cond_dec rfl (fun hc => ?_) (fun hc => ?_) <;> try (exfalso; omega)) | refine Cw.cond_bool rfl (fun hc => ?_) (fun hc => ?_)) | (refine Ops.k_calla ?_; first | (refine Ops.k_callf 41 ?_; (refine Ops.call kS (Evs.cons rfl Evs.nil) goPm rfl ?_; rintro r cs' ⟨rfl, rfl⟩))) | fail)
    refine Fin.ret (Ent.take goTk) (Outs.many rfl (OutL.cons goOe (OutL.cons goOe OutL.nil)) rfl) ⟨rfl, rfl⟩
  · rintro c csx h
    exact h.elim
  · exact enters_of Tryd.func55 rfl rfl _ _
end Lg
end
section
/-
  DERIVED: THE SHELF's CONTRACTS AT THIS DUMP, IN PLAIN WORDS (tools/lay-plain.mjs out of 'YtjonpkaojmpmiaaDoorShelf2Raw.lean', which tools/lay-shelf.mjs wrote): THE SAME DECLARATIONS UNDER THE SAME NAMES: 'import', 'namespace', 'open', 'def', 'theorem' AND NOTHING ELSE: no command of the shelf's: FOR A HAND-IN. Each laying: the table of numbers ('.._ren') and one theorem, a field a fact of the dump's own or the kernel's comparison; each contract: ONE APPLICATION.
-/
namespace Go.Proofs
open Go.Shelf
def Tryd.lays143_ren : Go.Shelf.Ren := ⟨fun | 143 => 68 | 219 => 65 | 217 => 73 | 225 => 74 | 224 => 75 | 267 => 76 | 266 => 88 | 314 => 89 | n => n, fun | 9 => 9 | 3 => 3 | 4 => 4 | 5 => 5 | 46 => 109 | 146 => 122 | 51 => 121 | n => n, fun | 1 => 0 | n => n⟩
theorem Tryd.lays143 : Go.Proofs.Lays.n143 Tryd.prog Tryd.lays143_ren := {
  mixed := by kernel_rfl
  f143 := Tryd.func68.trans (congrArg some (by kernel_rfl))
  f217 := Tryd.func73.trans (congrArg some (by kernel_rfl))
  f219 := Tryd.func65.trans (congrArg some (by kernel_rfl))
  f224 := Tryd.func75.trans (congrArg some (by kernel_rfl))
  f225 := Tryd.func74.trans (congrArg some (by kernel_rfl))
  f266 := Tryd.func88.trans (congrArg some (by kernel_rfl))
  f267 := Tryd.func76.trans (congrArg some (by kernel_rfl))
  f314 := Tryd.func89.trans (congrArg some (by kernel_rfl))
  t3 := Tryd.underlying3
  a3 := Tryd.isAgg3
  z3 := Tryd.sizeOf3
  v3 := Tryd.zeroValue3
  t4 := Tryd.underlying4
  a4 := Tryd.isAgg4
  z4 := Tryd.sizeOf4
  v4 := Tryd.zeroValue4
  t5 := Tryd.underlying5
  a5 := Tryd.isAgg5
  z5 := Tryd.sizeOf5
  v5 := Tryd.zeroValue5
  t9 := Tryd.underlying9
  a9 := Tryd.isAgg9
  z9 := Tryd.sizeOf9
  v9 := Tryd.zeroValue9
  t46 := Tryd.underlying109
  a46 := Tryd.isAgg109
  z46 := Tryd.sizeOf109
  v46 := Tryd.zeroValue109
  t51 := Tryd.underlying121
  a51 := Tryd.isAgg121
  z51 := Tryd.sizeOf121
  v51 := Tryd.zeroValue121
  t146 := Tryd.underlying122
  a146 := Tryd.isAgg122
  z146 := Tryd.sizeOf122
  v146 := Tryd.zeroValue122
  g1 := by kernel_rfl }
def Tryd.lays138_ren : Go.Shelf.Ren := ⟨fun | 138 => 67 | 195 => 77 | 218 => 79 | 143 => 68 | 219 => 65 | 217 => 73 | 225 => 74 | 224 => 75 | 267 => 76 | 266 => 88 | 314 => 89 | n => n, fun | 9 => 9 | 3 => 3 | 4 => 4 | 5 => 5 | 0 => 0 | 46 => 109 | 146 => 122 | 51 => 121 | n => n, fun | 1 => 0 | n => n⟩
theorem Tryd.lays138 : Go.Proofs.Lays.n138 Tryd.prog Tryd.lays138_ren := {
  mixed := by kernel_rfl
  f138 := Tryd.func67.trans (congrArg some (by kernel_rfl))
  f143 := Tryd.func68.trans (congrArg some (by kernel_rfl))
  f195 := Tryd.func77.trans (congrArg some (by kernel_rfl))
  f217 := Tryd.func73.trans (congrArg some (by kernel_rfl))
  f218 := Tryd.func79.trans (congrArg some (by kernel_rfl))
  f219 := Tryd.func65.trans (congrArg some (by kernel_rfl))
  f224 := Tryd.func75.trans (congrArg some (by kernel_rfl))
  f225 := Tryd.func74.trans (congrArg some (by kernel_rfl))
  f266 := Tryd.func88.trans (congrArg some (by kernel_rfl))
  f267 := Tryd.func76.trans (congrArg some (by kernel_rfl))
  f314 := Tryd.func89.trans (congrArg some (by kernel_rfl))
  t0 := Tryd.underlying0
  a0 := Tryd.isAgg0
  z0 := Tryd.sizeOf0
  v0 := Tryd.zeroValue0
  t3 := Tryd.underlying3
  a3 := Tryd.isAgg3
  z3 := Tryd.sizeOf3
  v3 := Tryd.zeroValue3
  t4 := Tryd.underlying4
  a4 := Tryd.isAgg4
  z4 := Tryd.sizeOf4
  v4 := Tryd.zeroValue4
  t5 := Tryd.underlying5
  a5 := Tryd.isAgg5
  z5 := Tryd.sizeOf5
  v5 := Tryd.zeroValue5
  t9 := Tryd.underlying9
  a9 := Tryd.isAgg9
  z9 := Tryd.sizeOf9
  v9 := Tryd.zeroValue9
  t46 := Tryd.underlying109
  a46 := Tryd.isAgg109
  z46 := Tryd.sizeOf109
  v46 := Tryd.zeroValue109
  t51 := Tryd.underlying121
  a51 := Tryd.isAgg121
  z51 := Tryd.sizeOf121
  v51 := Tryd.zeroValue121
  t146 := Tryd.underlying122
  a146 := Tryd.isAgg122
  z146 := Tryd.sizeOf122
  v146 := Tryd.zeroValue122
  g1 := by kernel_rfl }
def Tryd.lays219_ren : Go.Shelf.Ren := ⟨fun | 219 => 65 | 217 => 73 | 225 => 74 | 224 => 75 | 267 => 76 | 266 => 88 | 314 => 89 | n => n, fun | 9 => 9 | 3 => 3 | 4 => 4 | 5 => 5 | 46 => 109 | 146 => 122 | 51 => 121 | n => n, fun | 1 => 0 | n => n⟩
theorem Tryd.lays219 : Go.Proofs.Lays.n219 Tryd.prog Tryd.lays219_ren := {
  mixed := by kernel_rfl
  f217 := Tryd.func73.trans (congrArg some (by kernel_rfl))
  f219 := Tryd.func65.trans (congrArg some (by kernel_rfl))
  f224 := Tryd.func75.trans (congrArg some (by kernel_rfl))
  f225 := Tryd.func74.trans (congrArg some (by kernel_rfl))
  f266 := Tryd.func88.trans (congrArg some (by kernel_rfl))
  f267 := Tryd.func76.trans (congrArg some (by kernel_rfl))
  f314 := Tryd.func89.trans (congrArg some (by kernel_rfl))
  t3 := Tryd.underlying3
  a3 := Tryd.isAgg3
  z3 := Tryd.sizeOf3
  v3 := Tryd.zeroValue3
  t4 := Tryd.underlying4
  a4 := Tryd.isAgg4
  z4 := Tryd.sizeOf4
  v4 := Tryd.zeroValue4
  t5 := Tryd.underlying5
  a5 := Tryd.isAgg5
  z5 := Tryd.sizeOf5
  v5 := Tryd.zeroValue5
  t9 := Tryd.underlying9
  a9 := Tryd.isAgg9
  z9 := Tryd.sizeOf9
  v9 := Tryd.zeroValue9
  t46 := Tryd.underlying109
  a46 := Tryd.isAgg109
  z46 := Tryd.sizeOf109
  v46 := Tryd.zeroValue109
  t51 := Tryd.underlying121
  a51 := Tryd.isAgg121
  z51 := Tryd.sizeOf121
  v51 := Tryd.zeroValue121
  t146 := Tryd.underlying122
  a146 := Tryd.isAgg122
  z146 := Tryd.sizeOf122
  v146 := Tryd.zeroValue122
  g1 := by kernel_rfl }
end Go.Proofs
end
