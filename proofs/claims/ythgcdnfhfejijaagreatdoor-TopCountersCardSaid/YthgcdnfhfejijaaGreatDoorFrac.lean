/- A part of the proof of a law of this seat: it adds no condition. By an AI agent. -/
import Derived.Test.YthgcdnfhfejijaaGreatDoorVend2
section
set_option linter.all false
set_option maxRecDepth 100000
set_option maxHeartbeats 4000000
namespace Lg
open Go Go.Proofs

def totalI : List Tube → Int
 |[] => 0
 |d :: l => d.val * d.cnt + totalI l
theorem totalI_cons (d : Tube) (l : List Tube) : totalI (d :: l) = d.val * d.cnt + totalI l := rfl
theorem mul_bdV {a b A B : Int} (ha : 0 ≤ a ∧ a ≤ A) (hb : 0 ≤ b ∧ b ≤ B) : 0 ≤ a * b ∧ a * b ≤ A * B :=
 ⟨Int.mul_nonneg ha.1 hb.1, Int.mul_le_mul ha.2 hb.2 hb.1 (by omega)⟩
theorem total_fn (l : List Tube) (ho : TbOk l) : PFn Tryz.prog 64 [.tubes l] (· = .int (totalI l)) := by
 refine PFn.mk (Spec.body Tryz.func64 rfl rfl (Tryz.ntmps64) rfl fun w0 own0 M => ?_)
 have hL : (l.map Tube.row).length = l.length := List.length_map _
 have hlen := ho.len
 repeat' (first | refine goH ?_ | refine goV ?_ | refine goB (fun b => ?_) | refine goI ?_ | (refine Cw.k_cond ?_; first | (refine Cw.cond_dec rfl ?_ ?_ <;> intro hc <;> try omega) | refine Cw.cond_bool rfl ?_ ?_ <;> intro hc) | fail)
 refine Cw.loop (ι := Nat × Int) (fun s => s.1 ≤ l.length ∧ s.2 + totalI (l.drop s.1) = totalI l ∧ 0 ≤ s.2 ∧ s.2 ≤ 10000000 * s.1)
  (fun s => [(3, .int s.2), (6, .tubes l), (7, .int (l.map Tube.row).length), (8, .int s.1)]) (fun _ => []) (fun s => l.length - s.1) ⟨(0, 0), ⟨by simp only; omega, by simp only [List.drop_zero]; omega, by simp only; omega, by simp only; omega⟩, (Ent.mk goSub goTk)⟩ ?_
 rintro ⟨k, S⟩ ⟨hk, h1, h2, h3⟩
 simp only at hk h1 h2 h3 ⊢
 by_cases hkl : k < l.length
 ·obtain ⟨d, hd⟩ := at_lt hkl
  have hrow : (l.map Tube.row)[k]? = some [Tr.int d.val, Tr.int d.cnt, Tr.int d.most] := rows_at hd
  have hv := ho.val d (List.mem_of_getElem? hd)
  have hc := ho.cnt d (List.mem_of_getElem? hd)
  have hm := mul_bdV (a := d.val) (b := d.cnt) (A := 10000) (B := 1000) (by omega) (by omega)
  have hm2 : -9223372036854775808 ≤ d.val * d.cnt ∧ d.val * d.cnt ≤ 9223372036854775807 := by omega
  rw [drop_at hd, totalI_cons] at h1
  repeat' (first | refine goH ?_ | refine goV ?_ | refine goB (fun b => ?_) | refine goI ?_ | (refine Cw.k_cond ?_; first | (refine Cw.cond_dec rfl ?_ ?_ <;> intro hc <;> try omega) | refine Cw.cond_bool rfl ?_ ?_ <;> intro hc) | fail)
  exact ⟨(k + 1, S + d.val * d.cnt), ⟨by simp only; omega, by simp only; omega, by simp only; omega, by simp only; omega⟩, by simp only; omega, (Ent.mk goSub goTk)⟩
 ·rw [List.drop_eq_nil_of_le (by omega), totalI] at h1
  repeat' (first | refine goH ?_ | refine goV ?_ | refine goB (fun b => ?_) | refine goI ?_ | (refine Cw.k_cond ?_; first | (refine Cw.cond_dec rfl ?_ ?_ <;> intro hc <;> try omega) | refine Cw.cond_bool rfl ?_ ?_ <;> intro hc) | fail)
  exact Fin.ret Ent.refl (Outs.one rfl rfl) ⟨rfl, congrArg Tr.int (by omega)⟩

def total1 (l : List Tube) : Int × Int := if tubesErr l ≠ 0 then (0, tubesErr l) else (totalI l, 0)
theorem totalX_fn (l : List Tube) : PFn Tryz.prog 37 [.tubes l] (· = .tup [.int (total1 l).1, .int (total1 l).2]) := by
 have hck := checkTubes_fn l
 refine PFn.mk (Spec.body Tryz.func37 rfl rfl (Tryz.ntmps37) rfl fun w0 own0 M => ?_)
 by_cases h0 : tubesErr l ≠ 0
 ·rw [show total1 l = (0, tubesErr l) by unfold total1; rw [if_pos h0]]
  repeat' (first | refine goH ?_ | refine goV ?_ | refine goI ?_ | (refine Cw.k_cond ?_; first | (refine Cw.cond_dec rfl ?_ ?_ <;> intro hc <;> try omega) | refine Cw.cond_bool rfl ?_ ?_ <;> intro hc) | (refine Ops.k_calla ?_; first | (refine Ops.k_callf 46 ?_; refine Ops.callV hck (Evs.cons rfl Evs.nil) rfl ?_)) | fail)
  exact Fin.ret (Ent.take goTk) (Outs.two rfl rfl rfl) ⟨rfl, rfl⟩
 replace h0 : tubesErr l = 0 := by omega
 have ht := total_fn l (tubesErr_ok h0)
 rw [show total1 l = (totalI l, 0) by unfold total1; rw [if_neg (by omega)]]
 rw [h0] at hck
 repeat' (first | refine goH ?_ | refine goV ?_ | refine goI ?_ | (refine Cw.k_cond ?_; first | (refine Cw.cond_dec rfl ?_ ?_ <;> intro hc <;> try omega) | refine Cw.cond_bool rfl ?_ ?_ <;> intro hc) | (refine Ops.k_calla ?_; first | (refine Ops.k_callf 46 ?_; refine Ops.callV hck (Evs.cons rfl Evs.nil) rfl ?_) | (refine Ops.k_callf 64 ?_; refine Ops.callV ht (Evs.cons rfl Evs.nil) rfl ?_)) | fail)
 exact Fin.ret (Ent.take goTk) (Outs.two rfl rfl rfl) ⟨rfl, rfl⟩

end Lg
end
section
set_option linter.all false
set_option maxRecDepth 100000
set_option maxHeartbeats 8000000
namespace Lg
open Go Go.Proofs

/-! ### meter.Share of 3 among 1 and 2 -/
theorem sharedLtM_fn (b3 b4 b5 : Nat) (a b : Int) (ha : a = 0 ∨ a = 1) (hb : b = 0 ∨ b = 1) : Spec Tryz.prog 60 ([.int a, .int b] ++ [Value.pointer (some ⟨b3, 0, none⟩), Value.pointer (some ⟨b4, 0, none⟩), Value.pointer (some ⟨b5, 0, none⟩)].map Tr.raw) [Chunk.box b3 3 [.int 3], Chunk.box b4 22 [.sl 1 [[Tr.int 1], [Tr.int 2]]], Chunk.box b5 3 [.int 3]] (fun r cs => r = .int 0 ∧ cs = [Chunk.box b3 3 [.int 3], Chunk.box b4 22 [.sl 1 [[Tr.int 1], [Tr.int 2]]], Chunk.box b5 3 [.int 3]]) := by
 have hc : PFn Tryz.prog 36 [.int 0, .int 0] (· = .int 0) := compare_fn 0 0
 have r0 : ([[Tr.int 1], [Tr.int 2]] : List (List Tr))[0]? = some [Tr.int 1] := rfl
 have r1 : ([[Tr.int 1], [Tr.int 2]] : List (List Tr))[1]? = some [Tr.int 2] := rfl
 refine Spec.body Tryz.func60 rfl rfl (Tryz.ntmps60) rfl fun w0 own0 M => ?_
 rcases ha with rfl | rfl <;> rcases hb with rfl | rfl
 all_goals
  repeat' (first | refine goH ?_ | refine goV ?_ | refine goI ?_ | (refine Cw.k_cond ?_; first | (refine Cw.cond_dec rfl ?_ ?_ <;> intro hc <;> try omega) | refine Cw.cond_bool rfl ?_ ?_ <;> intro hc) | (refine Ops.k_calla ?_; first | (refine Ops.k_callf 36 ?_; refine Ops.callV hc (Evs.cons rfl (Evs.cons rfl Evs.nil)) rfl ?_)) | (apply OpW.k_call; first | (apply OpW.k_callf 36; exact OpW.callV hc (Evs.cons rfl (Evs.cons rfl Evs.nil)))) | refine goR ?_ | refine goP ?_ | apply PSeq.cons | apply PSeq.yes rfl rfl rfl | exact goW | fail)
  exact Fin.ret (Ent.take goTk) (Outs.one rfl rfl) ⟨rfl, rfl⟩
theorem shared12_fn : PFn Tryz.prog 33 [.int 3, .sl 1 [[Tr.int 1], [Tr.int 2]], .int 3] (· = .sl 1 [[Tr.int 1], [Tr.int 2]]) := by
 have kS : ∀ (b3 b4 b5 : Nat) (ad : Option Addr) (cap : Nat), Spec Tryz.prog 59 [Tr.raw (.slice ad 2 cap), Tr.raw (.func (.func 60) #[] [Value.pointer (some ⟨b3, 0, none⟩), Value.pointer (some ⟨b4, 0, none⟩), Value.pointer (some ⟨b5, 0, none⟩)].toArray)] [Chunk.own ad cap 1 3 [[.int 0], [.int 1]], Chunk.box b3 3 [.int 3], Chunk.box b4 22 [.sl 1 [[Tr.int 1], [Tr.int 2]]], Chunk.box b5 3 [.int 3]] (fun r cs => r = Tr.tup [] ∧ cs = [Chunk.own ad cap 1 3 [[.int 0], [.int 1]], Chunk.box b3 3 [.int 3], Chunk.box b4 22 [.sl 1 [[Tr.int 1], [Tr.int 2]]], Chunk.box b5 3 [.int 3]]) := fun b3 b4 b5 ad cap => sortStable_int (xs := [0, 1]) (lt := fun _ _ => false) (cf := fun _ _ => 0) (caps := [.pointer (some ⟨b3, 0, none⟩), .pointer (some ⟨b4, 0, none⟩), .pointer (some ⟨b5, 0, none⟩)]) (cin := [Chunk.box b3 3 [.int 3], Chunk.box b4 22 [.sl 1 [[Tr.int 1], [Tr.int 2]]], Chunk.box b5 3 [.int 3]]) (fun a b => rfl) (by simp) rfl (fun a b ha hb => sharedLtM_fn b3 b4 b5 a b (by simpa using ha) (by simpa using hb))
 have r0 : ([[Tr.int 1], [Tr.int 2]] : List (List Tr))[0]? = some [Tr.int 1] := rfl
 have r1 : ([[Tr.int 1], [Tr.int 2]] : List (List Tr))[1]? = some [Tr.int 2] := rfl
 refine PFn.mk (Spec.body Tryz.func33 rfl rfl (Tryz.ntmps33) rfl fun w0 own0 M => ?_)
 have hL2 : ((([[Tr.int 1], [Tr.int 2]] : List (List Tr)).length : Nat) : Int) = 2 := rfl
 have hn2 : ((([[Tr.int 1], [Tr.int 2]] : List (List Tr)).length : Nat) : Int).toNat = 2 := rfl
 have hrep : List.replicate 2 (List.map Tr.raw [Value.int .i64 0]) = [[Tr.int 0], [Tr.int 0]] := rfl
 repeat' (first | refine goH ?_ | (refine Ops.k_makeSlice ?_; first | (refine Ops.makeSlice rfl rfl (by omega) (by omega) (by omega) rfl (fun ad cap => ?_); rw [hn2, hrep])) | refine goV ?_ | refine goB (fun b => ?_) | refine goC (fun ad cap => ?_) | refine goI ?_ | (refine Cw.k_cond ?_; first | (refine Cw.cond_dec rfl ?_ ?_ <;> intro hc <;> try omega) | refine Cw.cond_bool rfl ?_ ?_ <;> intro hc) | fail)
 rename_i b3 b4 ad1 cap1
 rw [hL2]
 refine Cw.loopI [(3, _), (4, _), (5, _), (7, _), (8, _), (21, _), (22, _)] _ (fun q e cc => ∃ (k : Nat) (p0 p1 q1 z : Int), q = 2 - k ∧ ((k = 0 ∧ p0 = 0 ∧ p1 = 0 ∧ q1 = 0 ∧ z = 3) ∨ (k = 1 ∧ p0 = 1 ∧ p1 = 0 ∧ q1 = 0 ∧ z = 2) ∨ (k = 2 ∧ p0 = 1 ∧ p1 = 2 ∧ q1 = 1 ∧ z = 0)) ∧ e = [(9, .int z), (23, .int k)] ∧ cc = [Chunk.own ad1 cap1 1 3 [[.int p0], [.int p1]], Chunk.own ad cap 1 3 [[.int 0], [.int q1]]])
  ⟨_, _, _, (Ent.mkP goSub goPm), 0, 0, 0, 0, 3, rfl, .inl ⟨rfl, rfl, rfl, rfl, rfl⟩, rfl, rfl⟩ ?_
 rintro _ _ _ ⟨k, p0, p1, q1, z, rfl, ⟨rfl, rfl, rfl, rfl, rfl⟩ | ⟨rfl, rfl, rfl, rfl, rfl⟩ | ⟨rfl, rfl, rfl, rfl, rfl⟩, rfl, rfl⟩
 ·repeat' (first | refine goH ?_ | refine goV ?_ | refine goB (fun b => ?_) | refine goC (fun ad cap => ?_) | refine goI ?_ | (refine Cw.k_cond ?_; first | (refine Cw.cond_dec rfl ?_ ?_ <;> intro hc <;> try omega) | refine Cw.cond_bool rfl ?_ ?_ <;> intro hc) | fail)
  exact ⟨_, _, _, (Ent.mk goSub goTk), ⟨1, 1, 0, 0, 2, rfl, .inr (.inl ⟨rfl, rfl, rfl, rfl, rfl⟩), rfl, rfl⟩, by omega⟩
 ·repeat' (first | refine goH ?_ | refine goV ?_ | refine goB (fun b => ?_) | refine goC (fun ad cap => ?_) | refine goI ?_ | (refine Cw.k_cond ?_; first | (refine Cw.cond_dec rfl ?_ ?_ <;> intro hc <;> try omega) | refine Cw.cond_bool rfl ?_ ?_ <;> intro hc) | fail)
  exact ⟨_, _, _, (Ent.mk goSub goTk), ⟨2, 1, 2, 1, 0, rfl, .inr (.inr ⟨rfl, rfl, rfl, rfl, rfl⟩), rfl, rfl⟩, by omega⟩
 ·repeat' (first | refine goH ?_ | refine goV ?_ | refine goB (fun b => ?_) | refine goC (fun ad cap => ?_) | refine goI ?_ | (refine Cw.k_cond ?_; first | (refine Cw.cond_dec rfl ?_ ?_ <;> intro hc <;> try omega) | refine Cw.cond_bool rfl ?_ ?_ <;> intro hc) | (refine Ops.k_calla ?_; first | (refine Ops.k_callf 59 ?_; (refine Ops.call (kS _ _ _ _ _) (Evs.cons rfl (Evs.cons rfl Evs.nil)) goPm rfl ?_; rintro r cs' ⟨rfl, rfl⟩))) | fail)
  refine Cw.loopI [(7, _), (52, _), (53, _)] _ (fun q e cc => q = 0 ∧ e = [(54, .int 0)] ∧ cc = []) ⟨_, _, _, (Ent.mkP goSub goPm), rfl, rfl, rfl⟩ ?_
  rintro _ _ _ ⟨rfl, rfl, rfl⟩
  repeat' (first | refine goH ?_ | refine goV ?_ | refine goB (fun b => ?_) | refine goC (fun ad cap => ?_) | refine goI ?_ | (refine Cw.k_cond ?_; first | (refine Cw.cond_dec rfl ?_ ?_ <;> intro hc <;> try omega) | refine Cw.cond_bool rfl ?_ ?_ <;> intro hc) | fail)
  refine Fin.ret (Ent.trans (Ent.settle (s := 6) rfl goPk rfl) (Ent.take goTk)) (Outs.sole rfl goOe) ⟨rfl, rfl⟩
theorem share12_fn : PFn Tryz.prog 38 [.int 3, .sl 1 [[Tr.int 1], [Tr.int 2]]] (· = .tup [.sl 1 [[Tr.int 1], [Tr.int 2]], .int 0]) := by
 have hL2 : ((([[Tr.int 1], [Tr.int 2]] : List (List Tr)).length : Nat) : Int) = 2 := rfl
 have k0 : PFn Tryz.prog 32 [.int 3, .int 0, .int 1000000000] (· = .bool false) := out_fn 3 0 1000000000
 have k1 : PFn Tryz.prog 32 [.int 1, .int 0, .int 1000000] (· = .bool false) := out_fn 1 0 1000000
 have k2 : PFn Tryz.prog 32 [.int 2, .int 0, .int 1000000] (· = .bool false) := out_fn 2 0 1000000
 have k3 := shared12_fn
 have r0 : ([[Tr.int 1], [Tr.int 2]] : List (List Tr))[0]? = some [Tr.int 1] := rfl
 have r1 : ([[Tr.int 1], [Tr.int 2]] : List (List Tr))[1]? = some [Tr.int 2] := rfl
 refine PFn.mk (Spec.body Tryz.func38 rfl rfl (Tryz.ntmps38) rfl fun w0 own0 M => ?_)
 repeat' (first | refine goH ?_ | refine goV ?_ | refine goI ?_ | (refine Cw.k_cond ?_; first | (refine Cw.cond_dec rfl ?_ ?_ <;> intro hc <;> try omega) | refine Cw.cond_bool rfl ?_ ?_ <;> intro hc) | (refine Ops.k_calla ?_; first | (refine Ops.k_callf 32 ?_; refine Ops.callV k0 (Evs.cons rfl (Evs.cons rfl (Evs.cons rfl Evs.nil))) rfl ?_)) | fail)
 rw [hL2]
 refine Cw.loopI [(0, _), (1, _), (20, _), (21, _)] _ (fun q e cc => ∃ (k : Nat) (z : Int), q = 2 - k ∧ ((k = 0 ∧ z = 0) ∨ (k = 1 ∧ z = 1) ∨ (k = 2 ∧ z = 3)) ∧ e = [(6, .int z), (22, .int k)] ∧ cc = [])
  ⟨_, _, _, (Ent.mkP goSub goPm), 0, 0, rfl, .inl ⟨rfl, rfl⟩, rfl, rfl⟩ ?_
 rintro _ _ _ ⟨k, z, rfl, ⟨rfl, rfl⟩ | ⟨rfl, rfl⟩ | ⟨rfl, rfl⟩, rfl, rfl⟩
 ·repeat' (first | refine goH ?_ | refine goV ?_ | refine goI ?_ | (refine Cw.k_cond ?_; first | (refine Cw.cond_dec rfl ?_ ?_ <;> intro hc <;> try omega) | refine Cw.cond_bool rfl ?_ ?_ <;> intro hc) | (refine Ops.k_calla ?_; first | (refine Ops.k_callf 32 ?_; refine Ops.callV k1 (Evs.cons rfl (Evs.cons rfl (Evs.cons rfl Evs.nil))) rfl ?_)) | fail)
  exact ⟨_, _, _, (Ent.mk goSub goTk), ⟨1, 1, rfl, .inr (.inl ⟨rfl, rfl⟩), rfl, rfl⟩, by omega⟩
 ·repeat' (first | refine goH ?_ | refine goV ?_ | refine goI ?_ | (refine Cw.k_cond ?_; first | (refine Cw.cond_dec rfl ?_ ?_ <;> intro hc <;> try omega) | refine Cw.cond_bool rfl ?_ ?_ <;> intro hc) | (refine Ops.k_calla ?_; first | (refine Ops.k_callf 32 ?_; refine Ops.callV k2 (Evs.cons rfl (Evs.cons rfl (Evs.cons rfl Evs.nil))) rfl ?_)) | fail)
  exact ⟨_, _, _, (Ent.mk goSub goTk), ⟨2, 3, rfl, .inr (.inr ⟨rfl, rfl⟩), rfl, rfl⟩, by omega⟩
 ·repeat' (first | refine goH ?_ | refine goV ?_ | refine goI ?_ | (refine Cw.k_cond ?_; first | (refine Cw.cond_dec rfl ?_ ?_ <;> intro hc <;> try omega) | refine Cw.cond_bool rfl ?_ ?_ <;> intro hc) | (refine Ops.k_calla ?_; first | (refine Ops.k_callf 33 ?_; refine Ops.callV k3 (Evs.cons rfl (Evs.cons rfl (Evs.cons rfl Evs.nil))) rfl ?_)) | fail)
  exact Fin.ret (Ent.take goTk) (Outs.two rfl rfl rfl) ⟨rfl, rfl⟩
end Lg
end
section
set_option linter.all false
set_option maxRecDepth 100000
set_option maxHeartbeats 1000000
namespace Lg
open Go Go.Proofs

def gcdI (a b : Int) : Int := (Nat.gcd a.natAbs b.natAbs : Nat)
theorem gcdI_pos {a b : Int} (h : 1 ≤ b) : 1 ≤ gcdI a b := by
 unfold gcdI
 have : 0 < Nat.gcd a.natAbs b.natAbs := Nat.gcd_pos_of_pos_right _ (by omega)
 omega
structure Frac where
 num : Int
 den : Int
def Frac.row (f : Frac) : List Tr := [Tr.int f.num, Tr.int f.den]
def frac (num den : Int) : Frac := ⟨num.tdiv (gcdI num den), den / (gcdI num den)⟩

theorem nat_gcd_step (m n : Nat) : Nat.gcd n (m % n) = Nat.gcd m n := by
 rw [Nat.gcd_comm n, ← Nat.gcd_rec, Nat.gcd_comm]

theorem gcd_fn (a b : Int) (ha : 0 ≤ a) (hb : 0 ≤ b) : PFn Tryz.prog 103 [.int a, .int b] (· = .int (gcdI a b)) := by
 obtain ⟨m, rfl⟩ := Int.eq_ofNat_of_zero_le ha
 obtain ⟨n, rfl⟩ := Int.eq_ofNat_of_zero_le hb
 refine PFn.mk (Spec.body Tryz.func103 rfl rfl (Tryz.ntmps103) rfl fun w0 own0 M => ?_)
 repeat' (first | refine goH ?_ | refine goV ?_ | refine goI ?_ | (refine Cw.k_cond ?_; first | (refine Cw.cond_dec rfl ?_ ?_ <;> intro hc <;> try omega) | refine Cw.cond_bool rfl ?_ ?_ <;> intro hc) | refine goR ?_ | refine goP ?_ | apply PSeq.cons | apply PSeq.yes rfl rfl rfl | exact goW | fail)
 refine Cw.loop (ι := Nat × Nat) (fun s => Nat.gcd s.1 s.2 = Nat.gcd m n) (fun s => [(0, .int s.1), (1, .int s.2)]) (fun _ => []) (fun s => s.2) ⟨(m, n), rfl, (Ent.mk goSub goTk)⟩ ?_
 rintro ⟨a, b⟩ h
 simp only at h ⊢
 by_cases hb : b = 0
 ·subst hb
  repeat' (first | refine goH ?_ | refine goV ?_ | refine goI ?_ | (refine Cw.k_cond ?_; first | (refine Cw.cond_dec rfl ?_ ?_ <;> intro hc <;> try omega) | refine Cw.cond_bool rfl ?_ ?_ <;> intro hc) | refine goR ?_ | refine goP ?_ | apply PSeq.cons | apply PSeq.yes rfl rfl rfl | exact goW | fail)
  refine Fin.ret Ent.refl (Outs.one rfl rfl) ⟨rfl, congrArg Tr.int ?_⟩
  rw [Nat.gcd_zero_right] at h
  unfold gcdI
  simp [h]
 ·repeat' (first | refine goH ?_ | refine goV ?_ | refine goI ?_ | (refine Cw.k_cond ?_; first | (refine Cw.cond_dec rfl ?_ ?_ <;> intro hc <;> try omega) | refine Cw.cond_bool rfl ?_ ?_ <;> intro hc) | refine goR ?_ | refine goP ?_ | apply PSeq.cons | apply PSeq.yes rfl rfl rfl | exact goW | fail)
  exact ⟨(b, a % b), by rw [nat_gcd_step]; exact h, Nat.mod_lt _ (by omega), (Ent.mk goSub goTk)⟩

theorem fraction_fn (a b : Int) (ha : -2000000000000000000 ≤ a ∧ a ≤ 2000000000000000000) (hb : 1 ≤ b ∧ b ≤ 2000000000000000000) : PFn Tryz.prog 68 [.int a, .int b] (· = .agg (frac a b).row) := by
 have hm : max a (-a) = a.natAbs := by omega
 have hg : gcdI (max a (-a)) b = gcdI a b := by rw [hm]; rfl
 have hp := gcdI_pos (a := a) hb.1
 have hf := gcd_fn (max a (-a)) b (by omega) (by omega)
 rw [hg] at hf
 refine PFn.mk (Spec.body Tryz.func68 rfl rfl (Tryz.ntmps68) rfl fun w0 own0 M => ?_)
 repeat' (first | refine goH ?_ | refine goV ?_ | refine goB (fun b => ?_) | refine goI ?_ | (refine Cw.k_cond ?_; first | (refine Cw.cond_dec rfl ?_ ?_ <;> intro hc <;> try omega) | refine Cw.cond_bool rfl ?_ ?_ <;> intro hc) | (refine Ops.k_calla ?_; first | (refine Ops.k_callf 103 ?_; refine Ops.callV hf (Evs.cons rfl (Evs.cons rfl Evs.nil)) rfl ?_)) | (apply OpW.k_call; first | (apply OpW.k_callf 103; exact OpW.callV hf (Evs.cons rfl (Evs.cons rfl Evs.nil)))) | refine goR ?_ | refine goP ?_ | apply PSeq.cons | apply PSeq.yes rfl rfl rfl | exact goW | fail)
 refine Fin.ret (Ent.trans (Ent.setbox (s := 4) rfl goPk) (Ent.take goTk)) (Outs.sole rfl goOe) ⟨rfl, rfl⟩

end Lg
end
