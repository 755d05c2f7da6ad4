/- A part of the proof of a law of this seat: it adds no condition. By an AI agent. -/
import Derived.Test.YtfgcjpkkbhnkgaaGreatDoorLgY
import Derived.Test.YtfgcjpkkbhnkgaaGreatDoorCmpOrI
section
set_option linter.all false
set_option maxRecDepth 100000
set_option maxHeartbeats 8000000
namespace Lg
open Go Go.Proofs

/-! ### meter.Share of 3 among 1 and 2 -/
theorem sharedLtM_fn (b3 b4 b5 : Nat) (a b : Int) (ha : a = 0 ∨ a = 1) (hb : b = 0 ∨ b = 1) : Spec Tryz.prog 120 ([.int a, .int b] ++ [Value.pointer (some ⟨b3, 0, none⟩), Value.pointer (some ⟨b4, 0, none⟩), Value.pointer (some ⟨b5, 0, none⟩)].map Tr.raw) [Chunk.box b3 3 [.int 3], Chunk.box b4 22 [.sl 1 [[Tr.int 1], [Tr.int 2]]], Chunk.box b5 3 [.int 3]] (fun r cs => r = .int 0 ∧ cs = [Chunk.box b3 3 [.int 3], Chunk.box b4 22 [.sl 1 [[Tr.int 1], [Tr.int 2]]], Chunk.box b5 3 [.int 3]]) := by
 have hc : PFn Tryz.prog 31 [.int 0, .int 0] (· = .int 0) := compare_fn 0 0
 have r0 : ([[Tr.int 1], [Tr.int 2]] : List (List Tr))[0]? = some [Tr.int 1] := rfl
 have r1 : ([[Tr.int 1], [Tr.int 2]] : List (List Tr))[1]? = some [Tr.int 2] := rfl
 refine Spec.body Tryz.func120 rfl rfl (Tryz.ntmps120) rfl fun w0 own0 M => ?_
 rcases ha with rfl | rfl <;> rcases hb with rfl | rfl
 all_goals
  repeat' (first | refine goH ?_ | refine goV ?_ | refine goI ?_ | (refine Cw.k_cond ?_; first | (refine Cw.cond_dec rfl ?_ ?_ <;> intro hc <;> try omega) | refine Cw.cond_bool rfl ?_ ?_ <;> intro hc) | (refine Ops.k_calla ?_; first | (refine Ops.k_callf 31 ?_; refine Ops.callV hc (Evs.cons rfl (Evs.cons rfl Evs.nil)) rfl ?_)) | (apply OpW.k_call; first | (apply OpW.k_callf 31; exact OpW.callV hc (Evs.cons rfl (Evs.cons rfl Evs.nil)))) | refine goR ?_ | refine goP ?_ | apply PSeq.cons | apply PSeq.yes rfl rfl rfl | exact goW | fail)
  exact Fin.ret (Ent.take goTk) (Outs.one rfl rfl) ⟨rfl, rfl⟩
theorem shared12_fn : PFn Tryz.prog 81 [.int 3, .sl 1 [[Tr.int 1], [Tr.int 2]], .int 3] (· = .sl 1 [[Tr.int 1], [Tr.int 2]]) := by
 have kS : ∀ (b3 b4 b5 : Nat) (ad : Option Addr) (cap : Nat), Spec Tryz.prog 119 [Tr.raw (.slice ad 2 cap), Tr.raw (.func (.func 120) #[] [Value.pointer (some ⟨b3, 0, none⟩), Value.pointer (some ⟨b4, 0, none⟩), Value.pointer (some ⟨b5, 0, none⟩)].toArray)] [Chunk.own ad cap 1 3 [[.int 0], [.int 1]], Chunk.box b3 3 [.int 3], Chunk.box b4 22 [.sl 1 [[Tr.int 1], [Tr.int 2]]], Chunk.box b5 3 [.int 3]] (fun r cs => r = Tr.tup [] ∧ cs = [Chunk.own ad cap 1 3 [[.int 0], [.int 1]], Chunk.box b3 3 [.int 3], Chunk.box b4 22 [.sl 1 [[Tr.int 1], [Tr.int 2]]], Chunk.box b5 3 [.int 3]]) := fun b3 b4 b5 ad cap => sortStable_int (xs := [0, 1]) (lt := fun _ _ => false) (cf := fun _ _ => 0) (caps := [.pointer (some ⟨b3, 0, none⟩), .pointer (some ⟨b4, 0, none⟩), .pointer (some ⟨b5, 0, none⟩)]) (cin := [Chunk.box b3 3 [.int 3], Chunk.box b4 22 [.sl 1 [[Tr.int 1], [Tr.int 2]]], Chunk.box b5 3 [.int 3]]) (fun a b => rfl) (by simp) rfl (fun a b ha hb => sharedLtM_fn b3 b4 b5 a b (by simpa using ha) (by simpa using hb))
 have r0 : ([[Tr.int 1], [Tr.int 2]] : List (List Tr))[0]? = some [Tr.int 1] := rfl
 have r1 : ([[Tr.int 1], [Tr.int 2]] : List (List Tr))[1]? = some [Tr.int 2] := rfl
 refine PFn.mk (Spec.body Tryz.func81 rfl rfl (Tryz.ntmps81) rfl fun w0 own0 M => ?_)
 have hL2 : ((([[Tr.int 1], [Tr.int 2]] : List (List Tr)).length : Nat) : Int) = 2 := rfl
 have hn2 : ((([[Tr.int 1], [Tr.int 2]] : List (List Tr)).length : Nat) : Int).toNat = 2 := rfl
 have hrep : List.replicate 2 (List.map Tr.raw [Value.int .i64 0]) = [[Tr.int 0], [Tr.int 0]] := rfl
 repeat' (first | refine goH ?_ | (refine Ops.k_makeSlice ?_; first | (refine Ops.makeSlice rfl rfl (by omega) (by omega) (by omega) rfl (fun ad cap => ?_); rw [hn2, hrep])) | refine goV ?_ | refine goB (fun b => ?_) | refine goC (fun ad cap => ?_) | refine goI ?_ | (refine Cw.k_cond ?_; first | (refine Cw.cond_dec rfl ?_ ?_ <;> intro hc <;> try omega) | refine Cw.cond_bool rfl ?_ ?_ <;> intro hc) | fail)
 rename_i b3 b4 ad1 cap1
 rw [hL2]
 refine Cw.loopI [(3, _), (4, _), (5, _), (7, _), (8, _), (21, _), (22, _)] _ (fun q e cc => ∃ (k : Nat) (p0 p1 q1 z : Int), q = 2 - k ∧ ((k = 0 ∧ p0 = 0 ∧ p1 = 0 ∧ q1 = 0 ∧ z = 3) ∨ (k = 1 ∧ p0 = 1 ∧ p1 = 0 ∧ q1 = 0 ∧ z = 2) ∨ (k = 2 ∧ p0 = 1 ∧ p1 = 2 ∧ q1 = 1 ∧ z = 0)) ∧ e = [(9, .int z), (23, .int k)] ∧ cc = [Chunk.own ad1 cap1 1 3 [[.int p0], [.int p1]], Chunk.own ad cap 1 3 [[.int 0], [.int q1]]])
  ⟨_, _, _, (Ent.mkP goSub goPm), 0, 0, 0, 0, 3, rfl, .inl ⟨rfl, rfl, rfl, rfl, rfl⟩, rfl, rfl⟩ ?_
 rintro _ _ _ ⟨k, p0, p1, q1, z, rfl, ⟨rfl, rfl, rfl, rfl, rfl⟩ | ⟨rfl, rfl, rfl, rfl, rfl⟩ | ⟨rfl, rfl, rfl, rfl, rfl⟩, rfl, rfl⟩
 ·repeat' (first | refine goH ?_ | refine goV ?_ | refine goB (fun b => ?_) | refine goC (fun ad cap => ?_) | refine goI ?_ | (refine Cw.k_cond ?_; first | (refine Cw.cond_dec rfl ?_ ?_ <;> intro hc <;> try omega) | refine Cw.cond_bool rfl ?_ ?_ <;> intro hc) | fail)
  exact ⟨_, _, _, (Ent.mk goSub goTk), ⟨1, 1, 0, 0, 2, rfl, .inr (.inl ⟨rfl, rfl, rfl, rfl, rfl⟩), rfl, rfl⟩, by omega⟩
 ·repeat' (first | refine goH ?_ | refine goV ?_ | refine goB (fun b => ?_) | refine goC (fun ad cap => ?_) | refine goI ?_ | (refine Cw.k_cond ?_; first | (refine Cw.cond_dec rfl ?_ ?_ <;> intro hc <;> try omega) | refine Cw.cond_bool rfl ?_ ?_ <;> intro hc) | fail)
  exact ⟨_, _, _, (Ent.mk goSub goTk), ⟨2, 1, 2, 1, 0, rfl, .inr (.inr ⟨rfl, rfl, rfl, rfl, rfl⟩), rfl, rfl⟩, by omega⟩
 ·repeat' (first | refine goH ?_ | refine goV ?_ | refine goB (fun b => ?_) | refine goC (fun ad cap => ?_) | refine goI ?_ | (refine Cw.k_cond ?_; first | (refine Cw.cond_dec rfl ?_ ?_ <;> intro hc <;> try omega) | refine Cw.cond_bool rfl ?_ ?_ <;> intro hc) | (refine Ops.k_calla ?_; first | (refine Ops.k_callf 119 ?_; (refine Ops.call (kS _ _ _ _ _) (Evs.cons rfl (Evs.cons rfl Evs.nil)) goPm rfl ?_; rintro r cs' ⟨rfl, rfl⟩))) | fail)
  refine Cw.loopI [(7, _), (52, _), (53, _)] _ (fun q e cc => q = 0 ∧ e = [(54, .int 0)] ∧ cc = []) ⟨_, _, _, (Ent.mkP goSub goPm), rfl, rfl, rfl⟩ ?_
  rintro _ _ _ ⟨rfl, rfl, rfl⟩
  repeat' (first | refine goH ?_ | refine goV ?_ | refine goB (fun b => ?_) | refine goC (fun ad cap => ?_) | refine goI ?_ | (refine Cw.k_cond ?_; first | (refine Cw.cond_dec rfl ?_ ?_ <;> intro hc <;> try omega) | refine Cw.cond_bool rfl ?_ ?_ <;> intro hc) | fail)
  refine Fin.ret (Ent.trans (Ent.settle (s := 6) rfl goPk rfl) (Ent.take goTk)) (Outs.sole rfl goOe) ⟨rfl, rfl⟩
theorem share12_fn : PFn Tryz.prog 46 [.int 3, .sl 1 [[Tr.int 1], [Tr.int 2]]] (· = .tup [.sl 1 [[Tr.int 1], [Tr.int 2]], .int 0]) := by
 have hL2 : ((([[Tr.int 1], [Tr.int 2]] : List (List Tr)).length : Nat) : Int) = 2 := rfl
 have k0 : PFn Tryz.prog 19 [.int 3, .int 0, .int 1000000000] (· = .bool false) := out_fn 3 0 1000000000
 have k1 : PFn Tryz.prog 19 [.int 1, .int 0, .int 1000000] (· = .bool false) := out_fn 1 0 1000000
 have k2 : PFn Tryz.prog 19 [.int 2, .int 0, .int 1000000] (· = .bool false) := out_fn 2 0 1000000
 have k3 := shared12_fn
 have r0 : ([[Tr.int 1], [Tr.int 2]] : List (List Tr))[0]? = some [Tr.int 1] := rfl
 have r1 : ([[Tr.int 1], [Tr.int 2]] : List (List Tr))[1]? = some [Tr.int 2] := rfl
 refine PFn.mk (Spec.body Tryz.func46 rfl rfl (Tryz.ntmps46) rfl fun w0 own0 M => ?_)
 repeat' (first | refine goH ?_ | refine goV ?_ | refine goI ?_ | (refine Cw.k_cond ?_; first | (refine Cw.cond_dec rfl ?_ ?_ <;> intro hc <;> try omega) | refine Cw.cond_bool rfl ?_ ?_ <;> intro hc) | (refine Ops.k_calla ?_; first | (refine Ops.k_callf 19 ?_; refine Ops.callV k0 (Evs.cons rfl (Evs.cons rfl (Evs.cons rfl Evs.nil))) rfl ?_)) | fail)
 rw [hL2]
 refine Cw.loopI [(0, _), (1, _), (20, _), (21, _)] _ (fun q e cc => ∃ (k : Nat) (z : Int), q = 2 - k ∧ ((k = 0 ∧ z = 0) ∨ (k = 1 ∧ z = 1) ∨ (k = 2 ∧ z = 3)) ∧ e = [(6, .int z), (22, .int k)] ∧ cc = [])
  ⟨_, _, _, (Ent.mkP goSub goPm), 0, 0, rfl, .inl ⟨rfl, rfl⟩, rfl, rfl⟩ ?_
 rintro _ _ _ ⟨k, z, rfl, ⟨rfl, rfl⟩ | ⟨rfl, rfl⟩ | ⟨rfl, rfl⟩, rfl, rfl⟩
 ·repeat' (first | refine goH ?_ | refine goV ?_ | refine goI ?_ | (refine Cw.k_cond ?_; first | (refine Cw.cond_dec rfl ?_ ?_ <;> intro hc <;> try omega) | refine Cw.cond_bool rfl ?_ ?_ <;> intro hc) | (refine Ops.k_calla ?_; first | (refine Ops.k_callf 19 ?_; refine Ops.callV k1 (Evs.cons rfl (Evs.cons rfl (Evs.cons rfl Evs.nil))) rfl ?_)) | fail)
  exact ⟨_, _, _, (Ent.mk goSub goTk), ⟨1, 1, rfl, .inr (.inl ⟨rfl, rfl⟩), rfl, rfl⟩, by omega⟩
 ·repeat' (first | refine goH ?_ | refine goV ?_ | refine goI ?_ | (refine Cw.k_cond ?_; first | (refine Cw.cond_dec rfl ?_ ?_ <;> intro hc <;> try omega) | refine Cw.cond_bool rfl ?_ ?_ <;> intro hc) | (refine Ops.k_calla ?_; first | (refine Ops.k_callf 19 ?_; refine Ops.callV k2 (Evs.cons rfl (Evs.cons rfl (Evs.cons rfl Evs.nil))) rfl ?_)) | fail)
  exact ⟨_, _, _, (Ent.mk goSub goTk), ⟨2, 3, rfl, .inr (.inr ⟨rfl, rfl⟩), rfl, rfl⟩, by omega⟩
 ·repeat' (first | refine goH ?_ | refine goV ?_ | refine goI ?_ | (refine Cw.k_cond ?_; first | (refine Cw.cond_dec rfl ?_ ?_ <;> intro hc <;> try omega) | refine Cw.cond_bool rfl ?_ ?_ <;> intro hc) | (refine Ops.k_calla ?_; first | (refine Ops.k_callf 81 ?_; refine Ops.callV k3 (Evs.cons rfl (Evs.cons rfl (Evs.cons rfl Evs.nil))) rfl ?_)) | fail)
  exact Fin.ret (Ent.take goTk) (Outs.two rfl rfl rfl) ⟨rfl, rfl⟩
end Lg
end
section
set_option linter.all false
set_option maxRecDepth 100000
set_option maxHeartbeats 1000000
namespace Lg
open Go Go.Proofs

def gcdI (a b : Int) : Int := (Nat.gcd a.natAbs b.natAbs : Nat)
theorem gcdI_pos {a b : Int} (h : 1 ≤ b) : 1 ≤ gcdI a b := by
 unfold gcdI
 have : 0 < Nat.gcd a.natAbs b.natAbs := Nat.gcd_pos_of_pos_right _ (by omega)
 omega
structure Frac where
 num : Int
 den : Int
def Frac.row (f : Frac) : List Tr := [Tr.int f.num, Tr.int f.den]
def frac (num den : Int) : Frac := ⟨num.tdiv (gcdI num den), den / (gcdI num den)⟩

theorem nat_gcd_step (m n : Nat) : Nat.gcd n (m % n) = Nat.gcd m n := by
 rw [Nat.gcd_comm n, ← Nat.gcd_rec, Nat.gcd_comm]

theorem gcd_fn (a b : Int) (ha : 0 ≤ a) (hb : 0 ≤ b) : PFn Tryz.prog 121 [.int a, .int b] (· = .int (gcdI a b)) := by
 obtain ⟨m, rfl⟩ := Int.eq_ofNat_of_zero_le ha
 obtain ⟨n, rfl⟩ := Int.eq_ofNat_of_zero_le hb
 refine PFn.mk (Spec.body Tryz.func121 rfl rfl (Tryz.ntmps121) rfl fun w0 own0 M => ?_)
 repeat' (first | refine goH ?_ | refine goV ?_ | refine goI ?_ | (refine Cw.k_cond ?_; first | (refine Cw.cond_dec rfl ?_ ?_ <;> intro hc <;> try omega) | refine Cw.cond_bool rfl ?_ ?_ <;> intro hc) | refine goR ?_ | refine goP ?_ | apply PSeq.cons | apply PSeq.yes rfl rfl rfl | exact goW | fail)
 refine Cw.loop (ι := Nat × Nat) (fun s => Nat.gcd s.1 s.2 = Nat.gcd m n) (fun s => [(0, .int s.1), (1, .int s.2)]) (fun _ => []) (fun s => s.2) ⟨(m, n), rfl, (Ent.mk goSub goTk)⟩ ?_
 rintro ⟨a, b⟩ h
 simp only at h ⊢
 by_cases hb : b = 0
 ·subst hb
  repeat' (first | refine goH ?_ | refine goV ?_ | refine goI ?_ | (refine Cw.k_cond ?_; first | (refine Cw.cond_dec rfl ?_ ?_ <;> intro hc <;> try omega) | refine Cw.cond_bool rfl ?_ ?_ <;> intro hc) | refine goR ?_ | refine goP ?_ | apply PSeq.cons | apply PSeq.yes rfl rfl rfl | exact goW | fail)
  refine Fin.ret Ent.refl (Outs.one rfl rfl) ⟨rfl, congrArg Tr.int ?_⟩
  rw [Nat.gcd_zero_right] at h
  unfold gcdI
  simp [h]
 ·repeat' (first | refine goH ?_ | refine goV ?_ | refine goI ?_ | (refine Cw.k_cond ?_; first | (refine Cw.cond_dec rfl ?_ ?_ <;> intro hc <;> try omega) | refine Cw.cond_bool rfl ?_ ?_ <;> intro hc) | refine goR ?_ | refine goP ?_ | apply PSeq.cons | apply PSeq.yes rfl rfl rfl | exact goW | fail)
  exact ⟨(b, a % b), by rw [nat_gcd_step]; exact h, Nat.mod_lt _ (by omega), (Ent.mk goSub goTk)⟩

theorem fraction_fn (a b : Int) (ha : -2000000000000000000 ≤ a ∧ a ≤ 2000000000000000000) (hb : 1 ≤ b ∧ b ≤ 2000000000000000000) : PFn Tryz.prog 85 [.int a, .int b] (· = .agg (frac a b).row) := by
 have hm : max a (-a) = a.natAbs := by omega
 have hg : gcdI (max a (-a)) b = gcdI a b := by rw [hm]; rfl
 have hp := gcdI_pos (a := a) hb.1
 have hf := gcd_fn (max a (-a)) b (by omega) (by omega)
 rw [hg] at hf
 refine PFn.mk (Spec.body Tryz.func85 rfl rfl (Tryz.ntmps85) rfl fun w0 own0 M => ?_)
 repeat' (first | refine goH ?_ | refine goV ?_ | refine goB (fun b => ?_) | refine goI ?_ | (refine Cw.k_cond ?_; first | (refine Cw.cond_dec rfl ?_ ?_ <;> intro hc <;> try omega) | refine Cw.cond_bool rfl ?_ ?_ <;> intro hc) | (refine Ops.k_calla ?_; first | (refine Ops.k_callf 121 ?_; refine Ops.callV hf (Evs.cons rfl (Evs.cons rfl Evs.nil)) rfl ?_)) | (apply OpW.k_call; first | (apply OpW.k_callf 121; exact OpW.callV hf (Evs.cons rfl (Evs.cons rfl Evs.nil)))) | refine goR ?_ | refine goP ?_ | apply PSeq.cons | apply PSeq.yes rfl rfl rfl | exact goW | fail)
 refine Fin.ret (Ent.trans (Ent.setbox (s := 4) rfl goPk) (Ent.take goTk)) (Outs.sole rfl goOe) ⟨rfl, rfl⟩

end Lg
end
section
set_option linter.all false
set_option maxRecDepth 100000
set_option maxHeartbeats 2000000
namespace Lg
open Go Go.Proofs

structure Sales where
 day : Int
 sold : Int
 out : Bool
def Sales.row (d : Sales) : List Tr := [Tr.int d.day, Tr.int d.sold, Tr.bool d.out]
abbrev Tr.sales (l : List Sales) : Tr := Tr.sl 3 (l.map Sales.row)

def daysGo : Option Int → List Sales → Int
 |_, [] => 0
 |prev, d :: l => if d.day < 0 ∨ 4000 < d.day then 1 else if prev.any (fun p => decide (d.day ≤ p)) = true then 7 else if d.sold < 0 ∨ 1000 < d.sold then 1 else daysGo (some d.day) l
def daysFault (l : List Sales) : Int := if 400 < l.length then 2 else daysGo none l
def prevAt (l : List Sales) (k : Nat) : Option Int := if k = 0 then none else (l[k - 1]?).map (·.day)

structure Right (l : List Sales) : Prop where
 len : l.length ≤ 400
 day : ∀ d ∈ l, 0 ≤ d.day ∧ d.day ≤ 4000
 sold : ∀ d ∈ l, 0 ≤ d.sold ∧ d.sold ≤ 1000

theorem daysGo_right : ∀ {l : List Sales} {prev : Option Int}, daysGo prev l = 0 → ∀ d ∈ l, (0 ≤ d.day ∧ d.day ≤ 4000) ∧ (0 ≤ d.sold ∧ d.sold ≤ 1000)
 |[], _, _, d, hd => by simp at hd
 |x :: l, prev, h, d, hd => by
  unfold daysGo at h
  split at h
  ·omega
  split at h
  ·omega
  split at h
  ·omega
  rename_i h1 h2 h3
  rcases List.mem_cons.1 hd with rfl | hd
  ·omega
  ·exact daysGo_right h d hd
theorem daysFault_right {l : List Sales} (h : daysFault l = 0) : Right l := by
 unfold daysFault at h
 split at h
 ·omega
 rename_i h1
 exact ⟨by omega, fun d hd => (daysGo_right h d hd).1, fun d hd => (daysGo_right h d hd).2⟩

theorem day_t (n : Int) (h : 0 ≤ n ∧ n ≤ 4000) : PFn Tryz.prog 71 [.int n] (· = .bool true) := by
 have := day_fn n
 rwa [show dayB n = true by unfold dayB outB; rw [decide_eq_false (by omega)]; rfl] at this
theorem day_f (n : Int) (h : n < 0 ∨ 4000 < n) : PFn Tryz.prog 71 [.int n] (· = .bool false) := by
 have := day_fn n
 rwa [show dayB n = false by unfold dayB outB; rw [decide_eq_true (by omega)]; rfl] at this

theorem checkDays_fn (l : List Sales) : PFn Tryz.prog 82 [.sales l] (· = .int (daysFault l)) := by
 refine PFn.mk (Spec.body Tryz.func82 rfl rfl (Tryz.ntmps82) rfl fun w0 own0 M => ?_)
 have hL : (l.map Sales.row).length = l.length := List.length_map _
 repeat' (first | refine goH ?_ | refine goV ?_ | refine goB (fun b => ?_) | refine goG ?_ | (refine Ops.k_guard ?_; first | (refine Ops.guard_dec rfl rfl ?_ ?_ <;> intro hc <;> try omega) | refine Ops.guard_split rfl rfl ?_ ?_ <;> intro hc) | refine goI ?_ | (refine Cw.k_cond ?_; first | (refine Cw.cond_dec rfl ?_ ?_ <;> intro hc <;> try omega) | refine Cw.cond_bool rfl ?_ ?_ <;> intro hc) | refine goR ?_ | refine goP ?_ | apply PSeq.cons | apply PSeq.yes rfl rfl rfl | exact goW | fail)
 ·exact Fin.ret Ent.refl (Outs.one rfl rfl) ⟨rfl, by unfold daysFault; rw [if_pos (by omega)]⟩
 have h4 : ¬ 400 < l.length := by omega
 refine Cw.loop (ι := Nat) (fun k => k ≤ l.length ∧ daysFault l = daysGo (prevAt l k) (l.drop k)) (fun k => [(0, .sales l), (8, .sales l), (9, .int (l.map Sales.row).length), (10, .int k)]) (fun _ => []) (fun k => l.length - k) ⟨0, ⟨by omega, by unfold daysFault; rw [if_neg h4]; simp [prevAt]⟩, (Ent.mk goSub goTk)⟩ ?_
 rintro k ⟨hk, hfin⟩
 by_cases hkl : k < l.length
 ·obtain ⟨d, hd⟩ := at_lt hkl
  have hrow : (l.map Sales.row)[k]? = some [Tr.int d.day, Tr.int d.sold, Tr.bool d.out] := rows_at hd
  have hnext : prevAt l (k + 1) = some d.day := by simp [prevAt, hd]
  rw [drop_at hd] at hfin
  unfold daysGo at hfin
  by_cases h1 : d.day < 0 ∨ 4000 < d.day
  ·rw [if_pos h1] at hfin
   repeat' (first | refine goH ?_ | refine goV ?_ | refine goB (fun b => ?_) | refine goG ?_ | (refine Ops.k_guard ?_; first | (refine Ops.guard_dec rfl rfl ?_ ?_ <;> intro hc <;> try omega) | refine Ops.guard_split rfl rfl ?_ ?_ <;> intro hc) | refine goI ?_ | (refine Cw.k_cond ?_; first | (refine Cw.cond_dec rfl ?_ ?_ <;> intro hc <;> try omega) | refine Cw.cond_bool rfl ?_ ?_ <;> intro hc) | (refine Ops.k_calla ?_; first | (refine Ops.k_callf 71 ?_; refine Ops.callV (day_f _ (by omega)) (Evs.cons rfl Evs.nil) rfl ?_)) | (apply OpW.k_call; first | (apply OpW.k_callf 71; exact OpW.callV (day_f _ (by omega)) (Evs.cons rfl Evs.nil))) | refine goR ?_ | refine goP ?_ | apply PSeq.cons | apply PSeq.yes rfl rfl rfl | exact goW | fail)
   refine Fin.ret (Ent.take goTk) (Outs.one rfl rfl) ⟨rfl, congrArg Tr.int ?_⟩
   rw [hfin]
  rw [if_neg h1] at hfin
  by_cases hk0 : k = 0
  ·subst hk0
   simp only [prevAt, if_true, Option.any_none, Bool.false_eq_true, if_false] at hfin
   by_cases h3 : d.sold < 0 ∨ 1000 < d.sold
   ·rw [if_pos h3] at hfin
    repeat' (first | refine goH ?_ | refine goV ?_ | refine goB (fun b => ?_) | refine goG ?_ | (refine Ops.k_guard ?_; first | (refine Ops.guard_dec rfl rfl ?_ ?_ <;> intro hc <;> try omega) | refine Ops.guard_split rfl rfl ?_ ?_ <;> intro hc) | refine goI ?_ | (refine Cw.k_cond ?_; first | (refine Cw.cond_dec rfl ?_ ?_ <;> intro hc <;> try omega) | refine Cw.cond_bool rfl ?_ ?_ <;> intro hc) | (refine Ops.k_calla ?_; first | (refine Ops.k_callf 71 ?_; refine Ops.callV (day_t _ (by omega)) (Evs.cons rfl Evs.nil) rfl ?_) | (refine Ops.k_callf 19 ?_; refine Ops.callV (out_t _ _ _ (by omega)) (Evs.cons rfl (Evs.cons rfl (Evs.cons rfl Evs.nil))) rfl ?_)) | (apply OpW.k_call; first | (apply OpW.k_callf 71; exact OpW.callV (day_t _ (by omega)) (Evs.cons rfl Evs.nil)) | (apply OpW.k_callf 19; exact OpW.callV (out_t _ _ _ (by omega)) (Evs.cons rfl (Evs.cons rfl (Evs.cons rfl Evs.nil))))) | refine goR ?_ | refine goP ?_ | apply PSeq.cons | apply PSeq.yes rfl rfl rfl | exact goW | fail)
    refine Fin.ret (Ent.take goTk) (Outs.one rfl rfl) ⟨rfl, congrArg Tr.int ?_⟩
    rw [hfin]
   ·rw [if_neg h3] at hfin
    repeat' (first | refine goH ?_ | refine goV ?_ | refine goB (fun b => ?_) | refine goG ?_ | (refine Ops.k_guard ?_; first | (refine Ops.guard_dec rfl rfl ?_ ?_ <;> intro hc <;> try omega) | refine Ops.guard_split rfl rfl ?_ ?_ <;> intro hc) | refine goI ?_ | (refine Cw.k_cond ?_; first | (refine Cw.cond_dec rfl ?_ ?_ <;> intro hc <;> try omega) | refine Cw.cond_bool rfl ?_ ?_ <;> intro hc) | (refine Ops.k_calla ?_; first | (refine Ops.k_callf 71 ?_; refine Ops.callV (day_t _ (by omega)) (Evs.cons rfl Evs.nil) rfl ?_) | (refine Ops.k_callf 19 ?_; refine Ops.callV (out_f _ _ _ (by omega)) (Evs.cons rfl (Evs.cons rfl (Evs.cons rfl Evs.nil))) rfl ?_)) | (apply OpW.k_call; first | (apply OpW.k_callf 71; exact OpW.callV (day_t _ (by omega)) (Evs.cons rfl Evs.nil)) | (apply OpW.k_callf 19; exact OpW.callV (out_f _ _ _ (by omega)) (Evs.cons rfl (Evs.cons rfl (Evs.cons rfl Evs.nil))))) | refine goR ?_ | refine goP ?_ | apply PSeq.cons | apply PSeq.yes rfl rfl rfl | exact goW | fail)
    refine ⟨1, ⟨by omega, ?_⟩, by omega, (Ent.mk goSub goTk)⟩
    rw [hnext, hfin]
  ·obtain ⟨d', hd'⟩ := at_lt (l := l) (k := k - 1) (by omega)
   have hrow' : (l.map Sales.row)[((k : Int) - 1).toNat]? = some [Tr.int d'.day, Tr.int d'.sold, Tr.bool d'.out] := by rw [show ((k : Int) - 1).toNat = k - 1 by omega]; exact rows_at hd'
   simp only [prevAt, hk0, if_false, hd', Option.map_some, Option.any_some, decide_eq_true_eq] at hfin
   by_cases h2 : d.day ≤ d'.day
   ·rw [if_pos h2] at hfin
    repeat' (first | refine goH ?_ | refine goV ?_ | refine goB (fun b => ?_) | refine goG ?_ | (refine Ops.k_guard ?_; first | (refine Ops.guard_dec rfl rfl ?_ ?_ <;> intro hc <;> try omega) | refine Ops.guard_split rfl rfl ?_ ?_ <;> intro hc) | refine goI ?_ | (refine Cw.k_cond ?_; first | (refine Cw.cond_dec rfl ?_ ?_ <;> intro hc <;> try omega) | refine Cw.cond_bool rfl ?_ ?_ <;> intro hc) | (refine Ops.k_calla ?_; first | (refine Ops.k_callf 71 ?_; refine Ops.callV (day_t _ (by omega)) (Evs.cons rfl Evs.nil) rfl ?_)) | (apply OpW.k_call; first | (apply OpW.k_callf 71; exact OpW.callV (day_t _ (by omega)) (Evs.cons rfl Evs.nil))) | refine goR ?_ | refine goP ?_ | apply PSeq.cons | apply PSeq.yes rfl rfl rfl | exact goW | fail)
    refine Fin.ret (Ent.take goTk) (Outs.one rfl rfl) ⟨rfl, congrArg Tr.int ?_⟩
    rw [hfin]
   rw [if_neg h2] at hfin
   by_cases h3 : d.sold < 0 ∨ 1000 < d.sold
   ·rw [if_pos h3] at hfin
    repeat' (first | refine goH ?_ | refine goV ?_ | refine goB (fun b => ?_) | refine goG ?_ | (refine Ops.k_guard ?_; first | (refine Ops.guard_dec rfl rfl ?_ ?_ <;> intro hc <;> try omega) | refine Ops.guard_split rfl rfl ?_ ?_ <;> intro hc) | refine goI ?_ | (refine Cw.k_cond ?_; first | (refine Cw.cond_dec rfl ?_ ?_ <;> intro hc <;> try omega) | refine Cw.cond_bool rfl ?_ ?_ <;> intro hc) | (refine Ops.k_calla ?_; first | (refine Ops.k_callf 71 ?_; refine Ops.callV (day_t _ (by omega)) (Evs.cons rfl Evs.nil) rfl ?_) | (refine Ops.k_callf 19 ?_; refine Ops.callV (out_t _ _ _ (by omega)) (Evs.cons rfl (Evs.cons rfl (Evs.cons rfl Evs.nil))) rfl ?_)) | (apply OpW.k_call; first | (apply OpW.k_callf 71; exact OpW.callV (day_t _ (by omega)) (Evs.cons rfl Evs.nil)) | (apply OpW.k_callf 19; exact OpW.callV (out_t _ _ _ (by omega)) (Evs.cons rfl (Evs.cons rfl (Evs.cons rfl Evs.nil))))) | refine goR ?_ | refine goP ?_ | apply PSeq.cons | apply PSeq.yes rfl rfl rfl | exact goW | fail)
    refine Fin.ret (Ent.take goTk) (Outs.one rfl rfl) ⟨rfl, congrArg Tr.int ?_⟩
    rw [hfin]
   ·rw [if_neg h3] at hfin
    repeat' (first | refine goH ?_ | refine goV ?_ | refine goB (fun b => ?_) | refine goG ?_ | (refine Ops.k_guard ?_; first | (refine Ops.guard_dec rfl rfl ?_ ?_ <;> intro hc <;> try omega) | refine Ops.guard_split rfl rfl ?_ ?_ <;> intro hc) | refine goI ?_ | (refine Cw.k_cond ?_; first | (refine Cw.cond_dec rfl ?_ ?_ <;> intro hc <;> try omega) | refine Cw.cond_bool rfl ?_ ?_ <;> intro hc) | (refine Ops.k_calla ?_; first | (refine Ops.k_callf 71 ?_; refine Ops.callV (day_t _ (by omega)) (Evs.cons rfl Evs.nil) rfl ?_) | (refine Ops.k_callf 19 ?_; refine Ops.callV (out_f _ _ _ (by omega)) (Evs.cons rfl (Evs.cons rfl (Evs.cons rfl Evs.nil))) rfl ?_)) | (apply OpW.k_call; first | (apply OpW.k_callf 71; exact OpW.callV (day_t _ (by omega)) (Evs.cons rfl Evs.nil)) | (apply OpW.k_callf 19; exact OpW.callV (out_f _ _ _ (by omega)) (Evs.cons rfl (Evs.cons rfl (Evs.cons rfl Evs.nil))))) | refine goR ?_ | refine goP ?_ | apply PSeq.cons | apply PSeq.yes rfl rfl rfl | exact goW | fail)
    refine ⟨k + 1, ⟨by omega, ?_⟩, by omega, (Ent.mk goSub goTk)⟩
    rw [hnext, hfin]
 ·rw [List.drop_eq_nil_of_le (by omega), daysGo] at hfin
  repeat' (first | refine goH ?_ | refine goV ?_ | refine goB (fun b => ?_) | refine goG ?_ | (refine Ops.k_guard ?_; first | (refine Ops.guard_dec rfl rfl ?_ ?_ <;> intro hc <;> try omega) | refine Ops.guard_split rfl rfl ?_ ?_ <;> intro hc) | refine goI ?_ | (refine Cw.k_cond ?_; first | (refine Cw.cond_dec rfl ?_ ?_ <;> intro hc <;> try omega) | refine Cw.cond_bool rfl ?_ ?_ <;> intro hc) | refine goR ?_ | refine goP ?_ | apply PSeq.cons | apply PSeq.yes rfl rfl rfl | exact goW | fail)
  refine Fin.ret (Ent.take goTk) (Outs.one rfl rfl) ⟨rfl, congrArg Tr.int ?_⟩
  rw [hfin]
end Lg
end
