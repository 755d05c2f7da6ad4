/- A part of the proof of a law of this seat: it adds no condition. By an AI agent. -/
import Derived.Test.YtmncgklajohcbaaGreatDoorFrame
import Derived.Test.YtmncgklajohcbaaGreatDoorEqI
section
set_option linter.all false
set_option maxRecDepth 100000
set_option maxHeartbeats 8000000
namespace Lg
open Go Go.Proofs

/-! ### meter.Share of 3 among 1 and 2 -/
theorem sharedLt_fn (b3 b4 b5 : Nat) (a b : Int) (ha : a = 0 ∨ a = 1) (hb : b = 0 ∨ b = 1) : Spec Tryz.prog 91 ([.int a, .int b] ++ [Value.pointer (some ⟨b3, 0, none⟩), Value.pointer (some ⟨b4, 0, none⟩), Value.pointer (some ⟨b5, 0, none⟩)].map Tr.raw) [Chunk.box b3 3 [.int 3], Chunk.box b4 22 [.sl 1 [[Tr.int 1], [Tr.int 2]]], Chunk.box b5 3 [.int 3]] (fun r cs => r = .int 0 ∧ cs = [Chunk.box b3 3 [.int 3], Chunk.box b4 22 [.sl 1 [[Tr.int 1], [Tr.int 2]]], Chunk.box b5 3 [.int 3]]) := by
  have hc : PFn Tryz.prog 32 [.int 0, .int 0] (· = .int 0) := compare_fn 0 0
  have r0 : ([[Tr.int 1], [Tr.int 2]] : List (List Tr))[0]? = some [Tr.int 1] := rfl
  have r1 : ([[Tr.int 1], [Tr.int 2]] : List (List Tr))[1]? = some [Tr.int 2] := rfl
  refine Spec.body Tryz.func91 rfl rfl (Tryz.ntmps91) rfl fun w0 own0 M => ?_
  rcases ha with rfl | rfl <;> rcases hb with rfl | rfl
  all_goals
    repeat' (first | refine goH ?_ | refine goV ?_ | refine goI ?_ | (refine Cw.k_cond ?_; first | (refine Cw.cond_dec rfl (fun hc => ?_) (fun hc => ?_) <;> try (exfalso; omega)) | refine Cw.cond_bool rfl (fun hc => ?_) (fun hc => ?_)) | (refine Ops.k_calla ?_; first | (refine Ops.k_callf 32 ?_; refine Ops.callV hc (Evs.cons rfl (Evs.cons rfl Evs.nil)) rfl ?_)) | (apply OpW.k_call; first | (apply OpW.k_callf 32; exact OpW.callV hc (Evs.cons rfl (Evs.cons rfl Evs.nil)))) | refine goR ?_ | refine goP ?_ | apply PSeq.cons | apply PSeq.yes rfl rfl rfl | exact goW | fail)
    exact Fin.ret (Ent.take goTk) (Outs.one rfl rfl) ⟨rfl, rfl⟩
theorem shared12_fn : PFn Tryz.prog 74 [.int 3, .sl 1 [[Tr.int 1], [Tr.int 2]], .int 3] (· = .sl 1 [[Tr.int 1], [Tr.int 2]]) := by
  have kS : ∀ (b3 b4 b5 : Nat) (ad : Option Addr) (cap : Nat), Spec Tryz.prog 90 [Tr.raw (.slice ad 2 cap), Tr.raw (.func (.func 91) #[] [Value.pointer (some ⟨b3, 0, none⟩), Value.pointer (some ⟨b4, 0, none⟩), Value.pointer (some ⟨b5, 0, none⟩)].toArray)] [Chunk.own ad cap 1 3 [[.int 0], [.int 1]], Chunk.box b3 3 [.int 3], Chunk.box b4 22 [.sl 1 [[Tr.int 1], [Tr.int 2]]], Chunk.box b5 3 [.int 3]] (fun r cs => r = Tr.tup [] ∧ cs = [Chunk.own ad cap 1 3 [[.int 0], [.int 1]], Chunk.box b3 3 [.int 3], Chunk.box b4 22 [.sl 1 [[Tr.int 1], [Tr.int 2]]], Chunk.box b5 3 [.int 3]]) := fun b3 b4 b5 ad cap => sortStable_int (xs := [0, 1]) (lt := fun _ _ => false) (cf := fun _ _ => 0) (caps := [.pointer (some ⟨b3, 0, none⟩), .pointer (some ⟨b4, 0, none⟩), .pointer (some ⟨b5, 0, none⟩)]) (cin := [Chunk.box b3 3 [.int 3], Chunk.box b4 22 [.sl 1 [[Tr.int 1], [Tr.int 2]]], Chunk.box b5 3 [.int 3]]) (fun a b => rfl) (by simp) rfl (fun a b ha hb => sharedLt_fn b3 b4 b5 a b (by simpa using ha) (by simpa using hb))
  have r0 : ([[Tr.int 1], [Tr.int 2]] : List (List Tr))[0]? = some [Tr.int 1] := rfl
  have r1 : ([[Tr.int 1], [Tr.int 2]] : List (List Tr))[1]? = some [Tr.int 2] := rfl
  refine PFn.mk (Spec.body Tryz.func74 rfl rfl (Tryz.ntmps74) rfl fun w0 own0 M => ?_)
  have hL2 : ((([[Tr.int 1], [Tr.int 2]] : List (List Tr)).length : Nat) : Int) = 2 := rfl
  have hn2 : ((([[Tr.int 1], [Tr.int 2]] : List (List Tr)).length : Nat) : Int).toNat = 2 := rfl
  have hrep : List.replicate 2 (List.map Tr.raw [Value.int .i64 0]) = [[Tr.int 0], [Tr.int 0]] := rfl
  repeat' (first | refine goH ?_ | (refine Ops.k_makeSlice ?_; first | (refine Ops.makeSlice rfl rfl (by omega) (by omega) (by omega) rfl (fun ad cap => ?_); rw [hn2, hrep])) | refine goV ?_ | refine goB (fun b => ?_) | refine goC (fun ad cap => ?_) | refine goI ?_ | (refine Cw.k_cond ?_; first | (refine Cw.cond_dec rfl (fun hc => ?_) (fun hc => ?_) <;> try (exfalso; omega)) | refine Cw.cond_bool rfl (fun hc => ?_) (fun hc => ?_)) | fail)
  rename_i b3 b4 ad1 cap1
  rw [hL2]
  refine Cw.loopI [(3, _), (4, _), (5, _), (7, _), (8, _), (21, _), (22, _)] _ (fun q e cc => ∃ (k : Nat) (p0 p1 q1 z : Int), q = 2 - k ∧ ((k = 0 ∧ p0 = 0 ∧ p1 = 0 ∧ q1 = 0 ∧ z = 3) ∨ (k = 1 ∧ p0 = 1 ∧ p1 = 0 ∧ q1 = 0 ∧ z = 2) ∨ (k = 2 ∧ p0 = 1 ∧ p1 = 2 ∧ q1 = 1 ∧ z = 0)) ∧ e = [(9, .int z), (23, .int k)] ∧ cc = [Chunk.own ad1 cap1 1 3 [[.int p0], [.int p1]], Chunk.own ad cap 1 3 [[.int 0], [.int q1]]])
    ⟨_, _, _, (Ent.mkP goSub goPm), 0, 0, 0, 0, 3, rfl, .inl ⟨rfl, rfl, rfl, rfl, rfl⟩, rfl, rfl⟩ ?_
  rintro _ _ _ ⟨k, p0, p1, q1, z, rfl, ⟨rfl, rfl, rfl, rfl, rfl⟩ | ⟨rfl, rfl, rfl, rfl, rfl⟩ | ⟨rfl, rfl, rfl, rfl, rfl⟩, rfl, rfl⟩
  · repeat' (first | refine goH ?_ | refine goV ?_ | refine goB (fun b => ?_) | refine goC (fun ad cap => ?_) | refine goI ?_ | (refine Cw.k_cond ?_; first | (refine Cw.cond_dec rfl (fun hc => ?_) (fun hc => ?_) <;> try (exfalso; omega)) | refine Cw.cond_bool rfl (fun hc => ?_) (fun hc => ?_)) | fail)
    exact ⟨_, _, _, (Ent.mk goSub goTk), ⟨1, 1, 0, 0, 2, rfl, .inr (.inl ⟨rfl, rfl, rfl, rfl, rfl⟩), rfl, rfl⟩, by omega⟩
  · repeat' (first | refine goH ?_ | refine goV ?_ | refine goB (fun b => ?_) | refine goC (fun ad cap => ?_) | refine goI ?_ | (refine Cw.k_cond ?_; first | (refine Cw.cond_dec rfl (fun hc => ?_) (fun hc => ?_) <;> try (exfalso; omega)) | refine Cw.cond_bool rfl (fun hc => ?_) (fun hc => ?_)) | fail)
    exact ⟨_, _, _, (Ent.mk goSub goTk), ⟨2, 1, 2, 1, 0, rfl, .inr (.inr ⟨rfl, rfl, rfl, rfl, rfl⟩), rfl, rfl⟩, by omega⟩
  · repeat' (first | refine goH ?_ | refine goV ?_ | refine goB (fun b => ?_) | refine goC (fun ad cap => ?_) | refine goI ?_ | (refine Cw.k_cond ?_; first | (refine Cw.cond_dec rfl (fun hc => ?_) (fun hc => ?_) <;> try (exfalso; omega)) | refine Cw.cond_bool rfl (fun hc => ?_) (fun hc => ?_)) | (refine Ops.k_calla ?_; first | (refine Ops.k_callf 90 ?_; (refine Ops.call (kS _ _ _ _ _) (Evs.cons rfl (Evs.cons rfl Evs.nil)) goPm rfl ?_; rintro r cs' ⟨rfl, rfl⟩))) | fail)
    refine Cw.loopI [(7, _), (52, _), (53, _)] _ (fun q e cc => q = 0 ∧ e = [(54, .int 0)] ∧ cc = []) ⟨_, _, _, (Ent.mkP goSub goPm), rfl, rfl, rfl⟩ ?_
    rintro _ _ _ ⟨rfl, rfl, rfl⟩
    repeat' (first | refine goH ?_ | refine goV ?_ | refine goB (fun b => ?_) | refine goC (fun ad cap => ?_) | refine goI ?_ | (refine Cw.k_cond ?_; first | (refine Cw.cond_dec rfl (fun hc => ?_) (fun hc => ?_) <;> try (exfalso; omega)) | refine Cw.cond_bool rfl (fun hc => ?_) (fun hc => ?_)) | fail)
    refine Fin.ret (Ent.trans (Ent.settle (s := 6) rfl goPk rfl) (Ent.take goTk)) (Outs.sole rfl goOe) ⟨rfl, rfl⟩
theorem share12_fn : PFn Tryz.prog 51 [.int 3, .sl 1 [[Tr.int 1], [Tr.int 2]]] (· = .tup [.sl 1 [[Tr.int 1], [Tr.int 2]], .int 0]) := by
  have hL2 : ((([[Tr.int 1], [Tr.int 2]] : List (List Tr)).length : Nat) : Int) = 2 := rfl
  have k0 : PFn Tryz.prog 38 [.int 3, .int 0, .int 1000000000] (· = .bool false) := out_fn 3 0 1000000000
  have k1 : PFn Tryz.prog 38 [.int 1, .int 0, .int 1000000] (· = .bool false) := out_fn 1 0 1000000
  have k2 : PFn Tryz.prog 38 [.int 2, .int 0, .int 1000000] (· = .bool false) := out_fn 2 0 1000000
  have k3 := shared12_fn
  have r0 : ([[Tr.int 1], [Tr.int 2]] : List (List Tr))[0]? = some [Tr.int 1] := rfl
  have r1 : ([[Tr.int 1], [Tr.int 2]] : List (List Tr))[1]? = some [Tr.int 2] := rfl
  refine PFn.mk (Spec.body Tryz.func51 rfl rfl (Tryz.ntmps51) rfl fun w0 own0 M => ?_)
  repeat' (first | refine goH ?_ | refine goV ?_ | refine goI ?_ | (refine Cw.k_cond ?_; first | (refine Cw.cond_dec rfl (fun hc => ?_) (fun hc => ?_) <;> try (exfalso; omega)) | refine Cw.cond_bool rfl (fun hc => ?_) (fun hc => ?_)) | (refine Ops.k_calla ?_; first | (refine Ops.k_callf 38 ?_; refine Ops.callV k0 (Evs.cons rfl (Evs.cons rfl (Evs.cons rfl Evs.nil))) rfl ?_)) | fail)
  rw [hL2]
  refine Cw.loopI [(0, _), (1, _), (20, _), (21, _)] _ (fun q e cc => ∃ (k : Nat) (z : Int), q = 2 - k ∧ ((k = 0 ∧ z = 0) ∨ (k = 1 ∧ z = 1) ∨ (k = 2 ∧ z = 3)) ∧ e = [(6, .int z), (22, .int k)] ∧ cc = [])
    ⟨_, _, _, (Ent.mkP goSub goPm), 0, 0, rfl, .inl ⟨rfl, rfl⟩, rfl, rfl⟩ ?_
  rintro _ _ _ ⟨k, z, rfl, ⟨rfl, rfl⟩ | ⟨rfl, rfl⟩ | ⟨rfl, rfl⟩, rfl, rfl⟩
  · repeat' (first | refine goH ?_ | refine goV ?_ | refine goI ?_ | (refine Cw.k_cond ?_; first | (refine Cw.cond_dec rfl (fun hc => ?_) (fun hc => ?_) <;> try (exfalso; omega)) | refine Cw.cond_bool rfl (fun hc => ?_) (fun hc => ?_)) | (refine Ops.k_calla ?_; first | (refine Ops.k_callf 38 ?_; refine Ops.callV k1 (Evs.cons rfl (Evs.cons rfl (Evs.cons rfl Evs.nil))) rfl ?_)) | fail)
    exact ⟨_, _, _, (Ent.mk goSub goTk), ⟨1, 1, rfl, .inr (.inl ⟨rfl, rfl⟩), rfl, rfl⟩, by omega⟩
  · repeat' (first | refine goH ?_ | refine goV ?_ | refine goI ?_ | (refine Cw.k_cond ?_; first | (refine Cw.cond_dec rfl (fun hc => ?_) (fun hc => ?_) <;> try (exfalso; omega)) | refine Cw.cond_bool rfl (fun hc => ?_) (fun hc => ?_)) | (refine Ops.k_calla ?_; first | (refine Ops.k_callf 38 ?_; refine Ops.callV k2 (Evs.cons rfl (Evs.cons rfl (Evs.cons rfl Evs.nil))) rfl ?_)) | fail)
    exact ⟨_, _, _, (Ent.mk goSub goTk), ⟨2, 3, rfl, .inr (.inr ⟨rfl, rfl⟩), rfl, rfl⟩, by omega⟩
  · repeat' (first | refine goH ?_ | refine goV ?_ | refine goI ?_ | (refine Cw.k_cond ?_; first | (refine Cw.cond_dec rfl (fun hc => ?_) (fun hc => ?_) <;> try (exfalso; omega)) | refine Cw.cond_bool rfl (fun hc => ?_) (fun hc => ?_)) | (refine Ops.k_calla ?_; first | (refine Ops.k_callf 74 ?_; refine Ops.callV k3 (Evs.cons rfl (Evs.cons rfl (Evs.cons rfl Evs.nil))) rfl ?_)) | fail)
    exact Fin.ret (Ent.take goTk) (Outs.two rfl rfl rfl) ⟨rfl, rfl⟩
theorem meters_fn : PFn Tryz.prog 18 [] (· = .bool true) := by
  have k1 := share12_fn
  have k2 : PFn Tryz.prog 52 [.sl 1 [[Tr.int 1], [Tr.int 2]], .sl 1 [[Tr.int 1], [Tr.int 2]]] (· = .bool true) := equalInts_fn [1, 2] [1, 2] (by simp) (by simp)
  refine PFn.mk (Spec.body Tryz.func18 rfl rfl (Tryz.ntmps18) rfl fun w0 own0 M => ?_)
  repeat' (first | refine goH ?_ | refine goV ?_ | refine goG ?_ | (refine Ops.k_guard ?_; first | (refine Ops.guard_dec rfl rfl (fun hc => ?_) (fun hc => ?_) <;> try (exfalso; omega)) | refine Ops.guard_split rfl rfl (fun hc => ?_) (fun hc => ?_)) | refine goI ?_ | (refine Cw.k_cond ?_; first | (refine Cw.cond_dec rfl (fun hc => ?_) (fun hc => ?_) <;> try (exfalso; omega)) | refine Cw.cond_bool rfl (fun hc => ?_) (fun hc => ?_)) | (refine Ops.k_calla ?_; first | (refine Ops.k_callf 51 ?_; refine Ops.callV k1 (Evs.cons rfl (Evs.cons rfl Evs.nil)) rfl ?_) | (refine Ops.k_callf 52 ?_; refine Ops.callV k2 (Evs.cons rfl (Evs.cons rfl Evs.nil)) rfl ?_)) | fail)
  exact Fin.ret (Ent.take goTk) (Outs.one rfl rfl) ⟨rfl, rfl⟩
end Lg
end
section
set_option linter.all false
namespace Lg
open Go Go.Proofs

theorem Ops.shut0 {P : Program} {Γ : Ctx} {env : Env} {cs : List Chunk} {Q : Post} {R : Array Oper} {l : List Oper} {ty b : Nat} {cells : List Tr} {rows : List (List Tr)} (h : cells = [Tr.sl 1 rows, Tr.int ((0 : Nat) : Int)]) (k : Ops P Γ R l env (Chunk.strm ty b rows 0 :: cs) Q) : Ops P Γ R l env (Chunk.box b ty cells :: cs) Q := by
  subst h
  exact Ops.ent (Ent.shut_strm (m := 0) (Nat.le_refl 0)) k
end Lg
end
section
set_option linter.all false
set_option maxRecDepth 100000
set_option maxHeartbeats 4000000
namespace Lg
open Go Go.Proofs

theorem oneU_gen {rows : List (List Tr)} {l : List ByteArray} (hr : IsStrs rows l) (h : 0 < l.length ∧ l.length ≤ 100000) :
    Gen Tryz.prog 25 5 [.sl 1 rows] 1 (fun r => ∃ v, r = .str v ∧ v ∈ l) := by
  unfold Gen
  intro bs xs N hN
  refine Spec.body Tryz.func5 rfl rfl (Tryz.ntmps5) rfl fun w0 own0 M => ?_
  repeat' (first | refine goH ?_ | refine goV ?_ | refine goI ?_ | (refine Cw.k_cond ?_; first | (refine Cw.cond_dec rfl (fun hc => ?_) (fun hc => ?_) <;> try (exfalso; omega)) | refine Cw.cond_bool rfl (fun hc => ?_) (fun hc => ?_)) | (refine Ops.k_calla ?_; first | (refine Ops.k_callf 26 ?_; (refine Ops.callG (one_gen hr h) (Evs.cons rfl (Evs.cons rfl Evs.nil)) goPk (by omega) rfl ?_; rintro r ⟨v, rfl, hv⟩))) | fail)
  refine Fin.ret (Ent.strm_only goPk (by omega)) (Outs.sole rfl goOe) ⟨rfl, v, rfl, hv⟩
end Lg
end
