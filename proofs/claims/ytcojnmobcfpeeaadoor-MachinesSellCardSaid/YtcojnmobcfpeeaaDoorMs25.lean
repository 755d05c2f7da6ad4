/- A part of the proof of a law of this seat: it adds no condition. By an AI agent. -/
import Derived.Test.YtcojnmobcfpeeaaDoorFrame
import Derived.Test.YtcojnmobcfpeeaaDoorMs20
import Derived.Test.YtcojnmobcfpeeaaDoorVendT
section
set_option linter.all false
set_option maxRecDepth 100000
set_option maxHeartbeats 4000000
namespace Lg
open Go Go.Proofs

theorem oneU_gen {rows : List (List Tr)} {l : List ByteArray} (hr : IsStrs rows l) (h : 0 < l.length ∧ l.length ≤ 100000) :
  Gen Tryd.prog 25 11 [.sl 1 rows] 1 (fun r => ∃ v, r = .str v ∧ v ∈ l) := by
 unfold Gen
 intro bs xs N hN
 refine Spec.body Tryd.func11 rfl rfl (Tryd.ntmps11) rfl fun w0 own0 M => ?_
 repeat' (first | refine goH ?_ | refine goV ?_ | refine goB (fun b => ?_) | refine goC (fun ad cap => ?_) | refine goG ?_ | (refine Ops.k_guard ?_; first | (refine Ops.guard_dec rfl rfl ?_ ?_ <;> intro hc <;> try omega) | refine Ops.guard_split rfl rfl ?_ ?_ <;> intro hc) | refine goI ?_ | (refine Cw.k_cond ?_; first | (refine Cw.cond_dec rfl ?_ ?_ <;> intro hc <;> try omega) | refine Cw.cond_bool rfl ?_ ?_ <;> intro hc) | (refine Ops.k_calla ?_; first | (refine Ops.k_callf 37 ?_; (refine Ops.callG (one_gen hr h) (Evs.cons rfl (Evs.cons rfl Evs.nil)) goPk (by omega) rfl ?_; rintro r ⟨v, rfl, hv⟩))) | refine goR ?_ | refine goP ?_ | apply PSeq.cons | apply PSeq.yes rfl rfl rfl | exact goW | fail)
 refine Fin.ret (Ent.strm_only goPk (by omega)) (Outs.sole rfl goOe) ⟨rfl, v, rfl, hv⟩
end Lg
end
section
set_option linter.all false
namespace Lg
open Go Go.Proofs

theorem Ops.shut0 {P : Program} {Γ : Ctx} {env : Env} {cs : List Chunk} {Q : Post} {R : Array Oper} {l : List Oper} {ty b : Nat} {cells : List Tr} {rows : List (List Tr)} (h : cells = [Tr.sl 1 rows, Tr.int ((0 : Nat) : Int)]) (k : Ops P Γ R l env (Chunk.strm ty b rows 0 :: cs) Q) : Ops P Γ R l env (Chunk.box b ty cells :: cs) Q := by
 subst h
 exact Ops.ent (Ent.shut_strm (m := 0) (Nat.le_refl 0)) k
end Lg
end
section
set_option linter.all false
set_option maxRecDepth 100000
set_option maxHeartbeats 8000000
namespace Lg
open Go Go.Proofs

/-! ### the law MachinesSell -/
structure HidS (p : Prop) : Prop where
 h : p
theorem useTail4 {T : Chunk → Chunk → Nat → Prop} {R : Chunk → Chunk → Nat → Prop} {G : Prop} (h : HidS (∀ c1 c2 n, R c1 c2 n → T c1 c2 n) → G) (t : ∀ c1 c2 n, R c1 c2 n → T c1 c2 n) : G := h ⟨t⟩
attribute [local irreducible] intRows StM
theorem machinesSell_law (xs : List Int) : Spec Tryd.prog 3 [Tr.ints xs] [] (fun r _ => r = Tr.bool true) := by
 refine Spec.body Tryd.func3 rfl rfl (Tryd.ntmps3) rfl fun w0 own0 M => ?_
 have k0 := vends_fn
 repeat' (first | refine goH ?_ | ((fail_if_success refine Ops.k_c_call ?_); refine goV ?_) | ((fail_if_success refine Ops.k_c_call ?_); refine goB (fun b => ?_)) | refine goG ?_ | (refine Ops.k_guard ?_; first | (refine Ops.guard_dec rfl rfl ?_ ?_ <;> intro hc <;> try omega) | refine Ops.guard_split rfl rfl ?_ ?_ <;> intro hc) | refine goI ?_ | (refine Cw.k_cond ?_; first | (refine Cw.cond_dec rfl ?_ ?_ <;> intro hc <;> try omega) | refine Cw.cond_bool rfl ?_ ?_ <;> intro hc) | refine Ops.shut0 (ty := 25) rfl ?_ | (refine Ops.k_calla ?_; first | (refine Ops.k_callf 4 ?_; (refine Ops.callG config_gen (Evs.cons rfl Evs.nil) goPk (by omega) rfl ?_; rintro r ⟨T, K, L, G, rfl, hTl, hKl, hLl⟩))) | fail)
 generalize b = b4 at *
 rename_i bs
 have kF := configFault_fn T K L G
 have kC := checkConfig_fn T K L G
 by_cases h0 : cfgE T K L G = 0
 rotate_left
 ·have kN := new_bad T K L G h0
  generalize cfgE T K L G = e at *
  repeat' (first | refine goH ?_ | (refine Ops.k_b_neq ?_; first | (first | refine Ops.val' rfl (OpV.neq_f rfl rfl rfl) ?_ | refine Ops.val' rfl (OpV.neq_t rfl rfl h0) ?_)) | refine goV ?_ | refine goB (fun b => ?_) | refine goG ?_ | (refine Ops.k_guard ?_; first | (refine Ops.guard_dec rfl rfl ?_ ?_ <;> intro hc <;> try omega) | refine Ops.guard_split rfl rfl ?_ ?_ <;> intro hc) | refine goI ?_ | (refine Cw.k_cond ?_; first | (refine Cw.cond_dec rfl ?_ ?_ <;> intro hc <;> try omega) | refine Cw.cond_bool rfl ?_ ?_ <;> intro hc) | (refine Ops.k_calla ?_; first | (refine Ops.k_callf 5 ?_; refine Ops.callV kF (Evs.cons rfl Evs.nil) rfl ?_) | (refine Ops.k_callf 6 ?_; refine Ops.callV kN (Evs.cons rfl Evs.nil) rfl ?_) | (refine Ops.k_callf 7 ?_; refine Ops.callV kC (Evs.cons rfl Evs.nil) rfl ?_) | (refine Ops.k_callf 8 ?_; refine Ops.callV k0 Evs.nil rfl ?_)) | fail)
  exact Fin.ret (Ent.take goTk) (Outs.one rfl rfl) rfl
 have kN := newX T K L G h0
 have kM := newY_ T K L G h0
 rw [h0] at kF kC
 repeat' (first | refine goH ?_ | (refine Ops.k_b_neq ?_; first | (first | refine Ops.val' rfl (OpV.neq_f rfl rfl rfl) ?_)) | refine goV ?_ | refine goB (fun b => ?_) | refine goG ?_ | (refine Ops.k_guard ?_; first | (refine Ops.guard_dec rfl rfl ?_ ?_ <;> intro hc <;> try omega) | refine Ops.guard_split rfl rfl ?_ ?_ <;> intro hc) | refine goI ?_ | (refine Cw.k_cond ?_; first | (refine Cw.cond_dec rfl ?_ ?_ <;> intro hc <;> try omega) | refine Cw.cond_bool rfl ?_ ?_ <;> intro hc) | (refine Ops.k_calla ?_; first | (refine Ops.k_callf 5 ?_; refine Ops.callV kF (Evs.cons rfl Evs.nil) rfl ?_) | (refine Ops.k_callf 6 ?_; (refine Ops.call kN (Evs.cons rfl Evs.nil) goPm rfl ?_; rintro r cs' ⟨b1, c1, hX, rfl, rfl⟩)) | (refine Ops.k_callf 7 ?_; refine Ops.callV kC (Evs.cons rfl Evs.nil) rfl ?_) | (refine Ops.k_callf 9 ?_; (refine Ops.call kM (Evs.cons rfl Evs.nil) goPm rfl ?_; rintro r cs' ⟨b2, c2, hY, rfl, rfl⟩)) | (refine Ops.k_callf 10 ?_; (refine Ops.callG (next_gen _ (by omega)) (Evs.cons rfl (Evs.cons rfl Evs.nil)) goPk (by omega) rfl ?_; rintro r ⟨v, rfl, hv⟩; unfold InRange at hv))) | fail)
 have hS := StM.start h0 hX hY
 clear kN kM kF kC hX hY
 refine Cw.loopI [(3, _), (6, _), (8, _), (43, _)] _ (fun q e cc => ∃ (k n : Nat) (c1 c2 : Chunk), q = v.toNat - k ∧ (k ≤ v.toNat ∧ n ≤ 1000 + 100 * k ∧ StM b1 b2 k c1 c2) ∧ e = [(44, .int k)] ∧ cc = [c1, c2, Chunk.strm 25 bs (intRows xs) n])
  ⟨_, _, _, (Ent.mkP goSub goPm), 0, _, _, _, rfl, ⟨by omega, by omega, hS⟩, rfl, rfl⟩ ?_
 clear hS
 rintro _ _ _ ⟨k, n, c1, c2, rfl, ⟨hk, hn, hS⟩, rfl, rfl⟩
 by_cases hkv : (k : Int) < v
 rotate_left
 ·repeat' (first | refine goH ?_ | refine goV ?_ | refine goB (fun b => ?_) | refine goG ?_ | (refine Ops.k_guard ?_; first | (refine Ops.guard_dec rfl rfl ?_ ?_ <;> intro hc <;> try omega) | refine Ops.guard_split rfl rfl ?_ ?_ <;> intro hc) | refine goI ?_ | (refine Cw.k_cond ?_; first | (refine Cw.cond_dec rfl ?_ ?_ <;> intro hc <;> try omega) | refine Cw.cond_bool rfl ?_ ?_ <;> intro hc) | (refine Ops.k_calla ?_; first | (refine Ops.k_callf 8 ?_; refine Ops.callV k0 Evs.nil rfl ?_)) | fail)
  exact Fin.ret Ent.refl (Outs.one rfl rfl) rfl
 repeat' (first | refine goH ?_ | ((fail_if_success refine Ops.k_b_eql ?_); refine goV ?_) | ((fail_if_success refine Ops.k_b_eql ?_); refine goB (fun b => ?_)) | refine goG ?_ | (refine Ops.k_guard ?_; first | (refine Ops.guard_dec rfl rfl ?_ ?_ <;> intro hc <;> try omega) | refine Ops.guard_split rfl rfl ?_ ?_ <;> intro hc) | refine goI ?_ | (refine Cw.k_cond ?_; first | (refine Cw.cond_dec rfl ?_ ?_ <;> intro hc <;> try omega) | refine Cw.cond_bool rfl ?_ ?_ <;> intro hc) | (refine Ops.k_calla ?_; first | (refine Ops.k_callf 11 ?_; (refine Ops.callG (oneU_gen (by repeat' (first | exact IsStrs.nil | apply IsStrs.cons)) (by simp)) (Evs.cons rfl (Evs.cons rfl Evs.nil)) goPk (by omega) rfl ?_; rintro r ⟨key, rfl, hkey⟩; clear hkey)) | (refine Ops.k_callf 12 ?_; (refine Ops.callG (pick_gen (by repeat' (first | exact IsInts.nil | apply IsInts.cons)) (by simp)) (Evs.cons rfl (Evs.cons rfl Evs.nil)) goPk (by omega) rfl ?_; rintro r ⟨m, rfl, hu⟩; first | have hub : 5 ≤ m ∧ m ≤ 200 := (by simp at hu; omega) | have hmb : -1 ≤ m ∧ m ≤ 4611686018427387904 := (by simp at hu; omega))) | (refine Ops.k_callf 10 ?_; (refine Ops.callG (next_gen _ (by omega)) (Evs.cons rfl (Evs.cons rfl Evs.nil)) goPk (by omega) rfl ?_; rintro r ⟨w, rfl, hw⟩; unfold InRange at hw))) | fail)
 rename_i u hu1
 clear hu hu1
 have hk9 : k ≤ 99 := by omega
 refine useTail4 (T := ?T) (R := fun d1 d2 j => StM b1 b2 (k + 1) d1 d2 ∧ j ≤ n + 10) ?main ?tailp
 case' main => intro tail
 by_cases h0 : w = 0
 ·obtain ⟨e, PX, PY, hP, kX, kY⟩ := bothIns hS hk9 u (by omega)
  repeat' (first | refine goH ?_ | (refine Ops.k_b_eql ?_; first | (first | refine Ops.val' rfl (OpV.eql_t rfl rfl (by omega)) ?_ | refine Ops.val' rfl (OpV.eql_f rfl rfl (by omega)) ?_)) | (refine Ops.k_b_neq ?_; first | (first | refine Ops.val' rfl (OpV.neq_f rfl rfl rfl) ?_ | refine Ops.val' rfl (OpV.neqS_f rfl rfl rfl) ?_)) | ((fail_if_success refine Ops.k_c_call ?_); refine goV ?_) | ((fail_if_success refine Ops.k_c_call ?_); refine goB (fun b => ?_)) | refine goG ?_ | (refine Ops.k_guard ?_; first | (refine Ops.guard_dec rfl rfl ?_ ?_ <;> intro hc <;> try omega) | refine Ops.guard_split rfl rfl ?_ ?_ <;> intro hc) | refine goI ?_ | (refine Cw.k_cond ?_; first | (refine Cw.cond_dec rfl ?_ ?_ <;> intro hc <;> try omega) | refine Cw.cond_bool rfl ?_ ?_ <;> intro hc) | (refine Ops.k_calla ?_; first | (refine Ops.call kX (Evs.cons rfl (Evs.cons rfl Evs.nil)) goPm rfl ?_; rintro r cs' ⟨d1, hd1, rfl, rfl⟩) | (refine Ops.call kY (Evs.cons rfl (Evs.cons rfl Evs.nil)) goPm rfl ?_; rintro r cs' ⟨d2, hd2, rfl, rfl⟩)) | fail)
  obtain ⟨j, hj⟩ : ∃ j, j = n + 1 + 1 + 1 + 1 := ⟨_, rfl⟩
  rw [← hj]
  refine Ops.ent (Ent.mk (env' := [(167, .ptr b1), (166, .bool false), (44, .int k), (3, .ptr bs), (6, .ptr b1), (8, .ptr b2), (43, .int v)]) (cs' := [d1, d2, Chunk.strm 25 bs (intRows xs) j, Chunk.box b4 29 [.tubes T, .ints K, .slots L, .int G]]) goSub goTk) ?_
  exact tail.h d1 d2 j ⟨hP d1 d2 hd1 hd2, by omega⟩
 by_cases h1 : w = 1
 ·obtain ⟨e, PX, PY, hP, kX, kY⟩ := bothIns hS hk9 u (by omega)
  repeat' (first | refine goH ?_ | (refine Ops.k_b_eql ?_; first | (first | refine Ops.val' rfl (OpV.eql_t rfl rfl (by omega)) ?_ | refine Ops.val' rfl (OpV.eql_f rfl rfl (by omega)) ?_)) | (refine Ops.k_b_neq ?_; first | (first | refine Ops.val' rfl (OpV.neq_f rfl rfl rfl) ?_ | refine Ops.val' rfl (OpV.neqS_f rfl rfl rfl) ?_)) | ((fail_if_success refine Ops.k_c_call ?_); refine goV ?_) | ((fail_if_success refine Ops.k_c_call ?_); refine goB (fun b => ?_)) | refine goG ?_ | (refine Ops.k_guard ?_; first | (refine Ops.guard_dec rfl rfl ?_ ?_ <;> intro hc <;> try omega) | refine Ops.guard_split rfl rfl ?_ ?_ <;> intro hc) | refine goI ?_ | (refine Cw.k_cond ?_; first | (refine Cw.cond_dec rfl ?_ ?_ <;> intro hc <;> try omega) | refine Cw.cond_bool rfl ?_ ?_ <;> intro hc) | (refine Ops.k_calla ?_; first | (refine Ops.call kX (Evs.cons rfl (Evs.cons rfl Evs.nil)) goPm rfl ?_; rintro r cs' ⟨d1, hd1, rfl, rfl⟩) | (refine Ops.call kY (Evs.cons rfl (Evs.cons rfl Evs.nil)) goPm rfl ?_; rintro r cs' ⟨d2, hd2, rfl, rfl⟩)) | fail)
  obtain ⟨j, hj⟩ : ∃ j, j = n + 1 + 1 + 1 + 1 := ⟨_, rfl⟩
  rw [← hj]
  refine Ops.ent (Ent.mk (env' := [(167, .ptr b1), (166, .bool false), (44, .int k), (3, .ptr bs), (6, .ptr b1), (8, .ptr b2), (43, .int v)]) (cs' := [d1, d2, Chunk.strm 25 bs (intRows xs) j, Chunk.box b4 29 [.tubes T, .ints K, .slots L, .int G]]) goSub goTk) ?_
  exact tail.h d1 d2 j ⟨hP d1 d2 hd1 hd2, by omega⟩
 by_cases h2 : w = 2
 ·obtain ⟨e, PX, PY, hP, kX, kY⟩ := bothIns hS hk9 u (by omega)
  repeat' (first | refine goH ?_ | (refine Ops.k_b_eql ?_; first | (first | refine Ops.val' rfl (OpV.eql_t rfl rfl (by omega)) ?_ | refine Ops.val' rfl (OpV.eql_f rfl rfl (by omega)) ?_)) | (refine Ops.k_b_neq ?_; first | (first | refine Ops.val' rfl (OpV.neq_f rfl rfl rfl) ?_ | refine Ops.val' rfl (OpV.neqS_f rfl rfl rfl) ?_)) | ((fail_if_success refine Ops.k_c_call ?_); refine goV ?_) | ((fail_if_success refine Ops.k_c_call ?_); refine goB (fun b => ?_)) | refine goG ?_ | (refine Ops.k_guard ?_; first | (refine Ops.guard_dec rfl rfl ?_ ?_ <;> intro hc <;> try omega) | refine Ops.guard_split rfl rfl ?_ ?_ <;> intro hc) | refine goI ?_ | (refine Cw.k_cond ?_; first | (refine Cw.cond_dec rfl ?_ ?_ <;> intro hc <;> try omega) | refine Cw.cond_bool rfl ?_ ?_ <;> intro hc) | (refine Ops.k_calla ?_; first | (refine Ops.call kX (Evs.cons rfl (Evs.cons rfl Evs.nil)) goPm rfl ?_; rintro r cs' ⟨d1, hd1, rfl, rfl⟩) | (refine Ops.call kY (Evs.cons rfl (Evs.cons rfl Evs.nil)) goPm rfl ?_; rintro r cs' ⟨d2, hd2, rfl, rfl⟩)) | fail)
  obtain ⟨j, hj⟩ : ∃ j, j = n + 1 + 1 + 1 + 1 := ⟨_, rfl⟩
  rw [← hj]
  refine Ops.ent (Ent.mk (env' := [(167, .ptr b1), (166, .bool false), (44, .int k), (3, .ptr bs), (6, .ptr b1), (8, .ptr b2), (43, .int v)]) (cs' := [d1, d2, Chunk.strm 25 bs (intRows xs) j, Chunk.box b4 29 [.tubes T, .ints K, .slots L, .int G]]) goSub goTk) ?_
  exact tail.h d1 d2 j ⟨hP d1 d2 hd1 hd2, by omega⟩
 by_cases h3 : w = 3
 ·obtain ⟨e, PX, PY, hP, kX, kY⟩ := bothIns hS hk9 u (by omega)
  repeat' (first | refine goH ?_ | (refine Ops.k_b_eql ?_; first | (first | refine Ops.val' rfl (OpV.eql_t rfl rfl (by omega)) ?_ | refine Ops.val' rfl (OpV.eql_f rfl rfl (by omega)) ?_)) | (refine Ops.k_b_neq ?_; first | (first | refine Ops.val' rfl (OpV.neq_f rfl rfl rfl) ?_ | refine Ops.val' rfl (OpV.neqS_f rfl rfl rfl) ?_)) | ((fail_if_success refine Ops.k_c_call ?_); refine goV ?_) | ((fail_if_success refine Ops.k_c_call ?_); refine goB (fun b => ?_)) | refine goG ?_ | (refine Ops.k_guard ?_; first | (refine Ops.guard_dec rfl rfl ?_ ?_ <;> intro hc <;> try omega) | refine Ops.guard_split rfl rfl ?_ ?_ <;> intro hc) | refine goI ?_ | (refine Cw.k_cond ?_; first | (refine Cw.cond_dec rfl ?_ ?_ <;> intro hc <;> try omega) | refine Cw.cond_bool rfl ?_ ?_ <;> intro hc) | (refine Ops.k_calla ?_; first | (refine Ops.call kX (Evs.cons rfl (Evs.cons rfl Evs.nil)) goPm rfl ?_; rintro r cs' ⟨d1, hd1, rfl, rfl⟩) | (refine Ops.call kY (Evs.cons rfl (Evs.cons rfl Evs.nil)) goPm rfl ?_; rintro r cs' ⟨d2, hd2, rfl, rfl⟩)) | fail)
  obtain ⟨j, hj⟩ : ∃ j, j = n + 1 + 1 + 1 + 1 := ⟨_, rfl⟩
  rw [← hj]
  refine Ops.ent (Ent.mk (env' := [(167, .ptr b1), (166, .bool false), (44, .int k), (3, .ptr bs), (6, .ptr b1), (8, .ptr b2), (43, .int v)]) (cs' := [d1, d2, Chunk.strm 25 bs (intRows xs) j, Chunk.box b4 29 [.tubes T, .ints K, .slots L, .int G]]) goSub goTk) ?_
  exact tail.h d1 d2 j ⟨hP d1 d2 hd1 hd2, by omega⟩
 by_cases h4 : w = 4
 ·obtain ⟨pr, pc, co, e, hco, PX, PY, hP, kX, kY⟩ := bothPress hS hk9 key
  have kE := equalInts_same co (by omega)
  repeat' (first | refine goH ?_ | (refine Ops.k_b_eql ?_; first | (first | refine Ops.val' rfl (OpV.eql_t rfl rfl (by omega)) ?_ | refine Ops.val' rfl (OpV.eql_f rfl rfl (by omega)) ?_)) | (refine Ops.k_b_neq ?_; first | (first | refine Ops.val' rfl (OpV.neq_f rfl rfl rfl) ?_ | refine Ops.val' rfl (OpV.neqS_f rfl rfl rfl) ?_)) | ((fail_if_success refine Ops.k_c_call ?_); refine goV ?_) | ((fail_if_success refine Ops.k_c_call ?_); refine goB (fun b => ?_)) | refine goG ?_ | (refine Ops.k_guard ?_; first | (refine Ops.guard_dec rfl rfl ?_ ?_ <;> intro hc <;> try omega) | refine Ops.guard_split rfl rfl ?_ ?_ <;> intro hc) | refine goI ?_ | (refine Cw.k_cond ?_; first | (refine Cw.cond_dec rfl ?_ ?_ <;> intro hc <;> try omega) | refine Cw.cond_bool rfl ?_ ?_ <;> intro hc) | (refine Ops.k_calla ?_; first | (refine Ops.call kX (Evs.cons rfl (Evs.cons rfl Evs.nil)) goPm rfl ?_; rintro r cs' ⟨d1, hd1, rfl, rfl⟩) | (refine Ops.call kY (Evs.cons rfl (Evs.cons rfl Evs.nil)) goPm rfl ?_; rintro r cs' ⟨d2, hd2, rfl, rfl⟩) | (refine Ops.k_callf 17 ?_; refine Ops.callV kE (Evs.cons rfl (Evs.cons rfl Evs.nil)) rfl ?_)) | fail)
  obtain ⟨j, hj⟩ : ∃ j, j = n + 1 + 1 + 1 + 1 := ⟨_, rfl⟩
  rw [← hj]
  refine Ops.ent (Ent.mk (env' := [(167, .ptr b1), (166, .bool false), (44, .int k), (3, .ptr bs), (6, .ptr b1), (8, .ptr b2), (43, .int v)]) (cs' := [d1, d2, Chunk.strm 25 bs (intRows xs) j, Chunk.box b4 29 [.tubes T, .ints K, .slots L, .int G]]) goSub goTk) ?_
  exact tail.h d1 d2 j ⟨hP d1 d2 hd1 hd2, by omega⟩
 by_cases h5 : w = 5
 ·obtain ⟨pr, pc, co, e, hco, PX, PY, hP, kX, kY⟩ := bothPress hS hk9 key
  have kE := equalInts_same co (by omega)
  repeat' (first | refine goH ?_ | (refine Ops.k_b_eql ?_; first | (first | refine Ops.val' rfl (OpV.eql_t rfl rfl (by omega)) ?_ | refine Ops.val' rfl (OpV.eql_f rfl rfl (by omega)) ?_)) | (refine Ops.k_b_neq ?_; first | (first | refine Ops.val' rfl (OpV.neq_f rfl rfl rfl) ?_ | refine Ops.val' rfl (OpV.neqS_f rfl rfl rfl) ?_)) | ((fail_if_success refine Ops.k_c_call ?_); refine goV ?_) | ((fail_if_success refine Ops.k_c_call ?_); refine goB (fun b => ?_)) | refine goG ?_ | (refine Ops.k_guard ?_; first | (refine Ops.guard_dec rfl rfl ?_ ?_ <;> intro hc <;> try omega) | refine Ops.guard_split rfl rfl ?_ ?_ <;> intro hc) | refine goI ?_ | (refine Cw.k_cond ?_; first | (refine Cw.cond_dec rfl ?_ ?_ <;> intro hc <;> try omega) | refine Cw.cond_bool rfl ?_ ?_ <;> intro hc) | (refine Ops.k_calla ?_; first | (refine Ops.call kX (Evs.cons rfl (Evs.cons rfl Evs.nil)) goPm rfl ?_; rintro r cs' ⟨d1, hd1, rfl, rfl⟩) | (refine Ops.call kY (Evs.cons rfl (Evs.cons rfl Evs.nil)) goPm rfl ?_; rintro r cs' ⟨d2, hd2, rfl, rfl⟩) | (refine Ops.k_callf 17 ?_; refine Ops.callV kE (Evs.cons rfl (Evs.cons rfl Evs.nil)) rfl ?_)) | fail)
  obtain ⟨j, hj⟩ : ∃ j, j = n + 1 + 1 + 1 + 1 := ⟨_, rfl⟩
  rw [← hj]
  refine Ops.ent (Ent.mk (env' := [(167, .ptr b1), (166, .bool false), (44, .int k), (3, .ptr bs), (6, .ptr b1), (8, .ptr b2), (43, .int v)]) (cs' := [d1, d2, Chunk.strm 25 bs (intRows xs) j, Chunk.box b4 29 [.tubes T, .ints K, .slots L, .int G]]) goSub goTk) ?_
  exact tail.h d1 d2 j ⟨hP d1 d2 hd1 hd2, by omega⟩
 by_cases h6 : w = 6
 ·obtain ⟨pr, pc, co, e, hco, PX, PY, hP, kX, kY⟩ := bothPress hS hk9 key
  have kE := equalInts_same co (by omega)
  repeat' (first | refine goH ?_ | (refine Ops.k_b_eql ?_; first | (first | refine Ops.val' rfl (OpV.eql_t rfl rfl (by omega)) ?_ | refine Ops.val' rfl (OpV.eql_f rfl rfl (by omega)) ?_)) | (refine Ops.k_b_neq ?_; first | (first | refine Ops.val' rfl (OpV.neq_f rfl rfl rfl) ?_ | refine Ops.val' rfl (OpV.neqS_f rfl rfl rfl) ?_)) | ((fail_if_success refine Ops.k_c_call ?_); refine goV ?_) | ((fail_if_success refine Ops.k_c_call ?_); refine goB (fun b => ?_)) | refine goG ?_ | (refine Ops.k_guard ?_; first | (refine Ops.guard_dec rfl rfl ?_ ?_ <;> intro hc <;> try omega) | refine Ops.guard_split rfl rfl ?_ ?_ <;> intro hc) | refine goI ?_ | (refine Cw.k_cond ?_; first | (refine Cw.cond_dec rfl ?_ ?_ <;> intro hc <;> try omega) | refine Cw.cond_bool rfl ?_ ?_ <;> intro hc) | (refine Ops.k_calla ?_; first | (refine Ops.call kX (Evs.cons rfl (Evs.cons rfl Evs.nil)) goPm rfl ?_; rintro r cs' ⟨d1, hd1, rfl, rfl⟩) | (refine Ops.call kY (Evs.cons rfl (Evs.cons rfl Evs.nil)) goPm rfl ?_; rintro r cs' ⟨d2, hd2, rfl, rfl⟩) | (refine Ops.k_callf 17 ?_; refine Ops.callV kE (Evs.cons rfl (Evs.cons rfl Evs.nil)) rfl ?_)) | fail)
  obtain ⟨j, hj⟩ : ∃ j, j = n + 1 + 1 + 1 + 1 := ⟨_, rfl⟩
  rw [← hj]
  refine Ops.ent (Ent.mk (env' := [(167, .ptr b1), (166, .bool false), (44, .int k), (3, .ptr bs), (6, .ptr b1), (8, .ptr b2), (43, .int v)]) (cs' := [d1, d2, Chunk.strm 25 bs (intRows xs) j, Chunk.box b4 29 [.tubes T, .ints K, .slots L, .int G]]) goSub goTk) ?_
  exact tail.h d1 d2 j ⟨hP d1 d2 hd1 hd2, by omega⟩
 by_cases h7 : w = 7
 ·obtain ⟨E, hE, PX, PY, hP, kX, kY⟩ := bothBack hS hk9
  have kE := equalInts_same E (by omega)
  repeat' (first | refine goH ?_ | (refine Ops.k_b_eql ?_; first | (first | refine Ops.val' rfl (OpV.eql_t rfl rfl (by omega)) ?_ | refine Ops.val' rfl (OpV.eql_f rfl rfl (by omega)) ?_)) | (refine Ops.k_b_neq ?_; first | (first | refine Ops.val' rfl (OpV.neq_f rfl rfl rfl) ?_ | refine Ops.val' rfl (OpV.neqS_f rfl rfl rfl) ?_)) | ((fail_if_success refine Ops.k_c_call ?_); refine goV ?_) | ((fail_if_success refine Ops.k_c_call ?_); refine goB (fun b => ?_)) | refine goG ?_ | (refine Ops.k_guard ?_; first | (refine Ops.guard_dec rfl rfl ?_ ?_ <;> intro hc <;> try omega) | refine Ops.guard_split rfl rfl ?_ ?_ <;> intro hc) | refine goI ?_ | (refine Cw.k_cond ?_; first | (refine Cw.cond_dec rfl ?_ ?_ <;> intro hc <;> try omega) | refine Cw.cond_bool rfl ?_ ?_ <;> intro hc) | (refine Ops.k_calla ?_; first | (refine Ops.call kX (Evs.cons rfl Evs.nil) goPm rfl ?_; rintro r cs' ⟨d1, hd1, rfl, rfl⟩) | (refine Ops.call kY (Evs.cons rfl Evs.nil) goPm rfl ?_; rintro r cs' ⟨d2, hd2, rfl, rfl⟩) | (refine Ops.k_callf 17 ?_; refine Ops.callV kE (Evs.cons rfl (Evs.cons rfl Evs.nil)) rfl ?_)) | fail)
  obtain ⟨j, hj⟩ : ∃ j, j = n + 1 + 1 + 1 + 1 := ⟨_, rfl⟩
  rw [← hj]
  refine Ops.ent (Ent.mk (env' := [(167, .ptr b1), (166, .bool false), (44, .int k), (3, .ptr bs), (6, .ptr b1), (8, .ptr b2), (43, .int v)]) (cs' := [d1, d2, Chunk.strm 25 bs (intRows xs) j, Chunk.box b4 29 [.tubes T, .ints K, .slots L, .int G]]) goSub goTk) ?_
  exact tail.h d1 d2 j ⟨hP d1 d2 hd1 hd2, by omega⟩
 by_cases h8 : w = 8
 ·obtain ⟨e, PX, PY, hP, kX, kY⟩ := bothJam hS hk9 key
  obtain ⟨e2, PX2, PY2, hP2, kX2, kY2⟩ := bothFree hS hk9 key
  repeat' (first | refine goH ?_ | (refine Ops.k_b_eql ?_; first | (first | refine Ops.val' rfl (OpV.eql_t rfl rfl (by omega)) ?_ | refine Ops.val' rfl (OpV.eql_f rfl rfl (by omega)) ?_)) | (refine Ops.k_b_neq ?_; first | (first | refine Ops.val' rfl (OpV.neq_f rfl rfl rfl) ?_ | refine Ops.val' rfl (OpV.neqS_f rfl rfl rfl) ?_)) | ((fail_if_success refine Ops.k_c_call ?_); refine goV ?_) | ((fail_if_success refine Ops.k_c_call ?_); refine goB (fun b => ?_)) | refine goG ?_ | (refine Ops.k_guard ?_; first | (refine Ops.guard_dec rfl rfl ?_ ?_ <;> intro hc <;> try omega) | refine Ops.guard_split rfl rfl ?_ ?_ <;> intro hc) | refine goI ?_ | (refine Cw.k_cond ?_; first | (refine Cw.cond_dec rfl ?_ ?_ <;> intro hc <;> try omega) | refine Cw.cond_bool rfl ?_ ?_ <;> intro hc) | (refine Ops.k_calla ?_; first | (refine Ops.k_callf 20 ?_; (refine Ops.callG (flip_gen _ (by omega)) (Evs.cons rfl (Evs.cons rfl Evs.nil)) goPk (by omega) rfl ?_; rintro r ⟨v5, rfl⟩; cases v5)) | (refine Ops.call kX (Evs.cons rfl (Evs.cons rfl Evs.nil)) goPm rfl ?_; rintro r cs' ⟨d1, hd1, rfl, rfl⟩) | (refine Ops.call kY (Evs.cons rfl (Evs.cons rfl Evs.nil)) goPm rfl ?_; rintro r cs' ⟨d2, hd2, rfl, rfl⟩) | (refine Ops.call kX2 (Evs.cons rfl (Evs.cons rfl Evs.nil)) goPm rfl ?_; rintro r cs' ⟨d1, hd2_1, rfl, rfl⟩) | (refine Ops.call kY2 (Evs.cons rfl (Evs.cons rfl Evs.nil)) goPm rfl ?_; rintro r cs' ⟨d2, hd2_2, rfl, rfl⟩)) | fail)
  all_goals
   obtain ⟨j, hj⟩ : ∃ j, j = n + 1 + 1 + 1 + 1 + 1 := ⟨_, rfl⟩
   rw [← hj]
   refine Ops.ent (Ent.mk (env' := [(167, .ptr b1), (166, .bool false), (44, .int k), (3, .ptr bs), (6, .ptr b1), (8, .ptr b2), (43, .int v)]) (cs' := [d1, d2, Chunk.strm 25 bs (intRows xs) j, Chunk.box b4 29 [.tubes T, .ints K, .slots L, .int G]]) goSub goTk) ?_
   exact tail.h d1 d2 j ⟨by first | exact hP d1 d2 hd1 hd2 | exact hP2 d1 d2 hd2_1 hd2_2, by omega⟩
 by_cases h9 : w = 9
 ·obtain ⟨e, PX, PY, hP, kX, kY⟩ := bothLoad hS hk9 key m (by omega)
  repeat' (first | refine goH ?_ | (refine Ops.k_b_eql ?_; first | (first | refine Ops.val' rfl (OpV.eql_t rfl rfl (by omega)) ?_ | refine Ops.val' rfl (OpV.eql_f rfl rfl (by omega)) ?_)) | (refine Ops.k_b_neq ?_; first | (first | refine Ops.val' rfl (OpV.neq_f rfl rfl rfl) ?_ | refine Ops.val' rfl (OpV.neqS_f rfl rfl rfl) ?_)) | ((fail_if_success refine Ops.k_c_call ?_); refine goV ?_) | ((fail_if_success refine Ops.k_c_call ?_); refine goB (fun b => ?_)) | refine goG ?_ | (refine Ops.k_guard ?_; first | (refine Ops.guard_dec rfl rfl ?_ ?_ <;> intro hc <;> try omega) | refine Ops.guard_split rfl rfl ?_ ?_ <;> intro hc) | refine goI ?_ | (refine Cw.k_cond ?_; first | (refine Cw.cond_dec rfl ?_ ?_ <;> intro hc <;> try omega) | refine Cw.cond_bool rfl ?_ ?_ <;> intro hc) | (refine Ops.k_calla ?_; first | (refine Ops.call kX (Evs.cons rfl (Evs.cons rfl (Evs.cons rfl Evs.nil))) goPm rfl ?_; rintro r cs' ⟨d1, hd1, rfl, rfl⟩) | (refine Ops.call kY (Evs.cons rfl (Evs.cons rfl (Evs.cons rfl Evs.nil))) goPm rfl ?_; rintro r cs' ⟨d2, hd2, rfl, rfl⟩)) | fail)
  obtain ⟨j, hj⟩ : ∃ j, j = n + 1 + 1 + 1 + 1 := ⟨_, rfl⟩
  rw [← hj]
  refine Ops.ent (Ent.mk (env' := [(167, .ptr b1), (166, .bool false), (44, .int k), (3, .ptr bs), (6, .ptr b1), (8, .ptr b2), (43, .int v)]) (cs' := [d1, d2, Chunk.strm 25 bs (intRows xs) j, Chunk.box b4 29 [.tubes T, .ints K, .slots L, .int G]]) goSub goTk) ?_
  exact tail.h d1 d2 j ⟨hP d1 d2 hd1 hd2, by omega⟩
 by_cases h10 : w = 10
 ·obtain ⟨e, PX, PY, hP, kX, kY⟩ := bothFill hS hk9 u m (by omega) (by omega)
  repeat' (first | refine goH ?_ | (refine Ops.k_b_eql ?_; first | (first | refine Ops.val' rfl (OpV.eql_t rfl rfl (by omega)) ?_ | refine Ops.val' rfl (OpV.eql_f rfl rfl (by omega)) ?_)) | (refine Ops.k_b_neq ?_; first | (first | refine Ops.val' rfl (OpV.neq_f rfl rfl rfl) ?_ | refine Ops.val' rfl (OpV.neqS_f rfl rfl rfl) ?_)) | ((fail_if_success refine Ops.k_c_call ?_); refine goV ?_) | ((fail_if_success refine Ops.k_c_call ?_); refine goB (fun b => ?_)) | refine goG ?_ | (refine Ops.k_guard ?_; first | (refine Ops.guard_dec rfl rfl ?_ ?_ <;> intro hc <;> try omega) | refine Ops.guard_split rfl rfl ?_ ?_ <;> intro hc) | refine goI ?_ | (refine Cw.k_cond ?_; first | (refine Cw.cond_dec rfl ?_ ?_ <;> intro hc <;> try omega) | refine Cw.cond_bool rfl ?_ ?_ <;> intro hc) | (refine Ops.k_calla ?_; first | (refine Ops.call kX (Evs.cons rfl (Evs.cons rfl (Evs.cons rfl Evs.nil))) goPm rfl ?_; rintro r cs' ⟨d1, hd1, rfl, rfl⟩) | (refine Ops.call kY (Evs.cons rfl (Evs.cons rfl (Evs.cons rfl Evs.nil))) goPm rfl ?_; rintro r cs' ⟨d2, hd2, rfl, rfl⟩)) | fail)
  obtain ⟨j, hj⟩ : ∃ j, j = n + 1 + 1 + 1 + 1 := ⟨_, rfl⟩
  rw [← hj]
  refine Ops.ent (Ent.mk (env' := [(167, .ptr b1), (166, .bool false), (44, .int k), (3, .ptr bs), (6, .ptr b1), (8, .ptr b2), (43, .int v)]) (cs' := [d1, d2, Chunk.strm 25 bs (intRows xs) j, Chunk.box b4 29 [.tubes T, .ints K, .slots L, .int G]]) goSub goTk) ?_
  exact tail.h d1 d2 j ⟨hP d1 d2 hd1 hd2, by omega⟩
 ·obtain ⟨e, PX, PY, hP, kX, kY⟩ := bothPrice hS hk9 key u
  obtain ⟨e2, PX2, PY2, hP2, kX2, kY2⟩ := bothCollect hS hk9
  repeat' (first | refine goH ?_ | (refine Ops.k_b_eql ?_; first | (first | refine Ops.val' rfl (OpV.eql_t rfl rfl (by omega)) ?_ | refine Ops.val' rfl (OpV.eql_f rfl rfl (by omega)) ?_)) | (refine Ops.k_b_neq ?_; first | (first | refine Ops.val' rfl (OpV.neq_f rfl rfl rfl) ?_ | refine Ops.val' rfl (OpV.neqS_f rfl rfl rfl) ?_)) | ((fail_if_success refine Ops.k_c_call ?_); refine goV ?_) | ((fail_if_success refine Ops.k_c_call ?_); refine goB (fun b => ?_)) | refine goG ?_ | (refine Ops.k_guard ?_; first | (refine Ops.guard_dec rfl rfl ?_ ?_ <;> intro hc <;> try omega) | refine Ops.guard_split rfl rfl ?_ ?_ <;> intro hc) | refine goI ?_ | (refine Cw.k_cond ?_; first | (refine Cw.cond_dec rfl ?_ ?_ <;> intro hc <;> try omega) | refine Cw.cond_bool rfl ?_ ?_ <;> intro hc) | (refine Ops.k_calla ?_; first | (refine Ops.k_callf 20 ?_; (refine Ops.callG (flip_gen _ (by omega)) (Evs.cons rfl (Evs.cons rfl Evs.nil)) goPk (by omega) rfl ?_; rintro r ⟨v5, rfl⟩; cases v5)) | (refine Ops.call kX (Evs.cons rfl (Evs.cons rfl (Evs.cons rfl Evs.nil))) goPm rfl ?_; rintro r cs' ⟨d1, hd1, rfl, rfl⟩) | (refine Ops.call kY (Evs.cons rfl (Evs.cons rfl (Evs.cons rfl Evs.nil))) goPm rfl ?_; rintro r cs' ⟨d2, hd2, rfl, rfl⟩) | (refine Ops.call kX2 (Evs.cons rfl Evs.nil) goPm rfl ?_; rintro r cs' ⟨d1, hd2_1, rfl, rfl⟩) | (refine Ops.call kY2 (Evs.cons rfl Evs.nil) goPm rfl ?_; rintro r cs' ⟨d2, hd2_2, rfl, rfl⟩)) | fail)
  all_goals
   obtain ⟨j, hj⟩ : ∃ j, j = n + 1 + 1 + 1 + 1 + 1 := ⟨_, rfl⟩
   rw [← hj]
   refine Ops.ent (Ent.mk (env' := [(167, .ptr b1), (166, .bool false), (44, .int k), (3, .ptr bs), (6, .ptr b1), (8, .ptr b2), (43, .int v)]) (cs' := [d1, d2, Chunk.strm 25 bs (intRows xs) j, Chunk.box b4 29 [.tubes T, .ints K, .slots L, .int G]]) goSub goTk) ?_
   exact tail.h d1 d2 j ⟨by first | exact hP d1 d2 hd1 hd2 | exact hP2 d1 d2 hd2_1 hd2_2, by omega⟩
 clear hS hkv hk9 hw hub hmb
 intro d1 d2 j ⟨hS, hj⟩
 obtain ⟨Y, T, i, o, f, c, x, r, hY, hT, PX, PY, hP, kX, kY⟩ := bothAudit hS (by omega)
 have kS := sameAudit_fn Y T i o f c x r hY hT
 clear hS
 repeat' (first | refine goH ?_ | refine goV ?_ | refine goB (fun b => ?_) | refine goG ?_ | (refine Ops.k_guard ?_; first | (refine Ops.guard_dec rfl rfl ?_ ?_ <;> intro hc <;> try omega) | refine Ops.guard_split rfl rfl ?_ ?_ <;> intro hc) | refine goI ?_ | (refine Cw.k_cond ?_; first | (refine Cw.cond_dec rfl ?_ ?_ <;> intro hc <;> try omega) | refine Cw.cond_bool rfl ?_ ?_ <;> intro hc) | (refine Ops.k_calla ?_; first | (refine Ops.call kX (Evs.cons rfl Evs.nil) goPm rfl ?_; rintro r cs' ⟨f1, hf1, rfl, rfl⟩) | (refine Ops.call kY (Evs.cons rfl Evs.nil) goPm rfl ?_; rintro r cs' ⟨f2, hf2, rfl, rfl⟩) | (refine Ops.k_callf 33 ?_; refine Ops.callV kS (Evs.cons rfl (Evs.cons rfl Evs.nil)) rfl ?_)) | fail)
 have hS := hP f1 f2 hf1 hf2
 exact ⟨_, _, _, (Ent.mk goSub goTk), ⟨k + 1, j, f1, f2, rfl, ⟨by omega, by omega, hS⟩, rfl, rfl⟩, by omega⟩
end Lg
end
