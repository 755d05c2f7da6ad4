/- A part of the proof of a law of this seat: it adds no condition. By an AI agent. -/
import Derived.Test.YtaoclkglimibeaaGreatDoorLe13
import Derived.Test.YtaoclkglimibeaaGreatDoorLz9
import Derived.Test.YtaoclkglimibeaaGreatDoorLz8c
section
set_option linter.all false
set_option maxRecDepth 100000
set_option maxHeartbeats 2000000
namespace Lg
open Go Go.Proofs

theorem tills_fn : PFn Tryz.prog 7 [] (· = .bool true) := by
  have hd : PFn Tryz.prog 87 [.int 7, .int 2] (· = .int 3) := by
    refine PFn.mk (Spec.body Tryz.func87 rfl rfl (Tryz.ntmps87) rfl fun w0 own0 M => ?_)
    repeat' (first | refine Ops.nil ?_ | refine Then.norm ?_ | refine Cw.seq ?_ | refine Cw.region ?_ | refine Cw.block ?_ | refine Cw.exit ?_ | refine Cw.skip ?_ | refine Cw.ret ?_ | refine Then.exit ?_ | refine Then.ret ?_ | refine InB.exit ?_ | refine InB.norm ?_ | refine InB.ret ?_ | refine InB.exit_ne rfl ?_ | (refine Ops.k_move ?_; first | refine Ops.move rfl rfl ?_ | refine Ops.move_any rfl ?_) | (refine Ops.k_assign ?_; first | refine Ops.assign rfl rfl ?_ | refine Ops.assign_any rfl ?_) | (refine Ops.k_b_lss ?_; first | refine Ops.lss rfl rfl rfl ?_) | (refine Ops.k_b_sub ?_; first | refine Ops.sub rfl rfl (by first | omega | (simp; done) | (simp; omega)) rfl ?_) | (refine Ops.k_b_quo ?_; first | refine Ops.quo rfl rfl (by omega) rfl ?_ | refine Ops.quoT rfl rfl (by omega) rfl ?_) | (refine Ops.k_b_rem ?_; first | refine Ops.rem rfl rfl (by omega) rfl ?_ | refine Ops.remT rfl rfl (by omega) rfl ?_) | (refine Cw.k_cond ?_; first | refine Cw.cond_true rfl ?_ | refine Cw.cond_false rfl ?_ | (refine Cw.cond_dec rfl (fun hc => ?_) (fun hc => ?_) <;> try (exfalso; omega)) | refine Cw.cond_bool rfl (fun hc => ?_) (fun hc => ?_)))
    exact Fin.ret (Ent.take goTk) (Outs.one rfl rfl) ⟨rfl, rfl⟩
  have he : PFn Tryz.prog 58 [.int 7, .int 2] (· = .int 4) := by
    refine PFn.mk (Spec.body Tryz.func58 rfl rfl (Tryz.ntmps58) rfl fun w0 own0 M => ?_)
    repeat' (first | refine Ops.nil ?_ | refine Then.norm ?_ | refine Cw.seq ?_ | refine Cw.region ?_ | refine Cw.block ?_ | refine Cw.exit ?_ | refine Cw.skip ?_ | refine Cw.ret ?_ | refine Then.exit ?_ | refine Then.ret ?_ | refine InB.exit ?_ | refine InB.norm ?_ | refine InB.ret ?_ | refine InB.exit_ne rfl ?_ | (refine Ops.k_move ?_; first | refine Ops.move rfl rfl ?_ | refine Ops.move_any rfl ?_) | (refine Ops.k_assign ?_; first | refine Ops.assign rfl rfl ?_ | refine Ops.assign_any rfl ?_) | (refine Ops.k_b_eql ?_; first | refine Ops.eql rfl rfl rfl ?_) | (refine Ops.k_b_neq ?_; first | refine Ops.neq rfl rfl rfl ?_) | (refine Ops.k_b_gtr ?_; first | refine Ops.gtr rfl rfl rfl ?_) | (refine Ops.k_b_add ?_; first | refine Ops.add rfl rfl (by first | omega | (simp; done) | (simp; omega)) rfl ?_) | (refine Ops.k_b_sub ?_; first | refine Ops.sub rfl rfl (by first | omega | (simp; done) | (simp; omega)) rfl ?_) | (refine Ops.k_b_mul ?_; first | refine Ops.mul rfl rfl (by first | omega | assumption) rfl ?_) | (refine Ops.k_b_rem ?_; first | refine Ops.rem rfl rfl (by omega) rfl ?_ | refine Ops.remT rfl rfl (by omega) rfl ?_) | (refine Ops.k_pick ?_; first | refine Ops.pick_true rfl rfl rfl ?_ | refine Ops.pick_false rfl rfl rfl ?_) | (refine Ops.k_guard ?_; first | refine Ops.guard_yes rfl rfl ?_ | refine Ops.guard_no rfl rfl rfl rfl ?_ | refine Ops.guard_no' rfl rfl rfl ?_ | refine Ops.guard_undef rfl rfl rfl ?_ | refine Ops.guard_undef' rfl rfl ?_ | (refine Ops.guard_dec rfl rfl (fun hc => ?_) (fun hc => ?_) <;> try (exfalso; omega)) | refine Ops.guard_split rfl rfl (fun hc => ?_) (fun hc => ?_)) | (refine Cw.k_cond ?_; first | refine Cw.cond_true rfl ?_ | refine Cw.cond_false rfl ?_ | (refine Cw.cond_dec rfl (fun hc => ?_) (fun hc => ?_) <;> try (exfalso; omega)) | refine Cw.cond_bool rfl (fun hc => ?_) (fun hc => ?_)) | (refine Ops.k_calla ?_; first | (refine Ops.k_callf 87 ?_; refine Ops.callV hd (Evs.cons rfl (Evs.cons rfl Evs.nil)) rfl ?_)))
    exact Fin.ret (Ent.take goTk) (Outs.one rfl rfl) ⟨rfl, rfl⟩
  have hE : PFn Tryz.prog 30 [.int 7, .int 2] (· = .tup [.int 4, .int 0]) := by
    have h1 := out_fn 7 (-1000000000000000) 1000000000000000
    have h2 := out_fn 2 1 1000000000
    rw [show outB 7 (-1000000000000000) 1000000000000000 = false by decide] at h1
    rw [show outB 2 1 1000000000 = false by decide] at h2
    refine PFn.mk (Spec.body Tryz.func30 rfl rfl (Tryz.ntmps30) rfl fun w0 own0 M => ?_)
    repeat' (first | refine Ops.nil ?_ | refine Then.norm ?_ | refine Cw.seq ?_ | refine Cw.region ?_ | refine Cw.block ?_ | refine Cw.exit ?_ | refine Cw.skip ?_ | refine Cw.ret ?_ | refine Then.exit ?_ | refine Then.ret ?_ | refine InB.exit ?_ | refine InB.norm ?_ | refine InB.ret ?_ | refine InB.exit_ne rfl ?_ | (refine Ops.k_move ?_; first | refine Ops.move rfl rfl ?_ | refine Ops.move_any rfl ?_) | (refine Ops.k_assign ?_; first | refine Ops.assign rfl rfl ?_ | refine Ops.assign_any rfl ?_) | (refine Ops.k_pick ?_; first | refine Ops.pick_true rfl rfl rfl ?_ | refine Ops.pick_false rfl rfl rfl ?_) | (refine Ops.k_guard ?_; first | refine Ops.guard_yes rfl rfl ?_ | refine Ops.guard_no rfl rfl rfl rfl ?_ | refine Ops.guard_no' rfl rfl rfl ?_ | refine Ops.guard_undef rfl rfl rfl ?_ | refine Ops.guard_undef' rfl rfl ?_ | (refine Ops.guard_dec rfl rfl (fun hc => ?_) (fun hc => ?_) <;> try (exfalso; omega)) | refine Ops.guard_split rfl rfl (fun hc => ?_) (fun hc => ?_)) | (refine Cw.k_cond ?_; first | refine Cw.cond_true rfl ?_ | refine Cw.cond_false rfl ?_ | (refine Cw.cond_dec rfl (fun hc => ?_) (fun hc => ?_) <;> try (exfalso; omega)) | refine Cw.cond_bool rfl (fun hc => ?_) (fun hc => ?_)) | (refine Ops.k_calla ?_; first | (refine Ops.k_callf 58 ?_; refine Ops.callV he (Evs.cons rfl (Evs.cons rfl Evs.nil)) rfl ?_) | (refine Ops.k_callf 49 ?_; refine Ops.callV h1 (Evs.cons rfl (Evs.cons rfl (Evs.cons rfl Evs.nil))) rfl ?_) | (refine Ops.k_callf 49 ?_; refine Ops.callV h2 (Evs.cons rfl (Evs.cons rfl (Evs.cons rfl Evs.nil))) rfl ?_)))
    exact Fin.ret (Ent.take goTk) (Outs.two rfl rfl rfl) ⟨rfl, rfl⟩
  refine PFn.mk (Spec.body Tryz.func7 rfl rfl (Tryz.ntmps7) rfl fun w0 own0 M => ?_)
  repeat' (first | refine Ops.nil ?_ | refine Then.norm ?_ | refine Cw.seq ?_ | refine Cw.region ?_ | refine Cw.block ?_ | refine Cw.exit ?_ | refine Cw.skip ?_ | refine Cw.ret ?_ | refine Then.exit ?_ | refine Then.ret ?_ | refine InB.exit ?_ | refine InB.norm ?_ | refine InB.ret ?_ | refine InB.exit_ne rfl ?_ | (refine Ops.k_move ?_; first | refine Ops.move rfl rfl ?_ | refine Ops.move_any rfl ?_) | (refine Ops.k_assign ?_; first | refine Ops.assign rfl rfl ?_ | refine Ops.assign_any rfl ?_) | (refine Ops.k_b_eql ?_; first | refine Ops.eql rfl rfl rfl ?_) | (refine Ops.k_extract ?_; first | refine Ops.extract rfl rfl rfl ?_) | (refine Ops.k_pick ?_; first | refine Ops.pick_true rfl rfl rfl ?_ | refine Ops.pick_false rfl rfl rfl ?_) | (refine Ops.k_guard ?_; first | refine Ops.guard_yes rfl rfl ?_ | refine Ops.guard_no rfl rfl rfl rfl ?_ | refine Ops.guard_no' rfl rfl rfl ?_ | refine Ops.guard_undef rfl rfl rfl ?_ | refine Ops.guard_undef' rfl rfl ?_ | (refine Ops.guard_dec rfl rfl (fun hc => ?_) (fun hc => ?_) <;> try (exfalso; omega)) | refine Ops.guard_split rfl rfl (fun hc => ?_) (fun hc => ?_)) | (refine Cw.k_cond ?_; first | refine Cw.cond_true rfl ?_ | refine Cw.cond_false rfl ?_ | (refine Cw.cond_dec rfl (fun hc => ?_) (fun hc => ?_) <;> try (exfalso; omega)) | refine Cw.cond_bool rfl (fun hc => ?_) (fun hc => ?_)) | (refine Ops.k_calla ?_; first | (refine Ops.k_callf 30 ?_; refine Ops.callV hE (Evs.cons rfl (Evs.cons rfl Evs.nil)) rfl ?_)))
  exact Fin.ret (Ent.take goTk) (Outs.one rfl rfl) ⟨rfl, rfl⟩
end Lg
end
section
set_option linter.all false
namespace Lg
open Go Go.Proofs

theorem Ops.shut0 {P : Program} {Γ : Ctx} {env : Env} {cs : List Chunk} {Q : Post} {R : Array Oper} {l : List Oper} {ty b : Nat} {cells : List Tr} {rows : List (List Tr)} (h : cells = [Tr.sl 1 rows, Tr.int ((0 : Nat) : Int)]) (k : Ops P Γ R l env (Chunk.strm ty b rows 0 :: cs) Q) : Ops P Γ R l env (Chunk.box b ty cells :: cs) Q := by
  subst h
  exact Ops.ent (Ent.shut_strm (m := 0) (Nat.le_refl 0)) k
end Lg
end
section
set_option linter.all false
set_option maxRecDepth 100000
set_option maxHeartbeats 8000000
namespace Lg
open Go Go.Proofs

/-! ### the law LedgersWritten -/
theorem nm_eq0 (n : Nat) (a : ByteArray) (b : Int) (w : World) : (Op.equalIn (n + 1 + 1) 40 (.agg #[.string a, .int .i64 b]) (.agg #[.string a, .int .i64 b])).run Tryz.prog w = .ok true w := by
  have hs : Tryz.prog.stoodInHeld 40 = false := by kernel_rfl
  simp [Op.equalIn, run_underlying Tryz.underlying40, run_underlying Tryz.underlying9, run_underlying Tryz.underlying3, ba_self, hs, part, Go.sizeOf, typeInfo]
theorem nm_ne1 (a : ByteArray) (b : Int) (w : World) : (binOp .neq 40 (.agg #[.string a, .int .i64 b]) (.agg #[.string a, .int .i64 b])).run Tryz.prog w = .ok (.bool false) w := by
  show (do let r ← Op.equalIn (9998 + 1 + 1) 40 _ _; pure (Value.bool !r) : Sem Value).run Tryz.prog w = _
  have := nm_eq0 9998 a b w
  generalize Op.equalIn (9998 + 1 + 1) 40 (.agg #[.string a, .int .i64 b]) (.agg #[.string a, .int .i64 b]) = s at *
  simp [this]
section
variable {Γ : Ctx} {env : Env} {cs : List Chunk} {x y : Operand} {T2 ty : TypeId}
theorem OpV.nm_ne_f {a : ByteArray} {b : Int} (hx : ev env x = some (.agg ([.string a, .int .i64 b].map Tr.raw))) (hy : ev env y = some (.agg ([.string a, .int .i64 b].map Tr.raw))) : OpV Tryz.prog Γ (.binOp .neq 40 x y T2) ty env cs (.bool false) := by
  unfold OpV
  intro ac w d
  have h1 := agg_raw (l := [.string a, .int .i64 b]) (d.ev hx)
  have h2 := agg_raw (l := [.string a, .int .i64 b]) (d.ev hy)
  have h3 := nm_ne1 a b w
  have h4 : (eqGuard .neq 40 x y (.agg #[.string a, .int .i64 b]) (.agg #[.string a, .int .i64 b])).run Tryz.prog w = .ok () w := by simp [eqGuard]
  exact ⟨.bool false, by simp [execOp, h1, h2, h3, h4], by unfold Tr.bool Tr.raw; rfl⟩
end
theorem equal_nm (xs : List Nm) (h : xs.length ≤ 1000000000) : PFn Tryz.prog 10 [.sl 2 (xs.map Nm.row), .sl 2 (xs.map Nm.row)] (· = .bool true) := by
  refine PFn.mk (Spec.body Tryz.func10 rfl rfl (Tryz.ntmps10) rfl fun w0 own0 M => ?_)
  have hL : (xs.map Nm.row).length = xs.length := List.length_map _
  repeat' (first | refine goH ?_ | refine goV ?_ | refine goI ?_ | (refine Cw.k_cond ?_; first | (refine Cw.cond_dec rfl (fun hc => ?_) (fun hc => ?_) <;> try (exfalso; omega)) | refine Cw.cond_bool rfl (fun hc => ?_) (fun hc => ?_)) | refine goR ?_ | refine goP ?_ | apply PSeq.cons | apply PSeq.yes rfl rfl rfl | exact goW | fail)
  refine Cw.loop (ι := Nat) (fun k => k ≤ xs.length) (fun k => [(0, .sl 2 (xs.map Nm.row)), (1, .sl 2 (xs.map Nm.row)), (11, .sl 2 (xs.map Nm.row)), (12, .int (xs.map Nm.row).length), (13, .int k)]) (fun _ => []) (fun k => xs.length - k) ⟨0, by omega, (Ent.mk goSub goTk)⟩ ?_
  intro k hk
  by_cases hkl : k < xs.length
  · obtain ⟨d, hd⟩ : ∃ x, xs[k]? = some x := ⟨_, List.getElem?_eq_getElem hkl⟩
    have hrow : (xs.map Nm.row)[k]? = some [.str d.key, .int d.many] := rows_at hd
    repeat' (first | refine goH ?_ | refine goV ?_ | refine goI ?_ | (refine Cw.k_cond ?_; first | (refine Cw.cond_dec rfl (fun hc => ?_) (fun hc => ?_) <;> try (exfalso; omega)) | refine Cw.cond_bool rfl (fun hc => ?_) (fun hc => ?_)) | (apply OpV.w; apply OpV.nm_ne_f; exact rfl; exact rfl) | refine goR ?_ | refine goP ?_ | apply PSeq.cons | apply PSeq.yes rfl rfl rfl | exact goW | fail)
    exact ⟨k + 1, by omega, by omega, (Ent.mk goSub goTk)⟩
  · repeat' (first | refine goH ?_ | refine goV ?_ | refine goI ?_ | (refine Cw.k_cond ?_; first | (refine Cw.cond_dec rfl (fun hc => ?_) (fun hc => ?_) <;> try (exfalso; omega)) | refine Cw.cond_bool rfl (fun hc => ?_) (fun hc => ?_)) | refine goR ?_ | refine goP ?_ | apply PSeq.cons | apply PSeq.yes rfl rfl rfl | exact goW | fail)
    exact Fin.ret Ent.refl (Outs.one rfl rfl) ⟨rfl, rfl⟩

attribute [local irreducible] entS plS dayB flgO itoaK cnlO pstO TrZ prtR readS
theorem ledgersWritten_law (xs : List Int) : Spec Tryz.prog 3 [Tr.ints xs] [bkC] (fun r _ => r = Tr.bool true) := by
  refine Spec.body Tryz.func3 rfl rfl (Tryz.ntmps3) rfl fun w0 own0 M => ?_
  have k0 := tills_fn
  repeat' (first | refine goH ?_ | ((fail_if_success refine Ops.k_c_call ?_); refine goV ?_) | ((fail_if_success refine Ops.k_c_call ?_); refine goB (fun b => ?_)) | refine goG ?_ | (refine Ops.k_guard ?_; first | (refine Ops.guard_dec rfl rfl (fun hc => ?_) (fun hc => ?_) <;> try (exfalso; omega)) | refine Ops.guard_split rfl rfl (fun hc => ?_) (fun hc => ?_)) | refine goI ?_ | (refine Cw.k_cond ?_; first | (refine Cw.cond_dec rfl (fun hc => ?_) (fun hc => ?_) <;> try (exfalso; omega)) | refine Cw.cond_bool rfl (fun hc => ?_) (fun hc => ?_)) | refine Ops.shut0 (ty := 25) rfl ?_ | fail)
  have kB := booksText_fn b xs 0 (by omega)
  repeat' (first | refine goH ?_ | ((fail_if_success refine Ops.k_c_call ?_); refine goV ?_) | ((fail_if_success refine Ops.k_c_call ?_); refine goB (fun b => ?_)) | refine goG ?_ | (refine Ops.k_guard ?_; first | (refine Ops.guard_dec rfl rfl (fun hc => ?_) (fun hc => ?_) <;> try (exfalso; omega)) | refine Ops.guard_split rfl rfl (fun hc => ?_) (fun hc => ?_)) | refine goI ?_ | (refine Cw.k_cond ?_; first | (refine Cw.cond_dec rfl (fun hc => ?_) (fun hc => ?_) <;> try (exfalso; omega)) | refine Cw.cond_bool rfl (fun hc => ?_) (fun hc => ?_)) | (refine Ops.k_calla ?_; first | (refine Ops.k_callf 4 ?_; (refine Ops.call kB (Evs.cons rfl Evs.nil) goPm rfl ?_; rintro r cs' ⟨t, c, ⟨hc, ht⟩, rfl, rfl⟩))) | fail)
  have kX := readX_fn t (by omega)
  have kY := readY_fn t (by omega)
  generalize readS t = R at *
  obtain ⟨L, m, e⟩ := R
  unfold readP at kX
  unfold readQ at kY
  simp only at kX kY
  by_cases hz : e = 0
  · subst hz
    repeat' (first | refine goH ?_ | (refine Ops.k_b_eql ?_; first | refine Ops.val' rfl (OpV.eql_pn rfl Tryz.underlying27 ⟨_, rfl, by decide⟩ rfl rfl) ?_) | ((fail_if_success refine Ops.k_c_call ?_); refine goV ?_) | ((fail_if_success refine Ops.k_c_call ?_); refine goB (fun b => ?_)) | refine goG ?_ | (refine Ops.k_guard ?_; first | (refine Ops.guard_dec rfl rfl (fun hc => ?_) (fun hc => ?_) <;> try (exfalso; omega)) | refine Ops.guard_split rfl rfl (fun hc => ?_) (fun hc => ?_)) | refine goI ?_ | (refine Cw.k_cond ?_; first | (refine Cw.cond_dec rfl (fun hc => ?_) (fun hc => ?_) <;> try (exfalso; omega)) | refine Cw.cond_bool rfl (fun hc => ?_) (fun hc => ?_)) | (refine Ops.k_calla ?_; first | (refine Ops.k_callf 5 ?_; (refine Ops.call kX (Evs.cons rfl Evs.nil) goPm rfl ?_; rintro r cs' (⟨bx, bm, n, cap, ad, mm, _, rfl, hs, hm, hn, rfl⟩ | ⟨hz, _, _⟩); rotate_left; exact absurd rfl hz)) | (refine Ops.k_callf 6 ?_; (refine Ops.call kY (Evs.cons rfl Evs.nil) goPm rfl ?_; rintro r cs' (⟨by_, ny, capy, cap2, ady, ad2, _, rfl, _, hny, rfl⟩ | ⟨hz, _, _⟩); rotate_left; exact absurd rfl hz))) | fail)
    have kp1 := printX_fn bx n cap bm ad none 0 L hs hn
    have kp2 := printY_fn by_ ny capy 0 ady ad2 cap2 L hs hny
    obtain ⟨t2, e2, ht2, _⟩ := prtR_any L
    rw [ht2] at kp1 kp2
    obtain ⟨Z, hZ, hZl, kT2⟩ := trialY_fn L hs
    have kT1 := trialX_fn bx n cap bm ad L mm Z hs hm hZ
    have kT2 := kT2 by_ ny capy ady ad2 ny cap2 hny
    have q2 := equal_nm Z (by omega)
    clear hZ hZl ht2 hs hm hc ht kX kY kB
    repeat' (first | refine goH ?_ | (refine Ops.k_b_eql ?_; first | (first | refine Ops.val' rfl (OpV.eqlS_t rfl rfl rfl) ?_ | refine Ops.val' rfl (OpV.eql_t rfl rfl rfl) ?_)) | refine goV ?_ | refine goB (fun b => ?_) | refine goG ?_ | (refine Ops.k_guard ?_; first | (refine Ops.guard_dec rfl rfl (fun hc => ?_) (fun hc => ?_) <;> try (exfalso; omega)) | refine Ops.guard_split rfl rfl (fun hc => ?_) (fun hc => ?_)) | refine goI ?_ | (refine Cw.k_cond ?_; first | (refine Cw.cond_dec rfl (fun hc => ?_) (fun hc => ?_) <;> try (exfalso; omega)) | refine Cw.cond_bool rfl (fun hc => ?_) (fun hc => ?_)) | (refine Ops.k_calla ?_; first | (refine Ops.k_callf 8 ?_; refine Ops.callS kp1 (Evs.cons rfl Evs.nil) goPm rfl ?_) | (refine Ops.k_callf 9 ?_; refine Ops.callS kp2 (Evs.cons rfl Evs.nil) goPm rfl ?_) | (refine Ops.k_callf 11 ?_; refine Ops.callS kT1 (Evs.cons rfl Evs.nil) goPm rfl ?_) | refine Ops.callS kT2 (Evs.cons rfl Evs.nil) goPm rfl ?_ | (refine Ops.k_callf 10 ?_; refine Ops.callV q2 (Evs.cons rfl (Evs.cons rfl Evs.nil)) rfl ?_) | (refine Ops.k_callf 7 ?_; refine Ops.callV k0 Evs.nil rfl ?_)) | fail)
    all_goals exact Fin.ret Ent.refl (Outs.one rfl rfl) rfl
  · repeat' (first | refine goH ?_ | (refine Ops.k_b_neq ?_; first | (first | refine Ops.val' rfl (OpV.neq_f rfl rfl rfl) ?_ | refine Ops.val' rfl (OpV.neq_t rfl rfl (by omega)) ?_)) | refine goV ?_ | refine goB (fun b => ?_) | refine goG ?_ | (refine Ops.k_guard ?_; first | (refine Ops.guard_dec rfl rfl (fun hc => ?_) (fun hc => ?_) <;> try (exfalso; omega)) | refine Ops.guard_split rfl rfl (fun hc => ?_) (fun hc => ?_)) | refine goI ?_ | (refine Cw.k_cond ?_; first | (refine Cw.cond_dec rfl (fun hc => ?_) (fun hc => ?_) <;> try (exfalso; omega)) | refine Cw.cond_bool rfl (fun hc => ?_) (fun hc => ?_)) | (refine Ops.k_calla ?_; first | (refine Ops.k_callf 5 ?_; (refine Ops.call kX (Evs.cons rfl Evs.nil) goPm rfl ?_; rintro r cs' (⟨_, _, _, _, _, _, h, _⟩ | ⟨_, rfl, rfl⟩); exact absurd h hz)) | (refine Ops.k_callf 6 ?_; (refine Ops.call kY (Evs.cons rfl Evs.nil) goPm rfl ?_; rintro r cs' (⟨_, _, _, _, _, _, h, _⟩ | ⟨_, rfl, rfl⟩); exact absurd h hz)) | (refine Ops.k_callf 7 ?_; refine Ops.callV k0 Evs.nil rfl ?_)) | fail)
    all_goals exact Fin.ret Ent.refl (Outs.one rfl rfl) rfl
end Lg
end
