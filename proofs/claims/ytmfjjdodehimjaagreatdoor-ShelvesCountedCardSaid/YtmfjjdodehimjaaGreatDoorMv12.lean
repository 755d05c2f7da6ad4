/- A part of the proof of a law of this seat: it adds no condition. By an AI agent. -/
import Derived.Test.YtmfjjdodehimjaaGreatDoorLaw
set_option linter.all false
set_option maxRecDepth 100000
set_option maxHeartbeats 8000000
namespace Lg
open Go Go.Proofs

/-! ### ShelvesCounted: equal lists are the same -/
theorem nm_eq0 (n : Nat) (a : ByteArray) (b : Int) (w : World) : (Op.equalIn (n + 1 + 1) 44 (.agg #[.string a, .int .i64 b]) (.agg #[.string a, .int .i64 b])).run Tryz.prog w = .ok true w := by
  have hs : Tryz.prog.stoodInHeld 44 = false := by kernel_rfl
  simp [Op.equalIn, run_underlying Tryz.underlying44, run_underlying Tryz.underlying9, run_underlying Tryz.underlying3, ba_self, hs, part, Go.sizeOf, typeInfo]
theorem nm_eq1 (a : ByteArray) (b : Int) (w : World) : (binOp .eql 44 (.agg #[.string a, .int .i64 b]) (.agg #[.string a, .int .i64 b])).run Tryz.prog w = .ok (.bool true) w := by
  show (do let r ← Op.equalIn (9998 + 1 + 1) 44 _ _; pure (Value.bool r) : Sem Value).run Tryz.prog w = _
  have := nm_eq0 9998 a b w
  generalize Op.equalIn (9998 + 1 + 1) 44 (.agg #[.string a, .int .i64 b]) (.agg #[.string a, .int .i64 b]) = s at *
  simp [this]
theorem nm_ne1 (a : ByteArray) (b : Int) (w : World) : (binOp .neq 44 (.agg #[.string a, .int .i64 b]) (.agg #[.string a, .int .i64 b])).run Tryz.prog w = .ok (.bool false) w := by
  show (do let r ← Op.equalIn (9998 + 1 + 1) 44 _ _; pure (Value.bool !r) : Sem Value).run Tryz.prog w = _
  have := nm_eq0 9998 a b w
  generalize Op.equalIn (9998 + 1 + 1) 44 (.agg #[.string a, .int .i64 b]) (.agg #[.string a, .int .i64 b]) = s at *
  simp [this]
section
variable {Γ : Ctx} {env : Env} {cs : List Chunk} {x y : Operand} {T2 ty : TypeId}
theorem OpV.nm_t {a : ByteArray} {b : Int} (hx : ev env x = some (.agg ([.string a, .int .i64 b].map Tr.raw))) (hy : ev env y = some (.agg ([.string a, .int .i64 b].map Tr.raw))) : OpV Tryz.prog Γ (.binOp .eql 44 x y T2) ty env cs (.bool true) := by
  unfold OpV
  intro ac w d
  have h1 := agg_raw (l := [.string a, .int .i64 b]) (d.ev hx)
  have h2 := agg_raw (l := [.string a, .int .i64 b]) (d.ev hy)
  have h3 := nm_eq1 a b w
  have h4 : (eqGuard .eql 44 x y (.agg #[.string a, .int .i64 b]) (.agg #[.string a, .int .i64 b])).run Tryz.prog w = .ok () w := by simp [eqGuard]
  exact ⟨.bool true, by simp [execOp, h1, h2, h3, h4], by unfold Tr.bool Tr.raw; rfl⟩
theorem OpV.nm_ne_f {a : ByteArray} {b : Int} (hx : ev env x = some (.agg ([.string a, .int .i64 b].map Tr.raw))) (hy : ev env y = some (.agg ([.string a, .int .i64 b].map Tr.raw))) : OpV Tryz.prog Γ (.binOp .neq 44 x y T2) ty env cs (.bool false) := by
  unfold OpV
  intro ac w d
  have h1 := agg_raw (l := [.string a, .int .i64 b]) (d.ev hx)
  have h2 := agg_raw (l := [.string a, .int .i64 b]) (d.ev hy)
  have h3 := nm_ne1 a b w
  have h4 : (eqGuard .neq 44 x y (.agg #[.string a, .int .i64 b]) (.agg #[.string a, .int .i64 b])).run Tryz.prog w = .ok () w := by simp [eqGuard]
  exact ⟨.bool false, by simp [execOp, h1, h2, h3, h4], by unfold Tr.bool Tr.raw; rfl⟩
end
theorem equal_nm (xs : List Nm) (h : xs.length ≤ 1000000000) : PFn Tryz.prog 17 [.sl 2 (xs.map Nm.row), .sl 2 (xs.map Nm.row)] (· = .bool true) := by
  refine PFn.mk (Spec.body Tryz.func17 rfl rfl (Tryz.ntmps17) rfl fun w0 own0 M => ?_)
  have hL : (xs.map Nm.row).length = xs.length := List.length_map _
  repeat' (first | refine goH ?_ | refine goV ?_ | refine goI ?_ | (refine Cw.k_cond ?_; first | (refine Cw.cond_dec rfl (fun hc => ?_) (fun hc => ?_) <;> try (exfalso; omega)) | refine Cw.cond_bool rfl (fun hc => ?_) (fun hc => ?_)) | refine goR ?_ | refine goP ?_ | apply PSeq.cons | apply PSeq.yes rfl rfl rfl | exact goW | fail)
  refine Cw.loop (ι := Nat) (fun k => k ≤ xs.length) (fun k => [(0, .sl 2 (xs.map Nm.row)), (1, .sl 2 (xs.map Nm.row)), (11, .sl 2 (xs.map Nm.row)), (12, .int (xs.map Nm.row).length), (13, .int k)]) (fun _ => []) (fun k => xs.length - k) ⟨0, by omega, (Ent.mk goSub goTk)⟩ ?_
  intro k hk
  by_cases hkl : k < xs.length
  · obtain ⟨d, hd⟩ : ∃ x, xs[k]? = some x := ⟨_, List.getElem?_eq_getElem hkl⟩
    have hrow : (xs.map Nm.row)[k]? = some [.str d.key, .int d.many] := rows_at hd
    repeat' (first | refine goH ?_ | refine goV ?_ | refine goI ?_ | (refine Cw.k_cond ?_; first | (refine Cw.cond_dec rfl (fun hc => ?_) (fun hc => ?_) <;> try (exfalso; omega)) | refine Cw.cond_bool rfl (fun hc => ?_) (fun hc => ?_)) | (apply OpV.w; apply OpV.nm_ne_f; exact rfl; exact rfl) | refine goR ?_ | refine goP ?_ | apply PSeq.cons | apply PSeq.yes rfl rfl rfl | exact goW | fail)
    exact ⟨k + 1, by omega, by omega, (Ent.mk goSub goTk)⟩
  · repeat' (first | refine goH ?_ | refine goV ?_ | refine goI ?_ | (refine Cw.k_cond ?_; first | (refine Cw.cond_dec rfl (fun hc => ?_) (fun hc => ?_) <;> try (exfalso; omega)) | refine Cw.cond_bool rfl (fun hc => ?_) (fun hc => ?_)) | refine goR ?_ | refine goP ?_ | apply PSeq.cons | apply PSeq.yes rfl rfl rfl | exact goW | fail)
    exact Fin.ret Ent.refl (Outs.one rfl rfl) ⟨rfl, rfl⟩

theorem equal_mv (xs : List Mv) (h : xs.length ≤ 1000000000) : PFn Tryz.prog 19 [.mvs xs, .mvs xs] (· = .bool true) := by
  refine PFn.mk (Spec.body Tryz.func19 rfl rfl (Tryz.ntmps19) rfl fun w0 own0 M => ?_)
  have hL : (xs.map Mv.row).length = xs.length := List.length_map _
  repeat' (first | refine goH ?_ | refine goV ?_ | refine goI ?_ | (refine Cw.k_cond ?_; first | (refine Cw.cond_dec rfl (fun hc => ?_) (fun hc => ?_) <;> try (exfalso; omega)) | refine Cw.cond_bool rfl (fun hc => ?_) (fun hc => ?_)) | refine goR ?_ | refine goP ?_ | apply PSeq.cons | apply PSeq.yes rfl rfl rfl | exact goW | fail)
  refine Cw.loopI [(0, _), (1, _), (12, _)] _ (fun q e cc => ∃ k : Nat, q = xs.length - k ∧ k ≤ xs.length ∧ e = [(13, .int k)] ∧ cc = []) ⟨_, _, _, (Ent.mkP goSub goPm), 0, rfl, by omega, rfl, rfl⟩ ?_
  rintro _ _ _ ⟨k, rfl, hk, rfl, rfl⟩
  by_cases hkl : k < xs.length
  · obtain ⟨d, hd⟩ := at_lt hkl
    have r1 : (xs.map Mv.row)[k]? = some d.row := rows_at hd
    have he : decide (d = d) = true := decide_eq_true rfl
    repeat' (first | refine goH ?_ | (refine Ops.k_b_neq ?_; first | (refine Ops.val' rfl (OpV.mv_nev he rfl rfl) ?_)) | refine goV ?_ | refine goI ?_ | (refine Cw.k_cond ?_; first | (refine Cw.cond_dec rfl (fun hc => ?_) (fun hc => ?_) <;> try (exfalso; omega)) | refine Cw.cond_bool rfl (fun hc => ?_) (fun hc => ?_)) | (apply OpV.w; apply OpV.k_b_neq; exact OpV.mv_nev he rfl rfl) | refine goR ?_ | refine goP ?_ | apply PSeq.cons | apply PSeq.yes rfl rfl rfl | exact goW | fail)
    exact ⟨_, _, _, (Ent.mk goSub goTk), ⟨k + 1, rfl, by omega, rfl, rfl⟩, by omega⟩
  · repeat' (first | refine goH ?_ | refine goV ?_ | refine goI ?_ | (refine Cw.k_cond ?_; first | (refine Cw.cond_dec rfl (fun hc => ?_) (fun hc => ?_) <;> try (exfalso; omega)) | refine Cw.cond_bool rfl (fun hc => ?_) (fun hc => ?_)) | refine goR ?_ | refine goP ?_ | apply PSeq.cons | apply PSeq.yes rfl rfl rfl | exact goW | fail)
    exact Fin.ret Ent.refl (Outs.one rfl rfl) ⟨rfl, rfl⟩
theorem togX_len (c : List Mv) : (togX c).1.length ≤ c.length := by
  unfold togX
  split
  · simp
  · split
    · simp
    · exact tgD_len c
theorem shelvesCounted_law (xs : List Int) : Spec Tryz.prog 3 [Tr.ints xs] [] (fun r _ => r = Tr.bool true) := by
  refine Spec.body Tryz.func3 rfl rfl (Tryz.ntmps3) rfl fun w0 own0 M => ?_
  repeat' (first | refine goH ?_ | refine goV ?_ | refine goB (fun b => ?_) | refine goG ?_ | (refine Ops.k_guard ?_; first | (refine Ops.guard_dec rfl rfl (fun hc => ?_) (fun hc => ?_) <;> try (exfalso; omega)) | refine Ops.guard_split rfl rfl (fun hc => ?_) (fun hc => ?_)) | refine goI ?_ | (refine Cw.k_cond ?_; first | (refine Cw.cond_dec rfl (fun hc => ?_) (fun hc => ?_) <;> try (exfalso; omega)) | refine Cw.cond_bool rfl (fun hc => ?_) (fun hc => ?_)) | refine Ops.shut0 (ty := 25) rfl ?_ | (refine Ops.k_calla ?_; first | (refine Ops.k_callf 5 ?_; (refine Ops.callG moves_gen (Evs.cons rfl Evs.nil) goPk (by omega) rfl ?_; rintro r ⟨l, rfl, hl, hlb⟩)) | (refine Ops.k_callf 6 ?_; (refine Ops.callG (partMoves_gen l (by omega)) (Evs.cons rfl (Evs.cons rfl Evs.nil)) goPk (by omega) rfl ?_; rintro r ⟨p, rfl, hp, hps⟩; have hpb : NoBd p := hlb.sub hps)) | (refine Ops.k_callf 7 ?_; (refine Ops.callG (flip_gen _ (by omega)) (Evs.cons rfl (Evs.cons rfl Evs.nil)) goPk (by omega) rfl ?_; rintro r ⟨v, rfl⟩)) | (refine Ops.k_callf 8 ?_; (refine Ops.callG basket_gen (Evs.cons rfl Evs.nil) goPk (by omega) rfl ?_; rintro r ⟨c, rfl, hcl⟩))) | fail)
  rename_i a ha hab
  rotate_left
  · skip
    have hbl : p.length ≤ 9 := by omega
    have kC := checkShelf_fn l (by omega) hlb
    have kF := shelfFault_fn l (by omega) hlb
    have kS := shelf_fn l (by omega) hlb
    have kT := together_fn l p (by omega) hlb hpb
    have kTh := thefts_fn l (by omega) hlb c (by omega)
    have kDp := depots_fn
    by_cases h0 : (mvsE l).2 ≠ 0
    · unfold togR at kT
      rw [if_pos h0] at kS kT kTh
      generalize mvsE l = E at *
      simp only at kT kTh
      repeat' (first | refine goH ?_ | (refine Ops.k_b_neq ?_; first | (refine Ops.val' rfl (OpV.neq_f rfl rfl (by omega)) ?_)) | (refine Ops.k_b_eql ?_; first | (refine Ops.val' rfl (OpV.eql_t rfl rfl (by omega)) ?_)) | refine goV ?_ | refine goB (fun b => ?_) | refine goG ?_ | (refine Ops.k_guard ?_; first | (refine Ops.guard_dec rfl rfl (fun hc => ?_) (fun hc => ?_) <;> try (exfalso; omega)) | refine Ops.guard_split rfl rfl (fun hc => ?_) (fun hc => ?_)) | refine goI ?_ | (refine Cw.k_cond ?_; first | (refine Cw.cond_dec rfl (fun hc => ?_) (fun hc => ?_) <;> try (exfalso; omega)) | refine Cw.cond_bool rfl (fun hc => ?_) (fun hc => ?_)) | (refine Ops.k_calla ?_; first | (refine Ops.k_callf 9 ?_; refine Ops.callV kC (Evs.cons rfl Evs.nil) rfl ?_) | (refine Ops.k_callf 10 ?_; refine Ops.callV kF (Evs.cons rfl Evs.nil) rfl ?_) | (refine Ops.k_callf 11 ?_; refine Ops.callV kS (Evs.cons rfl Evs.nil) rfl ?_) | (refine Ops.k_callf 12 ?_; refine Ops.callV kT (Evs.cons rfl (Evs.cons rfl Evs.nil)) rfl ?_) | (refine Ops.k_callf 13 ?_; refine Ops.callV kTh (Evs.cons rfl (Evs.cons rfl Evs.nil)) rfl ?_) | (refine Ops.k_callf 14 ?_; refine Ops.callV kDp Evs.nil rfl ?_)) | fail)
      all_goals (refine Fin.ret Ent.refl (Outs.one rfl rfl) ?_; first | exact rfl | (exfalso; omega))
    replace h0 : (mvsE l).2 = 0 := by omega
    have hbd := mvsE_ok h0
    unfold togR at kT
    rw [if_neg (by omega)] at kS kT kTh
    rw [h0] at kS kC kF
    have kTM := togetherMoves_fn l p (by omega) hlb hpb
    have kCF := countedFault_fn c (by omega)
    have kSO := shelfOf_fn l (by omega) hbd
    have kTO := fun h : cntErr c = 0 => theftsOf_fn l (by omega) hbd c (by omega) h
    have q1 := equal_nm (shV l) (by have := smV_len l; unfold shV; rw [isort_len, List.length_map]; omega)
    have q2 := equal_mv (togX (l ++ p)).1 (by have := togX_len (l ++ p); rw [List.length_append] at this; omega)
    have q3 := equal_nm (thV l c) (by
      have h1 := sumM_len (c.map ngN) (smV l)
      have h2 := smV_len l
      rw [← thM_eq] at h1
      have h3 : (thV l c).length ≤ (thM (smV l) c).length := by
        unfold thV
        refine Nat.le_trans (List.length_filter_le _ _) ?_
        rw [isort_len, List.length_map]
        omega
      rw [List.length_map] at h1
      omega)
    generalize shV l = S at *
    generalize togX (l ++ p) = T at *
    generalize thV l c = U at *
    generalize cntErr c = ce at *
    generalize (mvsE l).1 = e1 at *
    clear h0 hbd
    by_cases hce : ce = 0
    · have kTO2 := kTO hce
      subst hce
      rw [show thR 0 U = (U, 0) from rfl] at kTh
      clear kTO
      repeat' (first | refine goH ?_ | (refine Ops.k_b_neq ?_; first | (refine Ops.val' rfl (OpV.neq_f rfl rfl (by omega)) ?_)) | (refine Ops.k_b_eql ?_; first | (refine Ops.val' rfl (OpV.eql_t rfl rfl (by omega)) ?_)) | refine goV ?_ | refine goB (fun b => ?_) | refine goG ?_ | (refine Ops.k_guard ?_; first | (refine Ops.guard_dec rfl rfl (fun hc => ?_) (fun hc => ?_) <;> try (exfalso; omega)) | refine Ops.guard_split rfl rfl (fun hc => ?_) (fun hc => ?_)) | refine goI ?_ | (refine Cw.k_cond ?_; first | (refine Cw.cond_dec rfl (fun hc => ?_) (fun hc => ?_) <;> try (exfalso; omega)) | refine Cw.cond_bool rfl (fun hc => ?_) (fun hc => ?_)) | (refine Ops.k_calla ?_; first | (refine Ops.k_callf 9 ?_; refine Ops.callV kC (Evs.cons rfl Evs.nil) rfl ?_) | (refine Ops.k_callf 10 ?_; refine Ops.callV kF (Evs.cons rfl Evs.nil) rfl ?_) | (refine Ops.k_callf 11 ?_; refine Ops.callV kS (Evs.cons rfl Evs.nil) rfl ?_) | (refine Ops.k_callf 12 ?_; refine Ops.callV kT (Evs.cons rfl (Evs.cons rfl Evs.nil)) rfl ?_) | (refine Ops.k_callf 13 ?_; refine Ops.callV kTh (Evs.cons rfl (Evs.cons rfl Evs.nil)) rfl ?_) | (refine Ops.k_callf 14 ?_; refine Ops.callV kDp Evs.nil rfl ?_) | (refine Ops.k_callf 15 ?_; refine Ops.callV kTM (Evs.cons rfl (Evs.cons rfl Evs.nil)) rfl ?_) | (refine Ops.k_callf 16 ?_; refine Ops.callV kCF (Evs.cons rfl Evs.nil) rfl ?_) | (refine Ops.k_callf 18 ?_; refine Ops.callV kSO (Evs.cons rfl Evs.nil) rfl ?_) | (refine Ops.k_callf 17 ?_; refine Ops.callV q1 (Evs.cons rfl (Evs.cons rfl Evs.nil)) rfl ?_) | (refine Ops.k_callf 19 ?_; refine Ops.callV q2 (Evs.cons rfl (Evs.cons rfl Evs.nil)) rfl ?_) | refine Ops.callV kTO2 (Evs.cons rfl (Evs.cons rfl Evs.nil)) rfl ?_ | (refine Ops.k_callf 17 ?_; refine Ops.callV q3 (Evs.cons rfl (Evs.cons rfl Evs.nil)) rfl ?_)) | fail)
      all_goals (refine Fin.ret Ent.refl (Outs.one rfl rfl) ?_; first | exact rfl | (exfalso; omega) | (exfalso; simp_all; done))
    · rw [thR_bad hce] at kTh
      clear kTO q3
      repeat' (first | refine goH ?_ | (refine Ops.k_b_neq ?_; first | (refine Ops.val' rfl (OpV.neq_f rfl rfl (by omega)) ?_)) | (refine Ops.k_b_eql ?_; first | (refine Ops.val' rfl (OpV.eql_t rfl rfl (by omega)) ?_)) | refine goV ?_ | refine goB (fun b => ?_) | refine goG ?_ | (refine Ops.k_guard ?_; first | (refine Ops.guard_dec rfl rfl (fun hc => ?_) (fun hc => ?_) <;> try (exfalso; omega)) | refine Ops.guard_split rfl rfl (fun hc => ?_) (fun hc => ?_)) | refine goI ?_ | (refine Cw.k_cond ?_; first | (refine Cw.cond_dec rfl (fun hc => ?_) (fun hc => ?_) <;> try (exfalso; omega)) | refine Cw.cond_bool rfl (fun hc => ?_) (fun hc => ?_)) | (refine Ops.k_calla ?_; first | (refine Ops.k_callf 9 ?_; refine Ops.callV kC (Evs.cons rfl Evs.nil) rfl ?_) | (refine Ops.k_callf 10 ?_; refine Ops.callV kF (Evs.cons rfl Evs.nil) rfl ?_) | (refine Ops.k_callf 11 ?_; refine Ops.callV kS (Evs.cons rfl Evs.nil) rfl ?_) | (refine Ops.k_callf 12 ?_; refine Ops.callV kT (Evs.cons rfl (Evs.cons rfl Evs.nil)) rfl ?_) | (refine Ops.k_callf 13 ?_; refine Ops.callV kTh (Evs.cons rfl (Evs.cons rfl Evs.nil)) rfl ?_) | (refine Ops.k_callf 14 ?_; refine Ops.callV kDp Evs.nil rfl ?_) | (refine Ops.k_callf 15 ?_; refine Ops.callV kTM (Evs.cons rfl (Evs.cons rfl Evs.nil)) rfl ?_) | (refine Ops.k_callf 16 ?_; refine Ops.callV kCF (Evs.cons rfl Evs.nil) rfl ?_) | (refine Ops.k_callf 18 ?_; refine Ops.callV kSO (Evs.cons rfl Evs.nil) rfl ?_) | (refine Ops.k_callf 17 ?_; refine Ops.callV q1 (Evs.cons rfl (Evs.cons rfl Evs.nil)) rfl ?_) | (refine Ops.k_callf 19 ?_; refine Ops.callV q2 (Evs.cons rfl (Evs.cons rfl Evs.nil)) rfl ?_)) | fail)
      all_goals (refine Fin.ret Ent.refl (Outs.one rfl rfl) ?_; first | exact rfl | (exfalso; omega) | (exfalso; simp_all; done))
  · skip
    have hbl : l.length ≤ 9 := by omega
    have kC := checkShelf_fn a (by omega) hab
    have kF := shelfFault_fn a (by omega) hab
    have kS := shelf_fn a (by omega) hab
    have kT := together_fn a l (by omega) hab hlb
    have kTh := thefts_fn a (by omega) hab c (by omega)
    have kDp := depots_fn
    by_cases h0 : (mvsE a).2 ≠ 0
    · unfold togR at kT
      rw [if_pos h0] at kS kT kTh
      generalize mvsE a = E at *
      simp only at kT kTh
      repeat' (first | refine goH ?_ | (refine Ops.k_b_neq ?_; first | (refine Ops.val' rfl (OpV.neq_f rfl rfl (by omega)) ?_)) | (refine Ops.k_b_eql ?_; first | (refine Ops.val' rfl (OpV.eql_t rfl rfl (by omega)) ?_)) | refine goV ?_ | refine goB (fun b => ?_) | refine goG ?_ | (refine Ops.k_guard ?_; first | (refine Ops.guard_dec rfl rfl (fun hc => ?_) (fun hc => ?_) <;> try (exfalso; omega)) | refine Ops.guard_split rfl rfl (fun hc => ?_) (fun hc => ?_)) | refine goI ?_ | (refine Cw.k_cond ?_; first | (refine Cw.cond_dec rfl (fun hc => ?_) (fun hc => ?_) <;> try (exfalso; omega)) | refine Cw.cond_bool rfl (fun hc => ?_) (fun hc => ?_)) | (refine Ops.k_calla ?_; first | (refine Ops.k_callf 9 ?_; refine Ops.callV kC (Evs.cons rfl Evs.nil) rfl ?_) | (refine Ops.k_callf 10 ?_; refine Ops.callV kF (Evs.cons rfl Evs.nil) rfl ?_) | (refine Ops.k_callf 11 ?_; refine Ops.callV kS (Evs.cons rfl Evs.nil) rfl ?_) | (refine Ops.k_callf 12 ?_; refine Ops.callV kT (Evs.cons rfl (Evs.cons rfl Evs.nil)) rfl ?_) | (refine Ops.k_callf 13 ?_; refine Ops.callV kTh (Evs.cons rfl (Evs.cons rfl Evs.nil)) rfl ?_) | (refine Ops.k_callf 14 ?_; refine Ops.callV kDp Evs.nil rfl ?_)) | fail)
      all_goals (refine Fin.ret Ent.refl (Outs.one rfl rfl) ?_; first | exact rfl | (exfalso; omega))
    replace h0 : (mvsE a).2 = 0 := by omega
    have hbd := mvsE_ok h0
    unfold togR at kT
    rw [if_neg (by omega)] at kS kT kTh
    rw [h0] at kS kC kF
    have kTM := togetherMoves_fn a l (by omega) hab hlb
    have kCF := countedFault_fn c (by omega)
    have kSO := shelfOf_fn a (by omega) hbd
    have kTO := fun h : cntErr c = 0 => theftsOf_fn a (by omega) hbd c (by omega) h
    have q1 := equal_nm (shV a) (by have := smV_len a; unfold shV; rw [isort_len, List.length_map]; omega)
    have q2 := equal_mv (togX (a ++ l)).1 (by have := togX_len (a ++ l); rw [List.length_append] at this; omega)
    have q3 := equal_nm (thV a c) (by
      have h1 := sumM_len (c.map ngN) (smV a)
      have h2 := smV_len a
      rw [← thM_eq] at h1
      have h3 : (thV a c).length ≤ (thM (smV a) c).length := by
        unfold thV
        refine Nat.le_trans (List.length_filter_le _ _) ?_
        rw [isort_len, List.length_map]
        omega
      rw [List.length_map] at h1
      omega)
    generalize shV a = S at *
    generalize togX (a ++ l) = T at *
    generalize thV a c = U at *
    generalize cntErr c = ce at *
    generalize (mvsE a).1 = e1 at *
    clear h0 hbd
    by_cases hce : ce = 0
    · have kTO2 := kTO hce
      subst hce
      rw [show thR 0 U = (U, 0) from rfl] at kTh
      clear kTO
      repeat' (first | refine goH ?_ | (refine Ops.k_b_neq ?_; first | (refine Ops.val' rfl (OpV.neq_f rfl rfl (by omega)) ?_)) | (refine Ops.k_b_eql ?_; first | (refine Ops.val' rfl (OpV.eql_t rfl rfl (by omega)) ?_)) | refine goV ?_ | refine goB (fun b => ?_) | refine goG ?_ | (refine Ops.k_guard ?_; first | (refine Ops.guard_dec rfl rfl (fun hc => ?_) (fun hc => ?_) <;> try (exfalso; omega)) | refine Ops.guard_split rfl rfl (fun hc => ?_) (fun hc => ?_)) | refine goI ?_ | (refine Cw.k_cond ?_; first | (refine Cw.cond_dec rfl (fun hc => ?_) (fun hc => ?_) <;> try (exfalso; omega)) | refine Cw.cond_bool rfl (fun hc => ?_) (fun hc => ?_)) | (refine Ops.k_calla ?_; first | (refine Ops.k_callf 9 ?_; refine Ops.callV kC (Evs.cons rfl Evs.nil) rfl ?_) | (refine Ops.k_callf 10 ?_; refine Ops.callV kF (Evs.cons rfl Evs.nil) rfl ?_) | (refine Ops.k_callf 11 ?_; refine Ops.callV kS (Evs.cons rfl Evs.nil) rfl ?_) | (refine Ops.k_callf 12 ?_; refine Ops.callV kT (Evs.cons rfl (Evs.cons rfl Evs.nil)) rfl ?_) | (refine Ops.k_callf 13 ?_; refine Ops.callV kTh (Evs.cons rfl (Evs.cons rfl Evs.nil)) rfl ?_) | (refine Ops.k_callf 14 ?_; refine Ops.callV kDp Evs.nil rfl ?_) | (refine Ops.k_callf 15 ?_; refine Ops.callV kTM (Evs.cons rfl (Evs.cons rfl Evs.nil)) rfl ?_) | (refine Ops.k_callf 16 ?_; refine Ops.callV kCF (Evs.cons rfl Evs.nil) rfl ?_) | (refine Ops.k_callf 18 ?_; refine Ops.callV kSO (Evs.cons rfl Evs.nil) rfl ?_) | (refine Ops.k_callf 17 ?_; refine Ops.callV q1 (Evs.cons rfl (Evs.cons rfl Evs.nil)) rfl ?_) | (refine Ops.k_callf 19 ?_; refine Ops.callV q2 (Evs.cons rfl (Evs.cons rfl Evs.nil)) rfl ?_) | refine Ops.callV kTO2 (Evs.cons rfl (Evs.cons rfl Evs.nil)) rfl ?_ | (refine Ops.k_callf 17 ?_; refine Ops.callV q3 (Evs.cons rfl (Evs.cons rfl Evs.nil)) rfl ?_)) | fail)
      all_goals (refine Fin.ret Ent.refl (Outs.one rfl rfl) ?_; first | exact rfl | (exfalso; omega) | (exfalso; simp_all; done))
    · rw [thR_bad hce] at kTh
      clear kTO q3
      repeat' (first | refine goH ?_ | (refine Ops.k_b_neq ?_; first | (refine Ops.val' rfl (OpV.neq_f rfl rfl (by omega)) ?_)) | (refine Ops.k_b_eql ?_; first | (refine Ops.val' rfl (OpV.eql_t rfl rfl (by omega)) ?_)) | refine goV ?_ | refine goB (fun b => ?_) | refine goG ?_ | (refine Ops.k_guard ?_; first | (refine Ops.guard_dec rfl rfl (fun hc => ?_) (fun hc => ?_) <;> try (exfalso; omega)) | refine Ops.guard_split rfl rfl (fun hc => ?_) (fun hc => ?_)) | refine goI ?_ | (refine Cw.k_cond ?_; first | (refine Cw.cond_dec rfl (fun hc => ?_) (fun hc => ?_) <;> try (exfalso; omega)) | refine Cw.cond_bool rfl (fun hc => ?_) (fun hc => ?_)) | (refine Ops.k_calla ?_; first | (refine Ops.k_callf 9 ?_; refine Ops.callV kC (Evs.cons rfl Evs.nil) rfl ?_) | (refine Ops.k_callf 10 ?_; refine Ops.callV kF (Evs.cons rfl Evs.nil) rfl ?_) | (refine Ops.k_callf 11 ?_; refine Ops.callV kS (Evs.cons rfl Evs.nil) rfl ?_) | (refine Ops.k_callf 12 ?_; refine Ops.callV kT (Evs.cons rfl (Evs.cons rfl Evs.nil)) rfl ?_) | (refine Ops.k_callf 13 ?_; refine Ops.callV kTh (Evs.cons rfl (Evs.cons rfl Evs.nil)) rfl ?_) | (refine Ops.k_callf 14 ?_; refine Ops.callV kDp Evs.nil rfl ?_) | (refine Ops.k_callf 15 ?_; refine Ops.callV kTM (Evs.cons rfl (Evs.cons rfl Evs.nil)) rfl ?_) | (refine Ops.k_callf 16 ?_; refine Ops.callV kCF (Evs.cons rfl Evs.nil) rfl ?_) | (refine Ops.k_callf 18 ?_; refine Ops.callV kSO (Evs.cons rfl Evs.nil) rfl ?_) | (refine Ops.k_callf 17 ?_; refine Ops.callV q1 (Evs.cons rfl (Evs.cons rfl Evs.nil)) rfl ?_) | (refine Ops.k_callf 19 ?_; refine Ops.callV q2 (Evs.cons rfl (Evs.cons rfl Evs.nil)) rfl ?_)) | fail)
      all_goals (refine Fin.ret Ent.refl (Outs.one rfl rfl) ?_; first | exact rfl | (exfalso; omega) | (exfalso; simp_all; done))
end Lg
