/- A part of the proof of a law of this seat: it adds no condition. By an AI agent. -/
import Derived.Test.YteooghfcfmmkkaaCo11
import Derived.Test.YteooghfcfmmkkaaCoinGen
import Derived.Test.YteooghfcfmmkkaaLaw
section
set_option linter.all false
set_option maxRecDepth 100000
set_option maxHeartbeats 8000000
namespace Lg
open Go Go.Proofs

theorem dbe_eq0 (n : Nat) (a b : Int) (w : World) : (Op.equalIn (n + 1 + 1) 50 (.agg #[.int .i64 a, .int .i64 b]) (.agg #[.int .i64 a, .int .i64 b])).run Try.prog w = .ok true w := by
  have hs : Try.prog.stoodInHeld 50 = false := by kernel_rfl
  simp [Op.equalIn, run_underlying Try.underlying50, run_underlying Try.underlying3, hs, part, Go.sizeOf, typeInfo]
theorem dbe_eq1 (a b : Int) (w : World) : (binOp .eql 50 (.agg #[.int .i64 a, .int .i64 b]) (.agg #[.int .i64 a, .int .i64 b])).run Try.prog w = .ok (.bool true) w := by
  show (do let r ← Op.equalIn (9998 + 1 + 1) 50 _ _; pure (Value.bool r) : Sem Value).run Try.prog w = _
  have := dbe_eq0 9998 a b w
  generalize Op.equalIn (9998 + 1 + 1) 50 (.agg #[.int .i64 a, .int .i64 b]) (.agg #[.int .i64 a, .int .i64 b]) = s at *
  simp [this]
theorem dbe_ne1 (a b : Int) (w : World) : (binOp .neq 50 (.agg #[.int .i64 a, .int .i64 b]) (.agg #[.int .i64 a, .int .i64 b])).run Try.prog w = .ok (.bool false) w := by
  show (do let r ← Op.equalIn (9998 + 1 + 1) 50 _ _; pure (Value.bool !r) : Sem Value).run Try.prog w = _
  have := dbe_eq0 9998 a b w
  generalize Op.equalIn (9998 + 1 + 1) 50 (.agg #[.int .i64 a, .int .i64 b]) (.agg #[.int .i64 a, .int .i64 b]) = s at *
  simp [this]
section
variable {Γ : Ctx} {env : Env} {cs : List Chunk} {x y : Operand} {T2 ty : TypeId}
theorem OpV.dbe_t {a b : Int} (hx : ev env x = some (.agg ([.int .i64 a, .int .i64 b].map Tr.raw))) (hy : ev env y = some (.agg ([.int .i64 a, .int .i64 b].map Tr.raw))) : OpV Try.prog Γ (.binOp .eql 50 x y T2) ty env cs (.bool true) := by
  unfold OpV
  intro ac w d
  have h1 := agg_raw (l := [.int .i64 a, .int .i64 b]) (d.ev hx)
  have h2 := agg_raw (l := [.int .i64 a, .int .i64 b]) (d.ev hy)
  have h3 := dbe_eq1 a b w
  have h4 : (eqGuard .eql 50 x y (.agg #[.int .i64 a, .int .i64 b]) (.agg #[.int .i64 a, .int .i64 b])).run Try.prog w = .ok () w := by simp [eqGuard]
  exact ⟨.bool true, by simp [execOp, h1, h2, h3, h4], by unfold Tr.bool Tr.raw; rfl⟩
theorem OpV.dbe_ne_f {a b : Int} (hx : ev env x = some (.agg ([.int .i64 a, .int .i64 b].map Tr.raw))) (hy : ev env y = some (.agg ([.int .i64 a, .int .i64 b].map Tr.raw))) : OpV Try.prog Γ (.binOp .neq 50 x y T2) ty env cs (.bool false) := by
  unfold OpV
  intro ac w d
  have h1 := agg_raw (l := [.int .i64 a, .int .i64 b]) (d.ev hx)
  have h2 := agg_raw (l := [.int .i64 a, .int .i64 b]) (d.ev hy)
  have h3 := dbe_ne1 a b w
  have h4 : (eqGuard .neq 50 x y (.agg #[.int .i64 a, .int .i64 b]) (.agg #[.int .i64 a, .int .i64 b])).run Try.prog w = .ok () w := by simp [eqGuard]
  exact ⟨.bool false, by simp [execOp, h1, h2, h3, h4], by unfold Tr.bool Tr.raw; rfl⟩
end
theorem equal_dbe (xs : List Dbt) (h : xs.length ≤ 1000000000) : PFn Try.prog 17 [.sl 2 (xs.map Dbt.row), .sl 2 (xs.map Dbt.row)] (· = .bool true) := by
  refine PFn.mk (Spec.body Try.func17 rfl rfl (Try.ntmps17) rfl fun w0 own0 M => ?_)
  have hL : (xs.map Dbt.row).length = xs.length := List.length_map _
  repeat' (first | refine goH ?_ | refine goV ?_ | refine goI ?_ | (refine Cw.k_cond ?_; first | (refine Cw.cond_dec rfl (fun hc => ?_) (fun hc => ?_) <;> try (exfalso; omega)) | refine Cw.cond_bool rfl (fun hc => ?_) (fun hc => ?_)) | refine goR ?_ | refine goP ?_ | apply PSeq.cons | apply PSeq.yes rfl rfl rfl | exact goW | fail)
  refine Cw.loop (ι := Nat) (fun k => k ≤ xs.length) (fun k => [(0, .sl 2 (xs.map Dbt.row)), (1, .sl 2 (xs.map Dbt.row)), (11, .sl 2 (xs.map Dbt.row)), (12, .int (xs.map Dbt.row).length), (13, .int k)]) (fun _ => []) (fun k => xs.length - k) ⟨0, by omega, (Ent.mk goSub goTk)⟩ ?_
  intro k hk
  by_cases hkl : k < xs.length
  · obtain ⟨d, hd⟩ : ∃ x, xs[k]? = some x := ⟨_, List.getElem?_eq_getElem hkl⟩
    have hrow : (xs.map Dbt.row)[k]? = some [Tr.int d.p, Tr.int d.v] := rows_at hd
    repeat' (first | refine goH ?_ | refine goV ?_ | refine goI ?_ | (refine Cw.k_cond ?_; first | (refine Cw.cond_dec rfl (fun hc => ?_) (fun hc => ?_) <;> try (exfalso; omega)) | refine Cw.cond_bool rfl (fun hc => ?_) (fun hc => ?_)) | (apply OpV.w; apply OpV.dbe_ne_f; exact rfl; exact rfl) | refine goR ?_ | refine goP ?_ | apply PSeq.cons | apply PSeq.yes rfl rfl rfl | exact goW | fail)
    exact ⟨k + 1, by omega, by omega, (Ent.mk goSub goTk)⟩
  · repeat' (first | refine goH ?_ | refine goV ?_ | refine goI ?_ | (refine Cw.k_cond ?_; first | (refine Cw.cond_dec rfl (fun hc => ?_) (fun hc => ?_) <;> try (exfalso; omega)) | refine Cw.cond_bool rfl (fun hc => ?_) (fun hc => ?_)) | refine goR ?_ | refine goP ?_ | apply PSeq.cons | apply PSeq.yes rfl rfl rfl | exact goW | fail)
    exact Fin.ret Ent.refl (Outs.one rfl rfl) ⟨rfl, rfl⟩

theorem tbe_eq0 (n : Nat) (a b c : Int) (w : World) : (Op.equalIn (n + 1 + 1) 46 (.agg #[.int .i64 a, .int .i64 b, .int .i64 c]) (.agg #[.int .i64 a, .int .i64 b, .int .i64 c])).run Try.prog w = .ok true w := by
  have hs : Try.prog.stoodInHeld 46 = false := by kernel_rfl
  simp [Op.equalIn, run_underlying Try.underlying46, run_underlying Try.underlying3, hs, part, Go.sizeOf, typeInfo]
theorem tbe_eq1 (a b c : Int) (w : World) : (binOp .eql 46 (.agg #[.int .i64 a, .int .i64 b, .int .i64 c]) (.agg #[.int .i64 a, .int .i64 b, .int .i64 c])).run Try.prog w = .ok (.bool true) w := by
  show (do let r ← Op.equalIn (9998 + 1 + 1) 46 _ _; pure (Value.bool r) : Sem Value).run Try.prog w = _
  have := tbe_eq0 9998 a b c w
  generalize Op.equalIn (9998 + 1 + 1) 46 (.agg #[.int .i64 a, .int .i64 b, .int .i64 c]) (.agg #[.int .i64 a, .int .i64 b, .int .i64 c]) = s at *
  simp [this]
theorem tbe_ne1 (a b c : Int) (w : World) : (binOp .neq 46 (.agg #[.int .i64 a, .int .i64 b, .int .i64 c]) (.agg #[.int .i64 a, .int .i64 b, .int .i64 c])).run Try.prog w = .ok (.bool false) w := by
  show (do let r ← Op.equalIn (9998 + 1 + 1) 46 _ _; pure (Value.bool !r) : Sem Value).run Try.prog w = _
  have := tbe_eq0 9998 a b c w
  generalize Op.equalIn (9998 + 1 + 1) 46 (.agg #[.int .i64 a, .int .i64 b, .int .i64 c]) (.agg #[.int .i64 a, .int .i64 b, .int .i64 c]) = s at *
  simp [this]
section
variable {Γ : Ctx} {env : Env} {cs : List Chunk} {x y : Operand} {T2 ty : TypeId}
theorem OpV.tbe_t {a b c : Int} (hx : ev env x = some (.agg ([.int .i64 a, .int .i64 b, .int .i64 c].map Tr.raw))) (hy : ev env y = some (.agg ([.int .i64 a, .int .i64 b, .int .i64 c].map Tr.raw))) : OpV Try.prog Γ (.binOp .eql 46 x y T2) ty env cs (.bool true) := by
  unfold OpV
  intro ac w d
  have h1 := agg_raw (l := [.int .i64 a, .int .i64 b, .int .i64 c]) (d.ev hx)
  have h2 := agg_raw (l := [.int .i64 a, .int .i64 b, .int .i64 c]) (d.ev hy)
  have h3 := tbe_eq1 a b c w
  have h4 : (eqGuard .eql 46 x y (.agg #[.int .i64 a, .int .i64 b, .int .i64 c]) (.agg #[.int .i64 a, .int .i64 b, .int .i64 c])).run Try.prog w = .ok () w := by simp [eqGuard]
  exact ⟨.bool true, by simp [execOp, h1, h2, h3, h4], by unfold Tr.bool Tr.raw; rfl⟩
theorem OpV.tbe_ne_f {a b c : Int} (hx : ev env x = some (.agg ([.int .i64 a, .int .i64 b, .int .i64 c].map Tr.raw))) (hy : ev env y = some (.agg ([.int .i64 a, .int .i64 b, .int .i64 c].map Tr.raw))) : OpV Try.prog Γ (.binOp .neq 46 x y T2) ty env cs (.bool false) := by
  unfold OpV
  intro ac w d
  have h1 := agg_raw (l := [.int .i64 a, .int .i64 b, .int .i64 c]) (d.ev hx)
  have h2 := agg_raw (l := [.int .i64 a, .int .i64 b, .int .i64 c]) (d.ev hy)
  have h3 := tbe_ne1 a b c w
  have h4 : (eqGuard .neq 46 x y (.agg #[.int .i64 a, .int .i64 b, .int .i64 c]) (.agg #[.int .i64 a, .int .i64 b, .int .i64 c])).run Try.prog w = .ok () w := by simp [eqGuard]
  exact ⟨.bool false, by simp [execOp, h1, h2, h3, h4], by unfold Tr.bool Tr.raw; rfl⟩
end
theorem equal_tbe (xs : List Tube) (h : xs.length ≤ 1000000000) : PFn Try.prog 15 [.sl 3 (xs.map Tube.row), .sl 3 (xs.map Tube.row)] (· = .bool true) := by
  refine PFn.mk (Spec.body Try.func15 rfl rfl (Try.ntmps15) rfl fun w0 own0 M => ?_)
  have hL : (xs.map Tube.row).length = xs.length := List.length_map _
  repeat' (first | refine goH ?_ | refine goV ?_ | refine goI ?_ | (refine Cw.k_cond ?_; first | (refine Cw.cond_dec rfl (fun hc => ?_) (fun hc => ?_) <;> try (exfalso; omega)) | refine Cw.cond_bool rfl (fun hc => ?_) (fun hc => ?_)) | refine goR ?_ | refine goP ?_ | apply PSeq.cons | apply PSeq.yes rfl rfl rfl | exact goW | fail)
  refine Cw.loop (ι := Nat) (fun k => k ≤ xs.length) (fun k => [(0, .sl 3 (xs.map Tube.row)), (1, .sl 3 (xs.map Tube.row)), (11, .sl 3 (xs.map Tube.row)), (12, .int (xs.map Tube.row).length), (13, .int k)]) (fun _ => []) (fun k => xs.length - k) ⟨0, by omega, (Ent.mk goSub goTk)⟩ ?_
  intro k hk
  by_cases hkl : k < xs.length
  · obtain ⟨d, hd⟩ : ∃ x, xs[k]? = some x := ⟨_, List.getElem?_eq_getElem hkl⟩
    have hrow : (xs.map Tube.row)[k]? = some [Tr.int d.val, Tr.int d.cnt, Tr.int d.most] := rows_at hd
    repeat' (first | refine goH ?_ | refine goV ?_ | refine goI ?_ | (refine Cw.k_cond ?_; first | (refine Cw.cond_dec rfl (fun hc => ?_) (fun hc => ?_) <;> try (exfalso; omega)) | refine Cw.cond_bool rfl (fun hc => ?_) (fun hc => ?_)) | (apply OpV.w; apply OpV.tbe_ne_f; exact rfl; exact rfl) | refine goR ?_ | refine goP ?_ | apply PSeq.cons | apply PSeq.yes rfl rfl rfl | exact goW | fail)
    exact ⟨k + 1, by omega, by omega, (Ent.mk goSub goTk)⟩
  · repeat' (first | refine goH ?_ | refine goV ?_ | refine goI ?_ | (refine Cw.k_cond ?_; first | (refine Cw.cond_dec rfl (fun hc => ?_) (fun hc => ?_) <;> try (exfalso; omega)) | refine Cw.cond_bool rfl (fun hc => ?_) (fun hc => ?_)) | refine goR ?_ | refine goP ?_ | apply PSeq.cons | apply PSeq.yes rfl rfl rfl | exact goW | fail)
    exact Fin.ret Ent.refl (Outs.one rfl rfl) ⟨rfl, rfl⟩

theorem doubtsR_fn (l : List Tube) (p t : List Int) (hp : p.length ≤ 12) (ht : t.length ≤ 12) : PFn Try.prog 9 [.tubes l, .ints p, .ints t] (· = .tup [.dbts (doubtsR l p t).1, .int (doubtsR l p t).2]) := by
  by_cases h : tubesErr l ≠ 0 ∨ doubt1 p t ≠ 0
  · have := doubtsBad_fn l p t hp ht h (checkTubes_fn l)
    have e : doubtsR l p t = ([], if tubesErr l ≠ 0 then tubesErr l else doubt1 p t) := by
      unfold doubtsR
      split
      · rfl
      · rename_i h0
        rw [if_pos (h.resolve_left h0)]
    rw [e]
    exact this
  · have h0 : tubesErr l = 0 := by omega
    have h1 : doubt1 p t = 0 := by omega
    have := doubts_fn l p t hp ht h0 h1 (checkTubes_fn l)
    have e : doubtsR l p t = (prs (canK l l.length) (dd (srt p)) (dd (srt t)), 0) := by
      unfold doubtsR
      rw [if_neg (by omega), if_neg (by omega)]
    rw [e]
    exact this
theorem stlT_le (T : List Tube) (A : List Int) : (stlT T A).length ≤ T.length := by unfold stlT; rw [List.length_zipWith]; omega
theorem flUp_len (l : List Tube) (st : FS) : ∀ i, (flUp l st i).1.length = st.1.length
  | 0 => rfl
  | i + 1 => by
    have ih := flUp_len l st i
    show (flStep l i (flUp l st i)).1.length = _
    unfold flStep
    split
    · exact ih
    · split
      · simp only [List.length_set]; exact ih
      · exact ih
theorem flRun_len (l : List Tube) : ∀ (f : Nat) (o : List Int) (w : Int), (flRun l f o w).length = o.length
  | 0, o, w => rfl
  | f + 1, o, w => by
    have h := flUp_len l (o, w, false) l.length
    rw [flRun]
    rcases hst : flUp l (o, w, false) l.length with ⟨o2, w2, ch⟩
    rw [hst] at h
    cases ch
    · exact h
    · simp only
      rw [flRun_len l f o2 w2]
      exact h
theorem floatR_len (l : List Tube) (w : Int) : (floatR l w).length = l.length := by
  unfold floatR flF
  rw [flT_len, flRun_len, List.length_replicate]
theorem prsR_le (can : Nat → Bool) (p t : List Int) (hp : p.length ≤ 12) (ht : t.length ≤ 12) : (prs can (dd (srt p)) (dd (srt t))).length ≤ 1000 := by
  have h1 := prs_len (can := can) (dd (srt p)) (dd (srt t))
  have h2 := dd_le (srt p)
  have h3 := dd_le (srt t)
  rw [show (srt p).length = p.length from isort_len _ p] at h2
  rw [show (srt t).length = t.length from isort_len _ t] at h3
  have := Nat.mul_le_mul (show (dd (srt p)).length ≤ 12 by omega) (show (dd (srt t)).length ≤ 12 by omega)
  omega
end Lg
end
section
set_option linter.all false
set_option maxRecDepth 100000
set_option maxHeartbeats 8000000
namespace Lg
open Go Go.Proofs

theorem settleT_fn (T : List Tube) (A : List Int) (hl : A.length ≤ 1000) : PFn Try.prog 8 [.tubes T, .ints A] (· = .tup [.tubes (settleR T A).1, .int (settleR T A).2.1, .int (settleR T A).2.2]) := settle_fn T A hl (checkTubes_fn T)
theorem floatT_fn (l : List Tube) (want : Int) : PFn Try.prog 10 [.tubes l, .int want] (· = .tup [.ints (float1 l want).1, .int (float1 l want).2]) := float_fn l want (checkTubes_fn l)
theorem settleOf_ok (T : List Tube) (A : List Int) (ho : TbOk T) (h : settle1 T A = 0) : PFn Try.prog 14 [.tubes T, .ints A] (· = .tup [.tubes (stlT T A), .int (stlR T A)]) := by
  unfold settle1 at h
  split at h
  · omega
  · rename_i h1
    split at h
    · omega
    · rename_i h2
      refine settleOf_fn T A (by have := ho.len; omega) (by omega) (fun d hd => ⟨(ho.val d hd).1, (ho.val d hd).2, (ho.cnt d hd).1, (ho.cnt d hd).2.1, (ho.cnt d hd).2.2⟩) (fun a ha => ?_)
      have := List.any_eq_false.1 (by simpa using h2 : A.any coB = false) a ha
      simp [coB, outB] at this
      omega
theorem coinsSettled_law (xs : List Int) : Spec Try.prog 3 [Tr.ints xs] [] (fun r _ => r = Tr.bool true) := by
  refine Spec.body Try.func3 rfl rfl (Try.ntmps3) rfl fun w0 own0 M => ?_
  repeat' (first | refine goH ?_ | refine goV ?_ | refine goB (fun b => ?_) | refine goG ?_ | (refine Ops.k_guard ?_; first | (refine Ops.guard_dec rfl rfl (fun hc => ?_) (fun hc => ?_) <;> try (exfalso; omega)) | refine Ops.guard_split rfl rfl (fun hc => ?_) (fun hc => ?_)) | refine goI ?_ | (refine Cw.k_cond ?_; first | (refine Cw.cond_dec rfl (fun hc => ?_) (fun hc => ?_) <;> try (exfalso; omega)) | refine Cw.cond_bool rfl (fun hc => ?_) (fun hc => ?_)) | refine Ops.shut0 (ty := 25) rfl ?_ | (refine Ops.k_calla ?_; first | (refine Ops.k_callf 4 ?_; (refine Ops.callG tubes_gen (Evs.cons rfl Evs.nil) goPk (by omega) rfl ?_; rintro r ⟨t, rfl, ht⟩; have htl : (t.map Tube.row).length = t.length := List.length_map _)) | (refine Ops.k_callf 5 ?_; (refine Ops.callG (coins_gen (t.map Tube.row).length (by omega)) (Evs.cons rfl (Evs.cons rfl Evs.nil)) goPk (by omega) rfl ?_; rintro r ⟨add, rfl, ha⟩)) | (refine Ops.k_callf 6 ?_; (refine Ops.callG cents_gen (Evs.cons rfl Evs.nil) goPk (by omega) rfl ?_; rintro r ⟨p, rfl, hp⟩)) | (refine Ops.k_callf 7 ?_; (refine Ops.callG (pick_gen (by repeat' (first | exact IsInts.nil | apply IsInts.cons)) (by simp)) (Evs.cons rfl (Evs.cons rfl Evs.nil)) goPk (by omega) rfl ?_; rintro r ⟨want, rfl, hw⟩; clear hw))) | fail)
  rename_i pr hpr
  have hT := tubesFault_fn t
  have hS := settleT_fn t add (by omega)
  have hD := doubtsR_fn t pr p (by omega) (by omega)
  have hF := floatT_fn t want
  have hSF := settleFault_fn t add (by omega)
  have hDF := doubtsFault_fn pr p (by omega) (by omega)
  by_cases h0 : tubesErr t ≠ 0
  · rw [show settleR t add = ([], 0, tubesErr t) by unfold settleR; rw [if_pos h0]] at hS
    rw [show doubtsR t pr p = ([], tubesErr t) by unfold doubtsR; rw [if_pos h0]] at hD
    rw [show float1 t want = ([], tubesErr t) by unfold float1; rw [if_pos h0]] at hF
    simp only at hS hD hF
    generalize tubesErr t = te at *
    repeat' (first | refine goH ?_ | (refine Ops.k_b_neq ?_; first | (refine Ops.val' rfl (OpV.neq_f rfl rfl (by omega)) ?_)) | (refine Ops.k_b_eql ?_; first | (refine Ops.val' rfl (OpV.eql_t rfl rfl (by omega)) ?_)) | refine goV ?_ | refine goB (fun b => ?_) | refine goG ?_ | (refine Ops.k_guard ?_; first | (refine Ops.guard_dec rfl rfl (fun hc => ?_) (fun hc => ?_) <;> try (exfalso; omega)) | refine Ops.guard_split rfl rfl (fun hc => ?_) (fun hc => ?_)) | refine goI ?_ | (refine Cw.k_cond ?_; first | (refine Cw.cond_dec rfl (fun hc => ?_) (fun hc => ?_) <;> try (exfalso; omega)) | refine Cw.cond_bool rfl (fun hc => ?_) (fun hc => ?_)) | (refine Ops.k_calla ?_; first | (refine Ops.k_callf 8 ?_; refine Ops.callV hS (Evs.cons rfl (Evs.cons rfl Evs.nil)) rfl ?_) | (refine Ops.k_callf 9 ?_; refine Ops.callV hD (Evs.cons rfl (Evs.cons rfl (Evs.cons rfl Evs.nil))) rfl ?_) | (refine Ops.k_callf 10 ?_; refine Ops.callV hF (Evs.cons rfl (Evs.cons rfl Evs.nil)) rfl ?_) | (refine Ops.k_callf 11 ?_; refine Ops.callV hT (Evs.cons rfl Evs.nil) rfl ?_) | (refine Ops.k_callf 12 ?_; refine Ops.callV hSF (Evs.cons rfl (Evs.cons rfl Evs.nil)) rfl ?_) | (refine Ops.k_callf 13 ?_; refine Ops.callV hDF (Evs.cons rfl (Evs.cons rfl Evs.nil)) rfl ?_) | (refine Ops.k_callf 16 ?_; refine Ops.callV vends_fn Evs.nil rfl ?_)) | fail)
    all_goals (refine Fin.ret Ent.refl (Outs.one rfl rfl) ?_; first | exact rfl | (exfalso; omega) | (exfalso; simp_all))
  replace h0 : tubesErr t = 0 := by omega
  have ho := tubesErr_ok h0
  rw [h0] at hT
  have hlen := ho.len
  rw [show float1 t want = if want < 0 ∨ 1000000000 < want then ([], 1) else (floatR t want, 0) by unfold float1; rw [if_neg (by omega)]] at hF
  rw [show settleR t add = if settle1 t add ≠ 0 then ([], 0, settle1 t add) else (stlT t add, stlR t add, 0) by unfold settleR; rw [if_neg (by omega)]] at hS
  rw [show doubtsR t pr p = if doubt1 pr p ≠ 0 then ([], doubt1 pr p) else (prs (canK t t.length) (dd (srt pr)) (dd (srt p)), 0) by unfold doubtsR; rw [if_neg (by omega)]] at hD
  have qF := equalInts_same (floatR t want) (by rw [floatR_len]; omega)
  have qD := equal_dbe (prs (canK t t.length) (dd (srt pr)) (dd (srt p))) (by have := prsR_le (canK t t.length) pr p (by omega) (by omega); omega)
  have qS := equal_tbe (stlT t add) (by have := stlT_le t add; omega)
  have kS := fun h : settle1 t add = 0 => settleOf_ok t add ho h
  have kD := fun h : doubt1 pr p = 0 => doubtsOf_fn t ho pr p (by omega) (by omega) h
  have kF := fun h : 0 ≤ want ∧ want ≤ 1000000000 => floatOf_fn t ho want h
  generalize stlT t add = sT at *
  generalize stlR t add = sR at *
  generalize prs (canK t t.length) (dd (srt pr)) (dd (srt p)) = dL at *
  generalize floatR t want = fL at *
  generalize settle1 t add = s1 at *
  generalize doubt1 pr p = d1 at *
  clear ho
  by_cases h1 : s1 ≠ 0 <;> by_cases h2 : d1 ≠ 0 <;> by_cases h3 : want < 0 ∨ 1000000000 < want
  · rw [if_pos h1] at hS
    rw [if_pos h2] at hD
    rw [if_pos h3] at hF
    clear kS kD kF
    repeat' (first | refine goH ?_ | (refine Ops.k_b_neq ?_; first | (refine Ops.val' rfl (OpV.neq_f rfl rfl (by omega)) ?_)) | (refine Ops.k_b_eql ?_; first | (refine Ops.val' rfl (OpV.eql_t rfl rfl (by omega)) ?_)) | refine goV ?_ | refine goB (fun b => ?_) | refine goG ?_ | (refine Ops.k_guard ?_; first | (refine Ops.guard_dec rfl rfl (fun hc => ?_) (fun hc => ?_) <;> try (exfalso; omega)) | refine Ops.guard_split rfl rfl (fun hc => ?_) (fun hc => ?_)) | refine goI ?_ | (refine Cw.k_cond ?_; first | (refine Cw.cond_dec rfl (fun hc => ?_) (fun hc => ?_) <;> try (exfalso; omega)) | refine Cw.cond_bool rfl (fun hc => ?_) (fun hc => ?_)) | (refine Ops.k_calla ?_; first | (refine Ops.k_callf 8 ?_; refine Ops.callV hS (Evs.cons rfl (Evs.cons rfl Evs.nil)) rfl ?_) | (refine Ops.k_callf 9 ?_; refine Ops.callV hD (Evs.cons rfl (Evs.cons rfl (Evs.cons rfl Evs.nil))) rfl ?_) | (refine Ops.k_callf 10 ?_; refine Ops.callV hF (Evs.cons rfl (Evs.cons rfl Evs.nil)) rfl ?_) | (refine Ops.k_callf 11 ?_; refine Ops.callV hT (Evs.cons rfl Evs.nil) rfl ?_) | (refine Ops.k_callf 12 ?_; refine Ops.callV hSF (Evs.cons rfl (Evs.cons rfl Evs.nil)) rfl ?_) | (refine Ops.k_callf 13 ?_; refine Ops.callV hDF (Evs.cons rfl (Evs.cons rfl Evs.nil)) rfl ?_) | (refine Ops.k_callf 16 ?_; refine Ops.callV vends_fn Evs.nil rfl ?_)) | fail)
    all_goals (refine Fin.ret Ent.refl (Outs.one rfl rfl) ?_; first | exact rfl | (exfalso; omega) | (exfalso; simp_all))
  · rw [if_pos h1] at hS
    rw [if_pos h2] at hD
    rw [if_neg h3] at hF
    have hFO := kF (by omega)
    clear kS kD kF
    repeat' (first | refine goH ?_ | (refine Ops.k_b_neq ?_; first | (refine Ops.val' rfl (OpV.neq_f rfl rfl (by omega)) ?_)) | (refine Ops.k_b_eql ?_; first | (refine Ops.val' rfl (OpV.eql_t rfl rfl (by omega)) ?_)) | refine goV ?_ | refine goB (fun b => ?_) | refine goG ?_ | (refine Ops.k_guard ?_; first | (refine Ops.guard_dec rfl rfl (fun hc => ?_) (fun hc => ?_) <;> try (exfalso; omega)) | refine Ops.guard_split rfl rfl (fun hc => ?_) (fun hc => ?_)) | refine goI ?_ | (refine Cw.k_cond ?_; first | (refine Cw.cond_dec rfl (fun hc => ?_) (fun hc => ?_) <;> try (exfalso; omega)) | refine Cw.cond_bool rfl (fun hc => ?_) (fun hc => ?_)) | (refine Ops.k_calla ?_; first | (refine Ops.k_callf 8 ?_; refine Ops.callV hS (Evs.cons rfl (Evs.cons rfl Evs.nil)) rfl ?_) | (refine Ops.k_callf 9 ?_; refine Ops.callV hD (Evs.cons rfl (Evs.cons rfl (Evs.cons rfl Evs.nil))) rfl ?_) | (refine Ops.k_callf 10 ?_; refine Ops.callV hF (Evs.cons rfl (Evs.cons rfl Evs.nil)) rfl ?_) | (refine Ops.k_callf 11 ?_; refine Ops.callV hT (Evs.cons rfl Evs.nil) rfl ?_) | (refine Ops.k_callf 12 ?_; refine Ops.callV hSF (Evs.cons rfl (Evs.cons rfl Evs.nil)) rfl ?_) | (refine Ops.k_callf 13 ?_; refine Ops.callV hDF (Evs.cons rfl (Evs.cons rfl Evs.nil)) rfl ?_) | (refine Ops.k_callf 16 ?_; refine Ops.callV vends_fn Evs.nil rfl ?_) | (refine Ops.k_callf 20 ?_; refine Ops.callV hFO (Evs.cons rfl (Evs.cons rfl Evs.nil)) rfl ?_) | (refine Ops.k_callf 19 ?_; refine Ops.callV qF (Evs.cons rfl (Evs.cons rfl Evs.nil)) rfl ?_)) | fail)
    all_goals (refine Fin.ret Ent.refl (Outs.one rfl rfl) ?_; first | exact rfl | (exfalso; omega) | (exfalso; simp_all))
  · rw [if_pos h1] at hS
    rw [if_neg h2] at hD
    rw [if_pos h3] at hF
    have h2' : d1 = 0 := by omega
    have hDO := kD h2'
    rw [h2'] at hDF
    clear kS kD kF
    repeat' (first | refine goH ?_ | (refine Ops.k_b_neq ?_; first | (refine Ops.val' rfl (OpV.neq_f rfl rfl (by omega)) ?_)) | (refine Ops.k_b_eql ?_; first | (refine Ops.val' rfl (OpV.eql_t rfl rfl (by omega)) ?_)) | refine goV ?_ | refine goB (fun b => ?_) | refine goG ?_ | (refine Ops.k_guard ?_; first | (refine Ops.guard_dec rfl rfl (fun hc => ?_) (fun hc => ?_) <;> try (exfalso; omega)) | refine Ops.guard_split rfl rfl (fun hc => ?_) (fun hc => ?_)) | refine goI ?_ | (refine Cw.k_cond ?_; first | (refine Cw.cond_dec rfl (fun hc => ?_) (fun hc => ?_) <;> try (exfalso; omega)) | refine Cw.cond_bool rfl (fun hc => ?_) (fun hc => ?_)) | (refine Ops.k_calla ?_; first | (refine Ops.k_callf 8 ?_; refine Ops.callV hS (Evs.cons rfl (Evs.cons rfl Evs.nil)) rfl ?_) | (refine Ops.k_callf 9 ?_; refine Ops.callV hD (Evs.cons rfl (Evs.cons rfl (Evs.cons rfl Evs.nil))) rfl ?_) | (refine Ops.k_callf 10 ?_; refine Ops.callV hF (Evs.cons rfl (Evs.cons rfl Evs.nil)) rfl ?_) | (refine Ops.k_callf 11 ?_; refine Ops.callV hT (Evs.cons rfl Evs.nil) rfl ?_) | (refine Ops.k_callf 12 ?_; refine Ops.callV hSF (Evs.cons rfl (Evs.cons rfl Evs.nil)) rfl ?_) | (refine Ops.k_callf 13 ?_; refine Ops.callV hDF (Evs.cons rfl (Evs.cons rfl Evs.nil)) rfl ?_) | (refine Ops.k_callf 16 ?_; refine Ops.callV vends_fn Evs.nil rfl ?_) | refine Ops.callV hDO (Evs.cons rfl (Evs.cons rfl (Evs.cons rfl Evs.nil))) rfl ?_ | (refine Ops.k_callf 17 ?_; refine Ops.callV qD (Evs.cons rfl (Evs.cons rfl Evs.nil)) rfl ?_)) | fail)
    all_goals (refine Fin.ret Ent.refl (Outs.one rfl rfl) ?_; first | exact rfl | (exfalso; omega) | (exfalso; simp_all))
  · rw [if_pos h1] at hS
    rw [if_neg h2] at hD
    rw [if_neg h3] at hF
    have h2' : d1 = 0 := by omega
    have hDO := kD h2'
    rw [h2'] at hDF
    have hFO := kF (by omega)
    clear kS kD kF
    repeat' (first | refine goH ?_ | (refine Ops.k_b_neq ?_; first | (refine Ops.val' rfl (OpV.neq_f rfl rfl (by omega)) ?_)) | (refine Ops.k_b_eql ?_; first | (refine Ops.val' rfl (OpV.eql_t rfl rfl (by omega)) ?_)) | refine goV ?_ | refine goB (fun b => ?_) | refine goG ?_ | (refine Ops.k_guard ?_; first | (refine Ops.guard_dec rfl rfl (fun hc => ?_) (fun hc => ?_) <;> try (exfalso; omega)) | refine Ops.guard_split rfl rfl (fun hc => ?_) (fun hc => ?_)) | refine goI ?_ | (refine Cw.k_cond ?_; first | (refine Cw.cond_dec rfl (fun hc => ?_) (fun hc => ?_) <;> try (exfalso; omega)) | refine Cw.cond_bool rfl (fun hc => ?_) (fun hc => ?_)) | (refine Ops.k_calla ?_; first | (refine Ops.k_callf 8 ?_; refine Ops.callV hS (Evs.cons rfl (Evs.cons rfl Evs.nil)) rfl ?_) | (refine Ops.k_callf 9 ?_; refine Ops.callV hD (Evs.cons rfl (Evs.cons rfl (Evs.cons rfl Evs.nil))) rfl ?_) | (refine Ops.k_callf 10 ?_; refine Ops.callV hF (Evs.cons rfl (Evs.cons rfl Evs.nil)) rfl ?_) | (refine Ops.k_callf 11 ?_; refine Ops.callV hT (Evs.cons rfl Evs.nil) rfl ?_) | (refine Ops.k_callf 12 ?_; refine Ops.callV hSF (Evs.cons rfl (Evs.cons rfl Evs.nil)) rfl ?_) | (refine Ops.k_callf 13 ?_; refine Ops.callV hDF (Evs.cons rfl (Evs.cons rfl Evs.nil)) rfl ?_) | (refine Ops.k_callf 16 ?_; refine Ops.callV vends_fn Evs.nil rfl ?_) | refine Ops.callV hDO (Evs.cons rfl (Evs.cons rfl (Evs.cons rfl Evs.nil))) rfl ?_ | (refine Ops.k_callf 17 ?_; refine Ops.callV qD (Evs.cons rfl (Evs.cons rfl Evs.nil)) rfl ?_) | (refine Ops.k_callf 20 ?_; refine Ops.callV hFO (Evs.cons rfl (Evs.cons rfl Evs.nil)) rfl ?_) | (refine Ops.k_callf 19 ?_; refine Ops.callV qF (Evs.cons rfl (Evs.cons rfl Evs.nil)) rfl ?_)) | fail)
    all_goals (refine Fin.ret Ent.refl (Outs.one rfl rfl) ?_; first | exact rfl | (exfalso; omega) | (exfalso; simp_all))
  · rw [if_neg h1] at hS
    rw [if_pos h2] at hD
    rw [if_pos h3] at hF
    have h1' : s1 = 0 := by omega
    have hSO := kS h1'
    rw [h1'] at hSF
    clear kS kD kF
    repeat' (first | refine goH ?_ | (refine Ops.k_b_neq ?_; first | (refine Ops.val' rfl (OpV.neq_f rfl rfl (by omega)) ?_)) | (refine Ops.k_b_eql ?_; first | (refine Ops.val' rfl (OpV.eql_t rfl rfl (by omega)) ?_)) | refine goV ?_ | refine goB (fun b => ?_) | refine goG ?_ | (refine Ops.k_guard ?_; first | (refine Ops.guard_dec rfl rfl (fun hc => ?_) (fun hc => ?_) <;> try (exfalso; omega)) | refine Ops.guard_split rfl rfl (fun hc => ?_) (fun hc => ?_)) | refine goI ?_ | (refine Cw.k_cond ?_; first | (refine Cw.cond_dec rfl (fun hc => ?_) (fun hc => ?_) <;> try (exfalso; omega)) | refine Cw.cond_bool rfl (fun hc => ?_) (fun hc => ?_)) | (refine Ops.k_calla ?_; first | (refine Ops.k_callf 8 ?_; refine Ops.callV hS (Evs.cons rfl (Evs.cons rfl Evs.nil)) rfl ?_) | (refine Ops.k_callf 9 ?_; refine Ops.callV hD (Evs.cons rfl (Evs.cons rfl (Evs.cons rfl Evs.nil))) rfl ?_) | (refine Ops.k_callf 10 ?_; refine Ops.callV hF (Evs.cons rfl (Evs.cons rfl Evs.nil)) rfl ?_) | (refine Ops.k_callf 11 ?_; refine Ops.callV hT (Evs.cons rfl Evs.nil) rfl ?_) | (refine Ops.k_callf 12 ?_; refine Ops.callV hSF (Evs.cons rfl (Evs.cons rfl Evs.nil)) rfl ?_) | (refine Ops.k_callf 13 ?_; refine Ops.callV hDF (Evs.cons rfl (Evs.cons rfl Evs.nil)) rfl ?_) | (refine Ops.k_callf 16 ?_; refine Ops.callV vends_fn Evs.nil rfl ?_) | refine Ops.callV hSO (Evs.cons rfl (Evs.cons rfl Evs.nil)) rfl ?_ | (refine Ops.k_callf 15 ?_; refine Ops.callV qS (Evs.cons rfl (Evs.cons rfl Evs.nil)) rfl ?_)) | fail)
    all_goals (refine Fin.ret Ent.refl (Outs.one rfl rfl) ?_; first | exact rfl | (exfalso; omega) | (exfalso; simp_all))
  · rw [if_neg h1] at hS
    rw [if_pos h2] at hD
    rw [if_neg h3] at hF
    have h1' : s1 = 0 := by omega
    have hSO := kS h1'
    rw [h1'] at hSF
    have hFO := kF (by omega)
    clear kS kD kF
    repeat' (first | refine goH ?_ | (refine Ops.k_b_neq ?_; first | (refine Ops.val' rfl (OpV.neq_f rfl rfl (by omega)) ?_)) | (refine Ops.k_b_eql ?_; first | (refine Ops.val' rfl (OpV.eql_t rfl rfl (by omega)) ?_)) | refine goV ?_ | refine goB (fun b => ?_) | refine goG ?_ | (refine Ops.k_guard ?_; first | (refine Ops.guard_dec rfl rfl (fun hc => ?_) (fun hc => ?_) <;> try (exfalso; omega)) | refine Ops.guard_split rfl rfl (fun hc => ?_) (fun hc => ?_)) | refine goI ?_ | (refine Cw.k_cond ?_; first | (refine Cw.cond_dec rfl (fun hc => ?_) (fun hc => ?_) <;> try (exfalso; omega)) | refine Cw.cond_bool rfl (fun hc => ?_) (fun hc => ?_)) | (refine Ops.k_calla ?_; first | (refine Ops.k_callf 8 ?_; refine Ops.callV hS (Evs.cons rfl (Evs.cons rfl Evs.nil)) rfl ?_) | (refine Ops.k_callf 9 ?_; refine Ops.callV hD (Evs.cons rfl (Evs.cons rfl (Evs.cons rfl Evs.nil))) rfl ?_) | (refine Ops.k_callf 10 ?_; refine Ops.callV hF (Evs.cons rfl (Evs.cons rfl Evs.nil)) rfl ?_) | (refine Ops.k_callf 11 ?_; refine Ops.callV hT (Evs.cons rfl Evs.nil) rfl ?_) | (refine Ops.k_callf 12 ?_; refine Ops.callV hSF (Evs.cons rfl (Evs.cons rfl Evs.nil)) rfl ?_) | (refine Ops.k_callf 13 ?_; refine Ops.callV hDF (Evs.cons rfl (Evs.cons rfl Evs.nil)) rfl ?_) | (refine Ops.k_callf 16 ?_; refine Ops.callV vends_fn Evs.nil rfl ?_) | refine Ops.callV hSO (Evs.cons rfl (Evs.cons rfl Evs.nil)) rfl ?_ | (refine Ops.k_callf 15 ?_; refine Ops.callV qS (Evs.cons rfl (Evs.cons rfl Evs.nil)) rfl ?_) | (refine Ops.k_callf 20 ?_; refine Ops.callV hFO (Evs.cons rfl (Evs.cons rfl Evs.nil)) rfl ?_) | (refine Ops.k_callf 19 ?_; refine Ops.callV qF (Evs.cons rfl (Evs.cons rfl Evs.nil)) rfl ?_)) | fail)
    all_goals (refine Fin.ret Ent.refl (Outs.one rfl rfl) ?_; first | exact rfl | (exfalso; omega) | (exfalso; simp_all))
  · rw [if_neg h1] at hS
    rw [if_neg h2] at hD
    rw [if_pos h3] at hF
    have h1' : s1 = 0 := by omega
    have hSO := kS h1'
    rw [h1'] at hSF
    have h2' : d1 = 0 := by omega
    have hDO := kD h2'
    rw [h2'] at hDF
    clear kS kD kF
    repeat' (first | refine goH ?_ | (refine Ops.k_b_neq ?_; first | (refine Ops.val' rfl (OpV.neq_f rfl rfl (by omega)) ?_)) | (refine Ops.k_b_eql ?_; first | (refine Ops.val' rfl (OpV.eql_t rfl rfl (by omega)) ?_)) | refine goV ?_ | refine goB (fun b => ?_) | refine goG ?_ | (refine Ops.k_guard ?_; first | (refine Ops.guard_dec rfl rfl (fun hc => ?_) (fun hc => ?_) <;> try (exfalso; omega)) | refine Ops.guard_split rfl rfl (fun hc => ?_) (fun hc => ?_)) | refine goI ?_ | (refine Cw.k_cond ?_; first | (refine Cw.cond_dec rfl (fun hc => ?_) (fun hc => ?_) <;> try (exfalso; omega)) | refine Cw.cond_bool rfl (fun hc => ?_) (fun hc => ?_)) | (refine Ops.k_calla ?_; first | (refine Ops.k_callf 8 ?_; refine Ops.callV hS (Evs.cons rfl (Evs.cons rfl Evs.nil)) rfl ?_) | (refine Ops.k_callf 9 ?_; refine Ops.callV hD (Evs.cons rfl (Evs.cons rfl (Evs.cons rfl Evs.nil))) rfl ?_) | (refine Ops.k_callf 10 ?_; refine Ops.callV hF (Evs.cons rfl (Evs.cons rfl Evs.nil)) rfl ?_) | (refine Ops.k_callf 11 ?_; refine Ops.callV hT (Evs.cons rfl Evs.nil) rfl ?_) | (refine Ops.k_callf 12 ?_; refine Ops.callV hSF (Evs.cons rfl (Evs.cons rfl Evs.nil)) rfl ?_) | (refine Ops.k_callf 13 ?_; refine Ops.callV hDF (Evs.cons rfl (Evs.cons rfl Evs.nil)) rfl ?_) | (refine Ops.k_callf 16 ?_; refine Ops.callV vends_fn Evs.nil rfl ?_) | refine Ops.callV hSO (Evs.cons rfl (Evs.cons rfl Evs.nil)) rfl ?_ | (refine Ops.k_callf 15 ?_; refine Ops.callV qS (Evs.cons rfl (Evs.cons rfl Evs.nil)) rfl ?_) | refine Ops.callV hDO (Evs.cons rfl (Evs.cons rfl (Evs.cons rfl Evs.nil))) rfl ?_ | (refine Ops.k_callf 17 ?_; refine Ops.callV qD (Evs.cons rfl (Evs.cons rfl Evs.nil)) rfl ?_)) | fail)
    all_goals (refine Fin.ret Ent.refl (Outs.one rfl rfl) ?_; first | exact rfl | (exfalso; omega) | (exfalso; simp_all))
  · rw [if_neg h1] at hS
    rw [if_neg h2] at hD
    rw [if_neg h3] at hF
    have h1' : s1 = 0 := by omega
    have hSO := kS h1'
    rw [h1'] at hSF
    have h2' : d1 = 0 := by omega
    have hDO := kD h2'
    rw [h2'] at hDF
    have hFO := kF (by omega)
    clear kS kD kF
    repeat' (first | refine goH ?_ | (refine Ops.k_b_neq ?_; first | (refine Ops.val' rfl (OpV.neq_f rfl rfl (by omega)) ?_)) | (refine Ops.k_b_eql ?_; first | (refine Ops.val' rfl (OpV.eql_t rfl rfl (by omega)) ?_)) | refine goV ?_ | refine goB (fun b => ?_) | refine goG ?_ | (refine Ops.k_guard ?_; first | (refine Ops.guard_dec rfl rfl (fun hc => ?_) (fun hc => ?_) <;> try (exfalso; omega)) | refine Ops.guard_split rfl rfl (fun hc => ?_) (fun hc => ?_)) | refine goI ?_ | (refine Cw.k_cond ?_; first | (refine Cw.cond_dec rfl (fun hc => ?_) (fun hc => ?_) <;> try (exfalso; omega)) | refine Cw.cond_bool rfl (fun hc => ?_) (fun hc => ?_)) | (refine Ops.k_calla ?_; first | (refine Ops.k_callf 8 ?_; refine Ops.callV hS (Evs.cons rfl (Evs.cons rfl Evs.nil)) rfl ?_) | (refine Ops.k_callf 9 ?_; refine Ops.callV hD (Evs.cons rfl (Evs.cons rfl (Evs.cons rfl Evs.nil))) rfl ?_) | (refine Ops.k_callf 10 ?_; refine Ops.callV hF (Evs.cons rfl (Evs.cons rfl Evs.nil)) rfl ?_) | (refine Ops.k_callf 11 ?_; refine Ops.callV hT (Evs.cons rfl Evs.nil) rfl ?_) | (refine Ops.k_callf 12 ?_; refine Ops.callV hSF (Evs.cons rfl (Evs.cons rfl Evs.nil)) rfl ?_) | (refine Ops.k_callf 13 ?_; refine Ops.callV hDF (Evs.cons rfl (Evs.cons rfl Evs.nil)) rfl ?_) | (refine Ops.k_callf 16 ?_; refine Ops.callV vends_fn Evs.nil rfl ?_) | refine Ops.callV hSO (Evs.cons rfl (Evs.cons rfl Evs.nil)) rfl ?_ | (refine Ops.k_callf 15 ?_; refine Ops.callV qS (Evs.cons rfl (Evs.cons rfl Evs.nil)) rfl ?_) | refine Ops.callV hDO (Evs.cons rfl (Evs.cons rfl (Evs.cons rfl Evs.nil))) rfl ?_ | (refine Ops.k_callf 17 ?_; refine Ops.callV qD (Evs.cons rfl (Evs.cons rfl Evs.nil)) rfl ?_) | (refine Ops.k_callf 20 ?_; refine Ops.callV hFO (Evs.cons rfl (Evs.cons rfl Evs.nil)) rfl ?_) | (refine Ops.k_callf 19 ?_; refine Ops.callV qF (Evs.cons rfl (Evs.cons rfl Evs.nil)) rfl ?_)) | fail)
    all_goals (refine Fin.ret Ent.refl (Outs.one rfl rfl) ?_; first | exact rfl | (exfalso; omega) | (exfalso; simp_all))
end Lg
end
