/- A part of the proof of a law of this seat: it adds no condition. By an AI agent. -/
import Derived.Test.YtlofkdnjcneeiaaDoorFrame
import Derived.Test.YtlofkdnjcneeiaaDoorSt6
import Derived.Test.YtlofkdnjcneeiaaDoorSt7
section
set_option linter.all false
set_option maxRecDepth 100000
set_option maxHeartbeats 4000000
namespace Lg
open Go Go.Proofs
theorem equalStrs_same (xs : List ByteArray) (h : xs.length ≤ 1000000000) : PFn Tryd.prog 14 [.strs xs, .strs xs] (· = .bool true) := by
  refine PFn.mk (Spec.body Tryd.func14 rfl rfl (Tryd.ntmps14) rfl fun w0 own0 M => ?_)
  have hL := strRows_len xs
  repeat' (first | refine goH ?_ | refine goV ?_ | refine goI ?_ | (refine Cw.k_cond ?_; first | (refine Cw.cond_dec rfl (fun hc => ?_) (fun hc => ?_) <;> try (exfalso; omega)) | refine Cw.cond_bool rfl (fun hc => ?_) (fun hc => ?_)) | refine goR ?_ | refine goP ?_ | apply PSeq.cons | apply PSeq.yes rfl rfl rfl | exact goW | fail)
  refine Cw.loop (ι := Nat) (fun k => k ≤ xs.length) (fun k => [(0, .strs xs), (1, .strs xs), (11, .strs xs), (12, .int (strRows xs).length), (13, .int k)]) (fun _ => []) (fun k => xs.length - k) ⟨0, by omega, (Ent.mk goSub goTk)⟩ ?_
  intro k hk
  by_cases hkl : k < xs.length
  · obtain ⟨d, hd⟩ : ∃ x, xs[k]? = some x := ⟨_, List.getElem?_eq_getElem hkl⟩
    have hrow := strRows_at hd
    repeat' (first | refine goH ?_ | refine goV ?_ | refine goI ?_ | (refine Cw.k_cond ?_; first | (refine Cw.cond_dec rfl (fun hc => ?_) (fun hc => ?_) <;> try (exfalso; omega)) | refine Cw.cond_bool rfl (fun hc => ?_) (fun hc => ?_)) | refine goR ?_ | refine goP ?_ | apply PSeq.cons | apply PSeq.yes rfl rfl rfl | exact goW | fail)
    all_goals first | exact ⟨k + 1, by omega, by omega, (Ent.mk goSub goTk)⟩ | exact absurd rfl hc
  · repeat' (first | refine goH ?_ | refine goV ?_ | refine goI ?_ | (refine Cw.k_cond ?_; first | (refine Cw.cond_dec rfl (fun hc => ?_) (fun hc => ?_) <;> try (exfalso; omega)) | refine Cw.cond_bool rfl (fun hc => ?_) (fun hc => ?_)) | refine goR ?_ | refine goP ?_ | apply PSeq.cons | apply PSeq.yes rfl rfl rfl | exact goW | fail)
    exact Fin.ret Ent.refl (Outs.one rfl rfl) ⟨rfl, rfl⟩
end Lg
end
section
set_option linter.all false
namespace Lg
open Go Go.Proofs

theorem Ops.shut0 {P : Program} {Γ : Ctx} {env : Env} {cs : List Chunk} {Q : Post} {R : Array Oper} {l : List Oper} {ty b : Nat} {cells : List Tr} {rows : List (List Tr)} (h : cells = [Tr.sl 1 rows, Tr.int ((0 : Nat) : Int)]) (k : Ops P Γ R l env (Chunk.strm ty b rows 0 :: cs) Q) : Ops P Γ R l env (Chunk.box b ty cells :: cs) Q := by
  subst h
  exact Ops.ent (Ent.shut_strm (m := 0) (Nat.le_refl 0)) k
end Lg
end
section
set_option linter.all false
set_option maxRecDepth 100000
set_option maxHeartbeats 4000000
namespace Lg
open Go Go.Proofs

/-! ### LayoutsStay: the law -/
theorem stay_eq0 (n : Nat) (p : ByteArray) (r s t : Int) (w : World) : (Op.equalIn (n + 1 + 1) 43 (.agg #[.int .i64 r, .string p, .int .i64 s, .int .i64 t]) (.agg #[.int .i64 r, .string p, .int .i64 s, .int .i64 t])).run Tryd.prog w = .ok true w := by
  have hs : Tryd.prog.stoodInHeld 43 = false := by kernel_rfl
  simp [Op.equalIn, run_underlying Tryd.underlying43, run_underlying Tryd.underlying9, run_underlying Tryd.underlying3, ba_self, hs, part, Go.sizeOf, typeInfo]
theorem stay_eq1 (p : ByteArray) (r s t : Int) (w : World) : (binOp .eql 43 (.agg #[.int .i64 r, .string p, .int .i64 s, .int .i64 t]) (.agg #[.int .i64 r, .string p, .int .i64 s, .int .i64 t])).run Tryd.prog w = .ok (.bool true) w := by
  show (do let r ← Op.equalIn (9998 + 1 + 1) 43 _ _; pure (Value.bool r) : Sem Value).run Tryd.prog w = _
  have := stay_eq0 9998 p r s t w
  generalize Op.equalIn (9998 + 1 + 1) 43 (.agg #[.int .i64 r, .string p, .int .i64 s, .int .i64 t]) (.agg #[.int .i64 r, .string p, .int .i64 s, .int .i64 t]) = s at *
  simp [this]
theorem stay_ne1 (p : ByteArray) (r s t : Int) (w : World) : (binOp .neq 43 (.agg #[.int .i64 r, .string p, .int .i64 s, .int .i64 t]) (.agg #[.int .i64 r, .string p, .int .i64 s, .int .i64 t])).run Tryd.prog w = .ok (.bool false) w := by
  show (do let r ← Op.equalIn (9998 + 1 + 1) 43 _ _; pure (Value.bool !r) : Sem Value).run Tryd.prog w = _
  have := stay_eq0 9998 p r s t w
  generalize Op.equalIn (9998 + 1 + 1) 43 (.agg #[.int .i64 r, .string p, .int .i64 s, .int .i64 t]) (.agg #[.int .i64 r, .string p, .int .i64 s, .int .i64 t]) = s at *
  simp [this]
section
variable {Γ : Ctx} {env : Env} {cs : List Chunk} {x y : Operand} {T2 ty : TypeId}
theorem OpV.stay_t {p : ByteArray} {r s t : Int} (hx : ev env x = some (.agg ([.int .i64 r, .string p, .int .i64 s, .int .i64 t].map Tr.raw))) (hy : ev env y = some (.agg ([.int .i64 r, .string p, .int .i64 s, .int .i64 t].map Tr.raw))) : OpV Tryd.prog Γ (.binOp .eql 43 x y T2) ty env cs (.bool true) := by
  unfold OpV
  intro ac w d
  have h1 := agg_raw (l := [.int .i64 r, .string p, .int .i64 s, .int .i64 t]) (d.ev hx)
  have h2 := agg_raw (l := [.int .i64 r, .string p, .int .i64 s, .int .i64 t]) (d.ev hy)
  have h3 := stay_eq1 p r s t w
  have h4 : (eqGuard .eql 43 x y (.agg #[.int .i64 r, .string p, .int .i64 s, .int .i64 t]) (.agg #[.int .i64 r, .string p, .int .i64 s, .int .i64 t])).run Tryd.prog w = .ok () w := by simp [eqGuard]
  exact ⟨.bool true, by simp [execOp, h1, h2, h3, h4], by unfold Tr.bool Tr.raw; rfl⟩
theorem OpV.stay_ne_f {p : ByteArray} {r s t : Int} (hx : ev env x = some (.agg ([.int .i64 r, .string p, .int .i64 s, .int .i64 t].map Tr.raw))) (hy : ev env y = some (.agg ([.int .i64 r, .string p, .int .i64 s, .int .i64 t].map Tr.raw))) : OpV Tryd.prog Γ (.binOp .neq 43 x y T2) ty env cs (.bool false) := by
  unfold OpV
  intro ac w d
  have h1 := agg_raw (l := [.int .i64 r, .string p, .int .i64 s, .int .i64 t]) (d.ev hx)
  have h2 := agg_raw (l := [.int .i64 r, .string p, .int .i64 s, .int .i64 t]) (d.ev hy)
  have h3 := stay_ne1 p r s t w
  have h4 : (eqGuard .neq 43 x y (.agg #[.int .i64 r, .string p, .int .i64 s, .int .i64 t]) (.agg #[.int .i64 r, .string p, .int .i64 s, .int .i64 t])).run Tryd.prog w = .ok () w := by simp [eqGuard]
  exact ⟨.bool false, by simp [execOp, h1, h2, h3, h4], by unfold Tr.bool Tr.raw; rfl⟩
end
theorem equal_stay (xs : List Sty) (h : xs.length ≤ 1000000000) : PFn Tryd.prog 15 [.sl 4 (xs.map Sty.row), .sl 4 (xs.map Sty.row)] (· = .bool true) := by
  refine PFn.mk (Spec.body Tryd.func15 rfl rfl (Tryd.ntmps15) rfl fun w0 own0 M => ?_)
  have hL : (xs.map Sty.row).length = xs.length := List.length_map _
  repeat' (first | refine goH ?_ | refine goV ?_ | refine goI ?_ | (refine Cw.k_cond ?_; first | (refine Cw.cond_dec rfl (fun hc => ?_) (fun hc => ?_) <;> try (exfalso; omega)) | refine Cw.cond_bool rfl (fun hc => ?_) (fun hc => ?_)) | refine goR ?_ | refine goP ?_ | apply PSeq.cons | apply PSeq.yes rfl rfl rfl | exact goW | fail)
  refine Cw.loop (ι := Nat) (fun k => k ≤ xs.length) (fun k => [(0, .sl 4 (xs.map Sty.row)), (1, .sl 4 (xs.map Sty.row)), (11, .sl 4 (xs.map Sty.row)), (12, .int (xs.map Sty.row).length), (13, .int k)]) (fun _ => []) (fun k => xs.length - k) ⟨0, by omega, (Ent.mk goSub goTk)⟩ ?_
  intro k hk
  by_cases hkl : k < xs.length
  · obtain ⟨d, hd⟩ : ∃ x, xs[k]? = some x := ⟨_, List.getElem?_eq_getElem hkl⟩
    have hrow : (xs.map Sty.row)[k]? = some [.int d.s, .str d.p, .int d.f, .int d.t] := rows_at hd
    repeat' (first | refine goH ?_ | refine goV ?_ | refine goI ?_ | (refine Cw.k_cond ?_; first | (refine Cw.cond_dec rfl (fun hc => ?_) (fun hc => ?_) <;> try (exfalso; omega)) | refine Cw.cond_bool rfl (fun hc => ?_) (fun hc => ?_)) | (apply OpV.w; apply OpV.stay_ne_f; exact rfl; exact rfl) | refine goR ?_ | refine goP ?_ | apply PSeq.cons | apply PSeq.yes rfl rfl rfl | exact goW | fail)
    exact ⟨k + 1, by omega, by omega, (Ent.mk goSub goTk)⟩
  · repeat' (first | refine goH ?_ | refine goV ?_ | refine goI ?_ | (refine Cw.k_cond ?_; first | (refine Cw.cond_dec rfl (fun hc => ?_) (fun hc => ?_) <;> try (exfalso; omega)) | refine Cw.cond_bool rfl (fun hc => ?_) (fun hc => ?_)) | refine goR ?_ | refine goP ?_ | apply PSeq.cons | apply PSeq.yes rfl rfl rfl | exact goW | fail)
    exact Fin.ret Ent.refl (Outs.one rfl rfl) ⟨rfl, rfl⟩

theorem itF_len {σ : Type} (m : σ → Nat) {c : Nat} {f : Nat → σ → σ} (h : ∀ k s, m (f k s) ≤ m s + c) : ∀ (n k : Nat) (s : σ), m (itF f k n s) ≤ m s + c * n
  | 0, k, s => by rw [itF]; omega
  | n + 1, k, s => by
    rw [itF]
    have h1 := itF_len m h n (k + 1) (f k s)
    have h2 := h k s
    rw [Nat.mul_succ]
    omega
theorem verK_len (l : List Ver) (i : Nat) (f t : Int) (k : Nat) (st : VS) : (verK l i f t k st).1.length ≤ st.1.length + 1 := by
  unfold verK
  split
  · omega
  · split
    · omega
    · unfold verW
      split
      · simp
      · exact keptF_len _ _
theorem slotV_len (l : List Ver) (i : Nat) (f t : Int) (out : List Sty) : (slotV l i f t out).length ≤ out.length + (l.length + 1) := by
  unfold slotV
  have h1 := keptF_len (itF (verK l i f t) 0 l.length (out, ⟨-1, eS, 0, 0⟩)).1 (itF (verK l i f t) 0 l.length (out, ⟨-1, eS, 0, 0⟩)).2
  have h2 := itF_len (fun st : VS => st.1.length) (c := 1) (fun k s => verK_len l i f t k s) l.length 0 (out, ⟨-1, eS, 0, 0⟩)
  simp only at h2
  omega
theorem stV_len (l : List Ver) (f t : Int) : (stV l f t).length ≤ (l.length + 1) * len0 l := by
  unfold stV
  have := itF_len (fun o : List Sty => o.length) (c := l.length + 1) (f := fun i out => slotV l i f t out) (fun k s => slotV_len l k f t s) (len0 l) 0 []
  simpa using this
theorem ris_ok {l : List Ver} (h : versE l = 0) : risV l := by
  refine ris_of fun k x y hx hy => ?_
  have hlt := (List.getElem?_eq_some_iff.1 hy).1
  unfold versE at h
  split at h
  · omega
  · have := firstE_zero h (k + 1) (by omega) (by omega)
    unfold verE at this
    rw [hy] at this
    simp only [prevB, hx] at this
    split at this
    · omega
    · split at this
      · omega
      · rename_i h2
        have h3 : ¬ y.f ≤ x.f := by simpa using h2
        omega
theorem itF_congr {σ : Type} {f g : Nat → σ → σ} (h : ∀ k s, f k s = g k s) : ∀ (n k : Nat) (s : σ), itF f k n s = itF g k n s
  | 0, k, s => rfl
  | n + 1, k, s => by rw [itF, itF, h, itF_congr h n]
theorem st_eq {l : List Ver} {f t : Int} (h : versE l = 0) (hft : f ≤ t) : stD l f t = stV l f t := by
  unfold stD stV
  exact itF_congr (fun k s => slot_eq (ris_ok h) hft s) _ _ _
theorem layoutsStay_law (xs : List Int) : Spec Tryd.prog 3 [Tr.ints xs] [] (fun r _ => r = Tr.bool true) := by
  refine Spec.body Tryd.func3 rfl rfl (Tryd.ntmps3) rfl fun w0 own0 M => ?_
  repeat' (first | refine goH ?_ | refine goV ?_ | refine goB (fun b => ?_) | refine goG ?_ | (refine Ops.k_guard ?_; first | (refine Ops.guard_dec rfl rfl (fun hc => ?_) (fun hc => ?_) <;> try (exfalso; omega)) | refine Ops.guard_split rfl rfl (fun hc => ?_) (fun hc => ?_)) | refine goI ?_ | (refine Cw.k_cond ?_; first | (refine Cw.cond_dec rfl (fun hc => ?_) (fun hc => ?_) <;> try (exfalso; omega)) | refine Cw.cond_bool rfl (fun hc => ?_) (fun hc => ?_)) | refine Ops.shut0 (ty := 25) rfl ?_ | (refine Ops.k_calla ?_; first | (refine Ops.k_callf 4 ?_; (refine Ops.callG versions_gen (Evs.cons rfl Evs.nil) goPk (by omega) rfl ?_; rintro r ⟨l, rfl, hl, hx⟩)) | (refine Ops.k_callf 5 ?_; (refine Ops.callG day_gen (Evs.cons rfl Evs.nil) goPk (by omega) rfl ?_; rintro r ⟨day, rfl, hd⟩)) | (refine Ops.k_callf 6 ?_; (refine Ops.callG (pick_gen (by repeat' (first | exact IsInts.nil | apply IsInts.cons)) (by simp)) (Evs.cons rfl (Evs.cons rfl Evs.nil)) goPk (by omega) rfl ?_; rintro r ⟨m, rfl, hm⟩; clear hm))) | fail)
  rename_i f
  rename Int => t
  have hx2 : ∀ v ∈ l, v.x.length ≤ 1000000 := fun v hv => by have := hx v hv; omega
  have k1 := checkVers_fn l (by omega) hx2
  have k2 := versFault_fn l (by omega) hx2
  have kD := dayFault_fn [day] (by simp)
  have kS0 := shelves_fn
  by_cases h0 : versE l ≠ 0
  · have kA := atE_fn l (by omega) hx2 day (.inl h0)
    have hs : stE l f t = versE l := by unfold stE; rw [if_pos h0]
    have kT := staysE_fn l (by omega) hx2 f t (by rw [hs]; exact h0)
    rw [if_pos h0] at kA
    rw [hs] at kT
    clear hs
    generalize versE l = ve at *
    repeat' (first | refine goH ?_ | (refine Ops.k_b_eql ?_; first | (refine Ops.val' rfl (OpV.eql_t rfl rfl (by omega)) ?_) | (refine Ops.val' rfl (OpV.eql_f rfl rfl (by omega)) ?_)) | (refine Ops.k_b_neq ?_; first | (refine Ops.val' rfl (OpV.neq_f rfl rfl (by omega)) ?_) | (refine Ops.val' rfl (OpV.neq_t rfl rfl (by omega)) ?_)) | refine goV ?_ | refine goB (fun b => ?_) | refine goG ?_ | (refine Ops.k_guard ?_; first | (refine Ops.guard_dec rfl rfl (fun hc => ?_) (fun hc => ?_) <;> try (exfalso; omega)) | refine Ops.guard_split rfl rfl (fun hc => ?_) (fun hc => ?_)) | refine goI ?_ | (refine Cw.k_cond ?_; first | (refine Cw.cond_dec rfl (fun hc => ?_) (fun hc => ?_) <;> try (exfalso; omega)) | refine Cw.cond_bool rfl (fun hc => ?_) (fun hc => ?_)) | (refine Ops.k_calla ?_; first | (refine Ops.k_callf 8 ?_; refine Ops.callV k1 (Evs.cons rfl Evs.nil) rfl ?_) | (refine Ops.k_callf 7 ?_; refine Ops.callV k2 (Evs.cons rfl Evs.nil) rfl ?_) | (refine Ops.k_callf 12 ?_; refine Ops.callV kD (Evs.cons rfl Evs.nil) rfl ?_) | (refine Ops.k_callf 9 ?_; refine Ops.callV kA (Evs.cons rfl (Evs.cons rfl Evs.nil)) rfl ?_) | (refine Ops.k_callf 10 ?_; refine Ops.callV kT (Evs.cons rfl (Evs.cons rfl (Evs.cons rfl Evs.nil))) rfl ?_) | refine Ops.callV kL (Evs.cons rfl (Evs.cons rfl Evs.nil)) rfl ?_ | (refine Ops.k_callf 11 ?_; refine Ops.callV kS0 Evs.nil rfl ?_)) | fail)
    all_goals first | (exfalso; omega) | (refine Fin.ret Ent.refl (Outs.one rfl rfl) ?_; exact rfl)
  have hv : versE l = 0 := by omega
  rw [hv] at k1 k2
  have hvl := versE_len hv
  have kL := layoutAt_fn l (by omega) hx2 day
  have hst : stE l f t = if f < 0 ∨ t < f ∨ 4001 < t then 1 else 0 := by unfold stE; rw [if_neg h0]
  have hW : len0 l ≤ 100 := by
    unfold len0
    split
    · omega
    · rename_i z hz
      have := hx z (List.mem_of_getElem? hz)
      omega
  cases hdy : dayB day
  · have kA := atE_fn l (by omega) hx2 day (.inr hdy)
    rw [if_neg h0] at kA
    rw [show [day].any (fun n => !dayB n) = true by simp [hdy]] at kD
    by_cases hb : f < 0 ∨ t < f ∨ 4001 < t
    · rw [if_pos hb] at hst
      have kT := staysE_fn l (by omega) hx2 f t (by rw [hst]; decide)
      rw [hst] at kT
      clear hst h0
      repeat' (first | refine goH ?_ | (refine Ops.k_b_eql ?_; first | (refine Ops.val' rfl (OpV.eql_t rfl rfl (by omega)) ?_) | (refine Ops.val' rfl (OpV.eql_f rfl rfl (by omega)) ?_)) | (refine Ops.k_b_neq ?_; first | (refine Ops.val' rfl (OpV.neq_f rfl rfl (by omega)) ?_) | (refine Ops.val' rfl (OpV.neq_t rfl rfl (by omega)) ?_)) | refine goV ?_ | refine goB (fun b => ?_) | refine goG ?_ | (refine Ops.k_guard ?_; first | (refine Ops.guard_dec rfl rfl (fun hc => ?_) (fun hc => ?_) <;> try (exfalso; omega)) | refine Ops.guard_split rfl rfl (fun hc => ?_) (fun hc => ?_)) | refine goI ?_ | (refine Cw.k_cond ?_; first | (refine Cw.cond_dec rfl (fun hc => ?_) (fun hc => ?_) <;> try (exfalso; omega)) | refine Cw.cond_bool rfl (fun hc => ?_) (fun hc => ?_)) | (refine Ops.k_calla ?_; first | (refine Ops.k_callf 8 ?_; refine Ops.callV k1 (Evs.cons rfl Evs.nil) rfl ?_) | (refine Ops.k_callf 7 ?_; refine Ops.callV k2 (Evs.cons rfl Evs.nil) rfl ?_) | (refine Ops.k_callf 12 ?_; refine Ops.callV kD (Evs.cons rfl Evs.nil) rfl ?_) | (refine Ops.k_callf 9 ?_; refine Ops.callV kA (Evs.cons rfl (Evs.cons rfl Evs.nil)) rfl ?_) | (refine Ops.k_callf 10 ?_; refine Ops.callV kT (Evs.cons rfl (Evs.cons rfl (Evs.cons rfl Evs.nil))) rfl ?_) | (refine Ops.k_callf 13 ?_; refine Ops.callV kL (Evs.cons rfl (Evs.cons rfl Evs.nil)) rfl ?_) | (refine Ops.k_callf 11 ?_; refine Ops.callV kS0 Evs.nil rfl ?_)) | fail)
      all_goals first | (exfalso; omega) | (refine Fin.ret Ent.refl (Outs.one rfl rfl) ?_; exact rfl)
    · rw [if_neg hb] at hst
      have kT := stays_fn l f t hst
      have kO := staysOf_fn l (by omega) (fun v hv => (hvl.2 v hv).2.2) f t (by omega) (by omega) (by omega)
      rw [st_eq hv (by omega)] at kO
      have hsl := stV_len l f t
      have hsb : (stV l f t).length ≤ 1000000000 := by
        have h1 : (l.length + 1) * len0 l ≤ 10 * 100 := Nat.mul_le_mul (by omega) hW
        omega
      have kE := equal_stay (stV l f t) hsb
      generalize stV l f t = S at *
      clear hst h0
      repeat' (first | refine goH ?_ | (refine Ops.k_b_eql ?_; first | (refine Ops.val' rfl (OpV.eql_t rfl rfl (by omega)) ?_) | (refine Ops.val' rfl (OpV.eql_f rfl rfl (by omega)) ?_)) | (refine Ops.k_b_neq ?_; first | (refine Ops.val' rfl (OpV.neq_f rfl rfl (by omega)) ?_) | (refine Ops.val' rfl (OpV.neq_t rfl rfl (by omega)) ?_)) | refine goV ?_ | refine goB (fun b => ?_) | refine goG ?_ | (refine Ops.k_guard ?_; first | (refine Ops.guard_dec rfl rfl (fun hc => ?_) (fun hc => ?_) <;> try (exfalso; omega)) | refine Ops.guard_split rfl rfl (fun hc => ?_) (fun hc => ?_)) | refine goI ?_ | (refine Cw.k_cond ?_; first | (refine Cw.cond_dec rfl (fun hc => ?_) (fun hc => ?_) <;> try (exfalso; omega)) | refine Cw.cond_bool rfl (fun hc => ?_) (fun hc => ?_)) | (refine Ops.k_calla ?_; first | (refine Ops.k_callf 8 ?_; refine Ops.callV k1 (Evs.cons rfl Evs.nil) rfl ?_) | (refine Ops.k_callf 7 ?_; refine Ops.callV k2 (Evs.cons rfl Evs.nil) rfl ?_) | (refine Ops.k_callf 12 ?_; refine Ops.callV kD (Evs.cons rfl Evs.nil) rfl ?_) | (refine Ops.k_callf 9 ?_; refine Ops.callV kA (Evs.cons rfl (Evs.cons rfl Evs.nil)) rfl ?_) | (refine Ops.k_callf 10 ?_; refine Ops.callV kT (Evs.cons rfl (Evs.cons rfl (Evs.cons rfl Evs.nil))) rfl ?_) | (refine Ops.k_callf 13 ?_; refine Ops.callV kL (Evs.cons rfl (Evs.cons rfl Evs.nil)) rfl ?_) | (refine Ops.k_callf 11 ?_; refine Ops.callV kS0 Evs.nil rfl ?_) | (refine Ops.k_callf 16 ?_; refine Ops.callV kO (Evs.cons rfl (Evs.cons rfl (Evs.cons rfl Evs.nil))) rfl ?_) | (refine Ops.k_callf 15 ?_; refine Ops.callV kE (Evs.cons rfl (Evs.cons rfl Evs.nil)) rfl ?_)) | fail)
      all_goals first | (exfalso; omega) | (refine Fin.ret Ent.refl (Outs.one rfl rfl) ?_; exact rfl)
  · have kA := at_fn l day hv hdy
    rw [show [day].any (fun n => !dayB n) = false by simp [hdy]] at kD
    unfold atR at kL
    have hax : (atX l day).length ≤ 1000000 := by
      unfold atX
      split
      · simp
      · rename_i v hat
        exact hx2 v (atN_mem hat)
    have kQ := equalStrs_same (atX l day) (by omega)
    generalize atX l day = ax at *
    cases hat : atN l day l.length with
    | none =>
      rw [hat] at kA kL
      simp only at kA kL
      by_cases hb : f < 0 ∨ t < f ∨ 4001 < t
      · rw [if_pos hb] at hst
        have kT := staysE_fn l (by omega) hx2 f t (by rw [hst]; decide)
        rw [hst] at kT
        clear hst h0
        repeat' (first | refine goH ?_ | (refine Ops.k_b_eql ?_; first | (refine Ops.val' rfl (OpV.eql_t rfl rfl (by omega)) ?_) | (refine Ops.val' rfl (OpV.eql_f rfl rfl (by omega)) ?_)) | (refine Ops.k_b_neq ?_; first | (refine Ops.val' rfl (OpV.neq_f rfl rfl (by omega)) ?_) | (refine Ops.val' rfl (OpV.neq_t rfl rfl (by omega)) ?_)) | refine goV ?_ | refine goB (fun b => ?_) | refine goG ?_ | (refine Ops.k_guard ?_; first | (refine Ops.guard_dec rfl rfl (fun hc => ?_) (fun hc => ?_) <;> try (exfalso; omega)) | refine Ops.guard_split rfl rfl (fun hc => ?_) (fun hc => ?_)) | refine goI ?_ | (refine Cw.k_cond ?_; first | (refine Cw.cond_dec rfl (fun hc => ?_) (fun hc => ?_) <;> try (exfalso; omega)) | refine Cw.cond_bool rfl (fun hc => ?_) (fun hc => ?_)) | (refine Ops.k_calla ?_; first | (refine Ops.k_callf 8 ?_; refine Ops.callV k1 (Evs.cons rfl Evs.nil) rfl ?_) | (refine Ops.k_callf 7 ?_; refine Ops.callV k2 (Evs.cons rfl Evs.nil) rfl ?_) | (refine Ops.k_callf 12 ?_; refine Ops.callV kD (Evs.cons rfl Evs.nil) rfl ?_) | (refine Ops.k_callf 9 ?_; refine Ops.callV kA (Evs.cons rfl (Evs.cons rfl Evs.nil)) rfl ?_) | (refine Ops.k_callf 10 ?_; refine Ops.callV kT (Evs.cons rfl (Evs.cons rfl (Evs.cons rfl Evs.nil))) rfl ?_) | (refine Ops.k_callf 13 ?_; refine Ops.callV kL (Evs.cons rfl (Evs.cons rfl Evs.nil)) rfl ?_) | (refine Ops.k_callf 11 ?_; refine Ops.callV kS0 Evs.nil rfl ?_) | (refine Ops.k_callf 14 ?_; refine Ops.callV kQ (Evs.cons rfl (Evs.cons rfl Evs.nil)) rfl ?_)) | fail)
        all_goals first | (exfalso; omega) | (refine Fin.ret Ent.refl (Outs.one rfl rfl) ?_; exact rfl)
      · rw [if_neg hb] at hst
        have kT := stays_fn l f t hst
        have kO := staysOf_fn l (by omega) (fun v hv => (hvl.2 v hv).2.2) f t (by omega) (by omega) (by omega)
        rw [st_eq hv (by omega)] at kO
        have hsl := stV_len l f t
        have hsb : (stV l f t).length ≤ 1000000000 := by
          have h1 : (l.length + 1) * len0 l ≤ 10 * 100 := Nat.mul_le_mul (by omega) hW
          omega
        have kE := equal_stay (stV l f t) hsb
        generalize stV l f t = S at *
        clear hst h0
        repeat' (first | refine goH ?_ | (refine Ops.k_b_eql ?_; first | (refine Ops.val' rfl (OpV.eql_t rfl rfl (by omega)) ?_) | (refine Ops.val' rfl (OpV.eql_f rfl rfl (by omega)) ?_)) | (refine Ops.k_b_neq ?_; first | (refine Ops.val' rfl (OpV.neq_f rfl rfl (by omega)) ?_) | (refine Ops.val' rfl (OpV.neq_t rfl rfl (by omega)) ?_)) | refine goV ?_ | refine goB (fun b => ?_) | refine goG ?_ | (refine Ops.k_guard ?_; first | (refine Ops.guard_dec rfl rfl (fun hc => ?_) (fun hc => ?_) <;> try (exfalso; omega)) | refine Ops.guard_split rfl rfl (fun hc => ?_) (fun hc => ?_)) | refine goI ?_ | (refine Cw.k_cond ?_; first | (refine Cw.cond_dec rfl (fun hc => ?_) (fun hc => ?_) <;> try (exfalso; omega)) | refine Cw.cond_bool rfl (fun hc => ?_) (fun hc => ?_)) | (refine Ops.k_calla ?_; first | (refine Ops.k_callf 8 ?_; refine Ops.callV k1 (Evs.cons rfl Evs.nil) rfl ?_) | (refine Ops.k_callf 7 ?_; refine Ops.callV k2 (Evs.cons rfl Evs.nil) rfl ?_) | (refine Ops.k_callf 12 ?_; refine Ops.callV kD (Evs.cons rfl Evs.nil) rfl ?_) | (refine Ops.k_callf 9 ?_; refine Ops.callV kA (Evs.cons rfl (Evs.cons rfl Evs.nil)) rfl ?_) | (refine Ops.k_callf 10 ?_; refine Ops.callV kT (Evs.cons rfl (Evs.cons rfl (Evs.cons rfl Evs.nil))) rfl ?_) | (refine Ops.k_callf 13 ?_; refine Ops.callV kL (Evs.cons rfl (Evs.cons rfl Evs.nil)) rfl ?_) | (refine Ops.k_callf 11 ?_; refine Ops.callV kS0 Evs.nil rfl ?_) | (refine Ops.k_callf 14 ?_; refine Ops.callV kQ (Evs.cons rfl (Evs.cons rfl Evs.nil)) rfl ?_) | (refine Ops.k_callf 16 ?_; refine Ops.callV kO (Evs.cons rfl (Evs.cons rfl (Evs.cons rfl Evs.nil))) rfl ?_) | (refine Ops.k_callf 15 ?_; refine Ops.callV kE (Evs.cons rfl (Evs.cons rfl Evs.nil)) rfl ?_)) | fail)
        all_goals first | (exfalso; omega) | (refine Fin.ret Ent.refl (Outs.one rfl rfl) ?_; exact rfl)
    | some v =>
      rw [hat] at kA kL
      simp only at kA kL
      by_cases hb : f < 0 ∨ t < f ∨ 4001 < t
      · rw [if_pos hb] at hst
        have kT := staysE_fn l (by omega) hx2 f t (by rw [hst]; decide)
        rw [hst] at kT
        clear hst h0
        repeat' (first | refine goH ?_ | (refine Ops.k_b_eql ?_; first | (refine Ops.val' rfl (OpV.eql_t rfl rfl (by omega)) ?_) | (refine Ops.val' rfl (OpV.eql_f rfl rfl (by omega)) ?_)) | (refine Ops.k_b_neq ?_; first | (refine Ops.val' rfl (OpV.neq_f rfl rfl (by omega)) ?_) | (refine Ops.val' rfl (OpV.neq_t rfl rfl (by omega)) ?_)) | refine goV ?_ | refine goB (fun b => ?_) | refine goG ?_ | (refine Ops.k_guard ?_; first | (refine Ops.guard_dec rfl rfl (fun hc => ?_) (fun hc => ?_) <;> try (exfalso; omega)) | refine Ops.guard_split rfl rfl (fun hc => ?_) (fun hc => ?_)) | refine goI ?_ | (refine Cw.k_cond ?_; first | (refine Cw.cond_dec rfl (fun hc => ?_) (fun hc => ?_) <;> try (exfalso; omega)) | refine Cw.cond_bool rfl (fun hc => ?_) (fun hc => ?_)) | (refine Ops.k_calla ?_; first | (refine Ops.k_callf 8 ?_; refine Ops.callV k1 (Evs.cons rfl Evs.nil) rfl ?_) | (refine Ops.k_callf 7 ?_; refine Ops.callV k2 (Evs.cons rfl Evs.nil) rfl ?_) | (refine Ops.k_callf 12 ?_; refine Ops.callV kD (Evs.cons rfl Evs.nil) rfl ?_) | (refine Ops.k_callf 9 ?_; refine Ops.callV kA (Evs.cons rfl (Evs.cons rfl Evs.nil)) rfl ?_) | (refine Ops.k_callf 10 ?_; refine Ops.callV kT (Evs.cons rfl (Evs.cons rfl (Evs.cons rfl Evs.nil))) rfl ?_) | (refine Ops.k_callf 13 ?_; refine Ops.callV kL (Evs.cons rfl (Evs.cons rfl Evs.nil)) rfl ?_) | (refine Ops.k_callf 11 ?_; refine Ops.callV kS0 Evs.nil rfl ?_) | (refine Ops.k_callf 14 ?_; refine Ops.callV kQ (Evs.cons rfl (Evs.cons rfl Evs.nil)) rfl ?_)) | fail)
        all_goals first | (exfalso; omega) | (refine Fin.ret Ent.refl (Outs.one rfl rfl) ?_; exact rfl)
      · rw [if_neg hb] at hst
        have kT := stays_fn l f t hst
        have kO := staysOf_fn l (by omega) (fun v hv => (hvl.2 v hv).2.2) f t (by omega) (by omega) (by omega)
        rw [st_eq hv (by omega)] at kO
        have hsl := stV_len l f t
        have hsb : (stV l f t).length ≤ 1000000000 := by
          have h1 : (l.length + 1) * len0 l ≤ 10 * 100 := Nat.mul_le_mul (by omega) hW
          omega
        have kE := equal_stay (stV l f t) hsb
        generalize stV l f t = S at *
        clear hst h0
        repeat' (first | refine goH ?_ | (refine Ops.k_b_eql ?_; first | (refine Ops.val' rfl (OpV.eql_t rfl rfl (by omega)) ?_) | (refine Ops.val' rfl (OpV.eql_f rfl rfl (by omega)) ?_)) | (refine Ops.k_b_neq ?_; first | (refine Ops.val' rfl (OpV.neq_f rfl rfl (by omega)) ?_) | (refine Ops.val' rfl (OpV.neq_t rfl rfl (by omega)) ?_)) | refine goV ?_ | refine goB (fun b => ?_) | refine goG ?_ | (refine Ops.k_guard ?_; first | (refine Ops.guard_dec rfl rfl (fun hc => ?_) (fun hc => ?_) <;> try (exfalso; omega)) | refine Ops.guard_split rfl rfl (fun hc => ?_) (fun hc => ?_)) | refine goI ?_ | (refine Cw.k_cond ?_; first | (refine Cw.cond_dec rfl (fun hc => ?_) (fun hc => ?_) <;> try (exfalso; omega)) | refine Cw.cond_bool rfl (fun hc => ?_) (fun hc => ?_)) | (refine Ops.k_calla ?_; first | (refine Ops.k_callf 8 ?_; refine Ops.callV k1 (Evs.cons rfl Evs.nil) rfl ?_) | (refine Ops.k_callf 7 ?_; refine Ops.callV k2 (Evs.cons rfl Evs.nil) rfl ?_) | (refine Ops.k_callf 12 ?_; refine Ops.callV kD (Evs.cons rfl Evs.nil) rfl ?_) | (refine Ops.k_callf 9 ?_; refine Ops.callV kA (Evs.cons rfl (Evs.cons rfl Evs.nil)) rfl ?_) | (refine Ops.k_callf 10 ?_; refine Ops.callV kT (Evs.cons rfl (Evs.cons rfl (Evs.cons rfl Evs.nil))) rfl ?_) | (refine Ops.k_callf 13 ?_; refine Ops.callV kL (Evs.cons rfl (Evs.cons rfl Evs.nil)) rfl ?_) | (refine Ops.k_callf 11 ?_; refine Ops.callV kS0 Evs.nil rfl ?_) | (refine Ops.k_callf 14 ?_; refine Ops.callV kQ (Evs.cons rfl (Evs.cons rfl Evs.nil)) rfl ?_) | (refine Ops.k_callf 16 ?_; refine Ops.callV kO (Evs.cons rfl (Evs.cons rfl (Evs.cons rfl Evs.nil))) rfl ?_) | (refine Ops.k_callf 15 ?_; refine Ops.callV kE (Evs.cons rfl (Evs.cons rfl Evs.nil)) rfl ?_)) | fail)
        all_goals first | (exfalso; omega) | (refine Fin.ret Ent.refl (Outs.one rfl rfl) ?_; exact rfl)
end Lg
end
