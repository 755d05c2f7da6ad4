/- A part of the proof of a law of this seat: it adds no condition. By an AI agent. -/
import Derived.Test.YtkmelphaecmfmaaGreatRd15
set_option linter.all false
set_option maxRecDepth 100000
set_option maxHeartbeats 8000000
namespace Lg
open Go Go.Proofs
section appo
variable {P : Program} {Γ : Ctx} {env env' : Env} {cs cs' cf : List Chunk} {Q : Post} {R : Array Oper}
variable {i : Tmp} {ty : TypeId} {pos : String} {af : Array Edge} {rest : List Oper} {x y : Operand} {T T2 : TypeId}
/-- an owned slice is put behind another one, and stays -/
theorem Ops.append_own {E kk bb z} [hS : TySl P T E kk bb z] {ad ad2 : Option Addr} {n cap n2 cap2 : Nat} {rows rows2 : List (List Tr)} (hx : ev env x = some (.raw (.slice ad n cap))) (hy : ev env y = some (.raw (.slice ad2 n2 cap2)))
    (hp : cs.Perm (Chunk.own ad cap kk E rows :: Chunk.own ad2 cap2 kk E rows2 :: cf)) (hn : n = rows.length) (hn2 : n2 = rows2.length) (hb : (rows.length + rows2.length) * bb ≤ 140737488355328) (hm : rows.length + rows2.length ≤ 9223372036854775807) (hi : Nat.blt i Γ.n = true)
    (kont : ∀ ad' cap', Ops P Γ R rest ((i, .raw (.slice ad' (rows ++ rows2).length cap')) :: env) (Chunk.own ad' cap' kk E (rows ++ rows2) :: Chunk.own ad2 cap2 kk E rows2 :: cf) Q) :
    Ops P Γ R (⟨some i, .call ⟨.builtin .append, #[x, y], #[T, T]⟩, ty, pos, af, none⟩ :: rest) env cs Q :=
  Ops.of fun a w d => by
    subst hn
    subst hn2
    have hv := rd_raw (d.ev hx)
    have hv2 := rd_raw (d.ev hy)
    have d' := d.perm hp
    have hh := d'.has (List.Perm.refl _)
    have hh2 := d'.has (List.Perm.swap _ _ _)
    generalize hA : av Γ.M (Chunk.own ad cap kk E rows :: Chunk.own ad2 cap2 kk E rows2 :: cf) = A at hh hh2
    unfold Chunk.own at hh hh2
    obtain ⟨hk, xs, hown, hrd⟩ := hh
    obtain ⟨hk2, xs2, hown2, hrd2⟩ := hh2
    subst hA
    obtain ⟨ti, zv, hi1, hi2, hi3, hi4, hi5, hi6⟩ := hS.hE
    have hzs : zv.cells.size = kk := hS.hz _ _ hi1 hi2
    have hm' : rows.length + rows2.length ≤ maxLen := by simp only [maxLen]; omega
    have key : ∃ v' w', (Builtin.append_ #[T, T] ty #[.slice ad rows.length cap, .slice ad2 rows2.length cap2]).run P w = .ok v' w' ∧
        w'.ownsRow 0 E kk v' (rows.length + rows2.length) (xs ++ xs2) ∧ w.grownBy w' (Value.ownBlock (.slice ad rows.length cap)) ∧ (∀ b, v'.ownBlock = some b → (Value.ownBlock (.slice ad rows.length cap)) = some b ∨ w.heap.size ≤ b) := by
      rcases hown2.2 with ⟨e, h0⟩ | ⟨g, c, cur, e, _⟩
      · simp only [Value.slice.injEq] at e
        obtain ⟨rfl, e2, rfl⟩ := e
        have hxs : xs2 = [] := by
          have := hrd2.length
          rw [flat_len hk2, h0] at this
          exact List.eq_nil_of_length_eq_zero (by omega)
        subst hxs
        rw [h0]
        exact ⟨_, w, run_append_owned_none (P := P) w 0 T ty E ti kk hS.hT hi1 _ _ xs hown, by simpa using hown, ⟨rfl, rfl, rfl, Nat.le_refl _, fun _ _ _ => rfl⟩, fun b hb => .inl hb⟩
      · simp only [Value.slice.injEq] at e
        obtain ⟨rfl, _, rfl⟩ := e
        exact append_run (P := P) (ty := ty) (a := ⟨g, 0, none⟩) (m := rows2.length) (c := cap2) (news := xs2) hS.hT hi1 hi2 hi4 hi5 hzs hi6 hown (by rw [hrd2.length]; exact flat_len hk2) (hown2.cells (g := g) rfl) hrd2.one hm' hb
    obtain ⟨v', w', hrun, hown', hgr, hfresh⟩ := key
    have hform : ∃ ad' cap', v' = .slice ad' (rows ++ rows2).length cap' := by
      rcases hown'.2 with ⟨e, h0⟩ | ⟨g, c, cur, e, _⟩
      · exact ⟨none, 0, by rw [e, List.length_append, h0]⟩
      · exact ⟨_, c, by rw [e, List.length_append]⟩
    obtain ⟨ad', cap', rfl⟩ := hform
    refine ⟨_, _, .value _, w', by simp [execOp, resolve, invoke, builtin, hv, hv2, hrun] <;> rfl, .inl ⟨_, rfl, Den.put ?_ hi (raw_self _)⟩, kont ad' cap'⟩
    refine d'.turnF (c' := Chunk.own ad' cap' kk E (rows ++ rows2)) ?_ ?_ ?_ ?_
    · intro b hb
      have hb' : Value.ownBlock (.slice ad' (rows ++ rows2).length cap') = some b := by unfold Chunk.own at hb; simpa using hb
      rcases hfresh b hb' with h | h
      · exact .inl (by unfold Chunk.own; simpa using h)
      · exact .inr ⟨h, (hown'.lt b hb').2⟩
    · have : (Chunk.own ad' cap' kk E (rows ++ rows2)).fp = (Value.ownBlock (.slice ad' (rows ++ rows2).length cap')).toList := by unfold Chunk.own; rfl
      rw [this]
      cases Value.ownBlock (.slice ad' (rows ++ rows2).length cap') <;> simp
    · exact ⟨hgr.os, hgr.tape, hgr.output, hgr.size, fun b hb hn => hgr.block b hb fun e => hn (by unfold Chunk.own; simp [← e]), fun _ => run_drawn hrun⟩
    · intro hs _
      generalize av Γ.M (Chunk.own ad' cap' kk E (rows ++ rows2) :: Chunk.own ad2 cap2 kk E rows2 :: cf) = A' at hs ⊢
      unfold Chunk.own
      refine ⟨?_, _, by simpa using hown', ?_⟩
      · intro r hr
        rcases List.mem_append.1 hr with h | h
        · exact hk r h
        · exact hk2 r h
      · rw [List.flatten_append]
        exact (hrd.mono hs).app (hrd2.mono hs)
/-- an owned slice that holds something is not nil -/
theorem Ops.eql_nilO {E kk bb z} [hS : TySl P T E kk bb z] {ad : Option Addr} {n cap : Nat} {rows : List (List Tr)} (hx : ev env x = some (.raw (.slice ad n cap))) (hp : cs.Perm (Chunk.own ad cap kk E rows :: cf)) (hne : 0 < rows.length) (hi : Nat.blt i Γ.n = true)
    (kont : Ops P Γ R rest ((i, .bool false) :: env) cs Q) : Ops P Γ R (⟨some i, .binOp .eql T x (.const (.slice none 0 0)) T2, ty, pos, af, none⟩ :: rest) env cs Q :=
  Ops.of fun a w d => by
    have hv := rd_raw (d.ev hx)
    have hh := (d.perm hp).has (List.Perm.refl _)
    generalize av Γ.M _ = A at hh
    unfold Chunk.own at hh
    obtain ⟨hk, xs, hown, hrd⟩ := hh
    have had : ad.isNone = false := by
      rcases hown.2 with ⟨e, h0⟩ | ⟨g, c, cur, e, _⟩
      · omega
      · simp only [Value.slice.injEq] at e
        obtain ⟨rfl, _, rfl⟩ := e
        rfl
    have he : ∀ m, (Op.equalIn (m + 1) T (.slice ad n cap) (.slice none 0 0)).run P w = .ok false w := by
      intro m
      cases ad with
      | none => cases had
      | some _ => simp [Op.equalIn, run_underlying hS.hT]
    have hc : a.eval (.const (.slice none 0 0)) = .slice none 0 0 := rfl
    refine ⟨_, _, .value (.bool false), w, ?_, .inl ⟨_, rfl, Den.put d hi (raw_self _)⟩, kont⟩
    simp [execOp, hv, hc, eqGuard, binOp, Op.equal]
    rw [show Op.maxDepth = 9999 + 1 from rfl, he]
    rfl
end appo
theorem cloneO_int {ad : Option Addr} {n cap : Nat} (rows : List (List Tr)) (hk : ∀ r ∈ rows, r.length = 1) (hn : n = rows.length) (hl : 0 < rows.length ∧ rows.length ≤ 1000000) : Spec Tryz.prog 39 [Tr.raw (.slice ad n cap)] [Chunk.own ad cap 1 3 rows] (fun r cs => r = .sl 1 rows ∧ cs = [Chunk.own ad cap 1 3 rows]) := by
  refine Spec.body Tryz.func39 rfl rfl (Tryz.ntmps39) rfl fun w0 own0 M => ?_
  repeat' (first | refine goH ?_ | (refine Ops.k_b_eql ?_; first | (refine Ops.eql_nilO rfl goPk hl.1 rfl ?_)) | ((fail_if_success refine Ops.k_buildSlice ?_); refine goV ?_) | ((fail_if_success refine Ops.k_buildSlice ?_); refine goC (fun ad cap => ?_)) | refine goI ?_ | (refine Cw.k_cond ?_; first | (refine Cw.cond_dec rfl (fun hc => ?_) (fun hc => ?_) <;> try (exfalso; omega)) | refine Cw.cond_bool rfl (fun hc => ?_) (fun hc => ?_)) | fail)
  refine Ops.buildSlice_own (by exact Parts.nil) rfl rfl rfl (fun ad2 cap2 => ?_)
  repeat' (first | refine goH ?_ | ((fail_if_success refine Ops.k_c_append ?_); refine goV ?_) | ((fail_if_success refine Ops.k_c_append ?_); refine goC (fun ad cap => ?_)) | refine goI ?_ | (refine Cw.k_cond ?_; first | (refine Cw.cond_dec rfl (fun hc => ?_) (fun hc => ?_) <;> try (exfalso; omega)) | refine Cw.cond_bool rfl (fun hc => ?_) (fun hc => ?_)) | fail)
  refine Ops.append_own rfl rfl (List.Perm.refl _) rfl hn (by simp; omega) (by simp; omega) rfl (fun ad3 cap3 => ?_)
  rw [show rowsOf 1 0 (zeroRow [Value.int .i64 0] 0) ++ rows = rows from rfl]
  repeat' (first | refine goH ?_ | refine goV ?_ | refine goC (fun ad cap => ?_) | refine goI ?_ | (refine Cw.k_cond ?_; first | (refine Cw.cond_dec rfl (fun hc => ?_) (fun hc => ?_) <;> try (exfalso; omega)) | refine Cw.cond_bool rfl (fun hc => ?_) (fun hc => ?_)) | fail)
  exact Fin.ret (Ent.settle (s := 2) (ad := ad3) (cap := cap3) (cf := [Chunk.own ad cap 1 3 rows]) rfl (List.Perm.refl _) rfl) (Outs.one rfl rfl) ⟨rfl, rfl⟩
end Lg
