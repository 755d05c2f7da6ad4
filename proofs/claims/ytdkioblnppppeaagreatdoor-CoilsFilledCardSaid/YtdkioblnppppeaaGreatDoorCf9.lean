/- A part of the proof of a law of this seat: it adds no condition. By an AI agent. -/
import Derived.Test.YtdkioblnppppeaaGreatDoorFrame
import Derived.Test.YtdkioblnppppeaaGreatDoorCf6
import Derived.Test.YtdkioblnppppeaaGreatDoorCoilGen
section
set_option linter.all false
set_option maxRecDepth 100000
set_option maxHeartbeats 4000000
namespace Lg
open Go Go.Proofs

theorem rightLots_gen : GenO Tryz.prog 25 26 [] 20 4 57 (fun rows => ∃ l : List Lot, rows = l.map Lot.row ∧ l.length ≤ 5) := by
  unfold GenO
  intro b xs N hN
  refine Spec.body Tryz.func26 rfl rfl (Tryz.ntmps26) rfl fun w0 own0 M => ?_
  repeat' (first | refine goH ?_ | refine goV ?_ | refine goC (fun ad cap => ?_) | refine goI ?_ | (refine Cw.k_cond ?_; first | (refine Cw.cond_dec rfl (fun hc => ?_) (fun hc => ?_) <;> try (exfalso; omega)) | refine Cw.cond_bool rfl (fun hc => ?_) (fun hc => ?_)) | fail)
  refine Cw.loopI [(0, _), (6, _), (7, .int 5)] _ (fun q e cc => ∃ (k : Nat) (ad : Option Addr) (cap : Nat) (rows : List (List Tr)) (c : Nat), q = 5 - k ∧ (k ≤ 5 ∧ (∃ l : List Lot, rows = l.map Lot.row ∧ l.length ≤ k) ∧ rows.length ≤ k ∧ c ≤ N + 4 * k) ∧ e = [(3, Tr.raw (.slice ad rows.length cap)), (8, .int k)] ∧ cc = [Chunk.own ad cap 4 57 rows, Chunk.strm 25 b (intRows xs) c])
    ⟨_, _, _, Ent.trans (Ent.nil 4 57) (Ent.mkP goSub goPm), 0, none, 0, [], N, rfl, ⟨by omega, ⟨[], rfl, by simp⟩, by simp, by omega⟩, rfl, rfl⟩ ?_
  rintro _ _ _ ⟨k, ad, cap, rows, c, rfl, ⟨hk, ⟨l, hrows, hll⟩, hlen, h3⟩, rfl, rfl⟩
  by_cases hkl : k < 5
  · obtain ⟨y, hy⟩ : ∃ y : ByteArray, ([[Tr.str ⟨#[108, 97]⟩], [Tr.str ⟨#[108, 98]⟩], [Tr.str ⟨#[108, 99]⟩], [Tr.str ⟨#[108, 100]⟩], [Tr.str ⟨#[108, 101]⟩]] : List (List Tr))[k]? = some [Tr.str y] := by
      match k, hkl with
      | 0, _ => exact ⟨_, rfl⟩
      | 1, _ => exact ⟨_, rfl⟩
      | 2, _ => exact ⟨_, rfl⟩
      | 3, _ => exact ⟨_, rfl⟩
      | 4, _ => exact ⟨_, rfl⟩
    have key : ∀ x : Lot, rows ++ [x.row] = (l ++ [x]).map Lot.row := by intro x; rw [hrows, List.map_append]; rfl
    repeat' (first | refine goH ?_ | refine goV ?_ | refine goC (fun ad cap => ?_) | refine goI ?_ | (refine Cw.k_cond ?_; first | (refine Cw.cond_dec rfl (fun hc => ?_) (fun hc => ?_) <;> try (exfalso; omega)) | refine Cw.cond_bool rfl (fun hc => ?_) (fun hc => ?_)) | (refine Ops.k_calla ?_; first | (refine Ops.k_callf 25 ?_; (refine Ops.callG (flip_gen _ (by omega)) (Evs.cons rfl (Evs.cons rfl Evs.nil)) goPk (by omega) rfl ?_; rintro r ⟨v, rfl⟩)) | (refine Ops.k_callf 7 ?_; (refine Ops.callG (pick_gen (by repeat' (first | exact IsInts.nil | apply IsInts.cons)) (by simp)) (Evs.cons rfl (Evs.cons rfl Evs.nil)) goPk (by omega) rfl ?_; rintro r ⟨u, rfl, hu⟩; clear hu)) | (refine Ops.k_callf 24 ?_; (refine Ops.callG (one_gen (by repeat' (first | exact IsStrs.nil | apply IsStrs.cons)) (by simp)) (Evs.cons rfl (Evs.cons rfl Evs.nil)) goPk (by omega) rfl ?_; rintro r ⟨w, rfl, hw⟩; clear hw))) | fail)
    · exact ⟨_, _, _, (Ent.mk goSub goTk), ⟨k + 1, _, _, _, _, rfl, ⟨by omega, ⟨l, hrows, by omega⟩, by omega, by omega⟩, rfl, rfl⟩, by omega⟩
    · exact ⟨_, _, _, (Ent.mk goSub goTk), ⟨k + 1, _, _, _, _, rfl, ⟨by omega, ⟨_, key ⟨_, _, _, _⟩, by simp; omega⟩, by simp only [List.length_append, List.length_cons, List.length_nil]; omega, by omega⟩, rfl, rfl⟩, by omega⟩
  · repeat' (first | refine goH ?_ | refine goV ?_ | refine goC (fun ad cap => ?_) | refine goI ?_ | (refine Cw.k_cond ?_; first | (refine Cw.cond_dec rfl (fun hc => ?_) (fun hc => ?_) <;> try (exfalso; omega)) | refine Cw.cond_bool rfl (fun hc => ?_) (fun hc => ?_)) | fail)
    exact Fin.ret (Ent.own_strm goPk goPk (by omega)) (Outs.one rfl rfl) ⟨ad, cap, rows, rfl, rfl, l, hrows, by omega⟩

theorem lots_gen : Gen Tryz.prog 25 5 [] 30 (fun r => ∃ l : List Lot, r = .lots l ∧ l.length ≤ 6) := by
  unfold Gen
  intro b xs N hN
  refine Spec.body Tryz.func5 rfl rfl (Tryz.ntmps5) rfl fun w0 own0 M => ?_
  repeat' (first | refine goH ?_ | refine goV ?_ | refine goC (fun ad cap => ?_) | refine goI ?_ | (refine Cw.k_cond ?_; first | (refine Cw.cond_dec rfl (fun hc => ?_) (fun hc => ?_) <;> try (exfalso; omega)) | refine Cw.cond_bool rfl (fun hc => ?_) (fun hc => ?_)) | (refine Ops.k_calla ?_; first | (refine Ops.k_callf 26 ?_; (refine Ops.callGO rightLots_gen (Evs.cons rfl Evs.nil) goPk (by omega) rfl (fun ad cap rows hr => ?_); obtain ⟨l, hrows, hl⟩ := hr; have hrl : rows.length = l.length := (by rw [hrows]; simp))) | (refine Ops.k_callf 25 ?_; (refine Ops.callG (flip_gen _ (by omega)) (Evs.cons rfl (Evs.cons rfl Evs.nil)) goPk (by omega) rfl ?_; rintro r ⟨v, rfl⟩)) | (refine Ops.k_callf 7 ?_; (refine Ops.callG (pick_gen (by repeat' (first | exact IsInts.nil | apply IsInts.cons)) (by simp)) (Evs.cons rfl (Evs.cons rfl Evs.nil)) goPk (by omega) rfl ?_; rintro r ⟨u, rfl, hu⟩; clear hu)) | (refine Ops.k_callf 24 ?_; (refine Ops.callG (one_gen (by repeat' (first | exact IsStrs.nil | apply IsStrs.cons)) (by simp)) (Evs.cons rfl (Evs.cons rfl Evs.nil)) goPk (by omega) rfl ?_; rintro r ⟨w, rfl, hw⟩; clear hw))) | fail)
  all_goals (have key : ∀ x : Lot, rows ++ [x.row] = (l ++ [x]).map Lot.row := by intro x; rw [hrows, List.map_append]; rfl)
  · refine Fin.ret (Ent.trans (Ent.settle (s := 2) rfl goPk rfl) (Ent.strm_only goPk (by omega))) (Outs.one rfl rfl) ⟨rfl, _, congrArg (Tr.sl 4) (key ⟨_, _, _, _⟩), ?_⟩
    simp only [List.length_append, List.length_cons, List.length_nil]; omega
  · exact Fin.ret (Ent.trans (Ent.settle (s := 2) rfl goPk rfl) (Ent.strm_only goPk (by omega))) (Outs.one rfl rfl) ⟨rfl, _, congrArg (Tr.sl 4) hrows, by omega⟩
end Lg
end
section
set_option linter.all false
namespace Lg
open Go Go.Proofs

theorem Ops.shut0 {P : Program} {Γ : Ctx} {env : Env} {cs : List Chunk} {Q : Post} {R : Array Oper} {l : List Oper} {ty b : Nat} {cells : List Tr} {rows : List (List Tr)} (h : cells = [Tr.sl 1 rows, Tr.int ((0 : Nat) : Int)]) (k : Ops P Γ R l env (Chunk.strm ty b rows 0 :: cs) Q) : Ops P Γ R l env (Chunk.box b ty cells :: cs) Q := by
  subst h
  exact Ops.ent (Ent.shut_strm (m := 0) (Nat.le_refl 0)) k
end Lg
end
section
set_option linter.all false
set_option maxRecDepth 100000
set_option maxHeartbeats 4000000
namespace Lg
open Go Go.Proofs

/-! ### CoilsFilled: the law -/
theorem fold_len : ∀ (ps out : List Piece), (ps.foldl joinS out).length ≤ out.length + ps.length
  | [], out => by simp
  | p :: ps, out => by
    have h1 := fold_len ps (joinS out p)
    have h2 := joinS_len out p
    rw [List.foldl_cons, List.length_cons]
    omega
theorem joinP_len (ps : List Piece) : (joinP ps).length ≤ ps.length := by
  have := fold_len ps []
  unfold joinP
  simpa using this
theorem sell_len (ps : List Piece) (m : Int) : (sell m ps).1.length ≤ ps.length ∧ (sell m ps).2.length ≤ ps.length := by
  obtain ⟨i, j, e1, e2⟩ := sell_lots ps m
  have h1 := congrArg List.length e1
  have h2 := congrArg List.length e2
  rw [List.length_map, List.length_take, List.length_map] at h1
  rw [List.length_map, List.length_drop, List.length_map] at h2
  omega
theorem equalNil_fn : PFn Tryz.prog 22 [.raw (.slice none 0 0), .raw (.slice none 0 0)] (· = .bool true) := by
  refine PFn.mk (Spec.body Tryz.func22 rfl rfl (Tryz.ntmps22) rfl fun w0 own0 M => ?_)
  repeat' (first | refine goH ?_ | refine goV ?_ | refine goI ?_ | (refine Cw.k_cond ?_; first | (refine Cw.cond_dec rfl (fun hc => ?_) (fun hc => ?_) <;> try (exfalso; omega)) | refine Cw.cond_bool rfl (fun hc => ?_) (fun hc => ?_)) | refine goR ?_ | refine goP ?_ | apply PSeq.cons | apply PSeq.yes rfl rfl rfl | exact goW | fail)
  refine Cw.loopI [(12, _)] _ (fun q e cc => q = 0 ∧ e = [(13, .int 0)] ∧ cc = []) ⟨_, _, _, (Ent.mkP goSub goPm), rfl, rfl, rfl⟩ ?_
  rintro _ _ _ ⟨rfl, rfl, rfl⟩
  repeat' (first | refine goH ?_ | refine goV ?_ | refine goI ?_ | (refine Cw.k_cond ?_; first | (refine Cw.cond_dec rfl (fun hc => ?_) (fun hc => ?_) <;> try (exfalso; omega)) | refine Cw.cond_bool rfl (fun hc => ?_) (fun hc => ?_)) | refine goR ?_ | refine goP ?_ | apply PSeq.cons | apply PSeq.yes rfl rfl rfl | exact goW | fail)
  exact Fin.ret Ent.refl (Outs.one rfl rfl) ⟨rfl, rfl⟩
theorem sameCoil0_fn : PFn Tryz.prog 16 [.agg coil0, .agg coil0] (· = .bool true) := by
  have he := equalNil_fn
  refine PFn.mk (Spec.body Tryz.func16 rfl rfl (Tryz.ntmps16) rfl fun w0 own0 M => ?_)
  repeat' (first | refine goH ?_ | refine goV ?_ | refine goB (fun b => ?_) | refine goG ?_ | (refine Ops.k_guard ?_; first | (refine Ops.guard_dec rfl rfl (fun hc => ?_) (fun hc => ?_) <;> try (exfalso; omega)) | refine Ops.guard_split rfl rfl (fun hc => ?_) (fun hc => ?_)) | refine goI ?_ | (refine Cw.k_cond ?_; first | (refine Cw.cond_dec rfl (fun hc => ?_) (fun hc => ?_) <;> try (exfalso; omega)) | refine Cw.cond_bool rfl (fun hc => ?_) (fun hc => ?_)) | (refine Ops.k_calla ?_; first | (refine Ops.k_callf 22 ?_; refine Ops.callV he (Evs.cons rfl (Evs.cons rfl Evs.nil)) rfl ?_)) | fail)
  exact Fin.ret (Ent.take goTk) (Outs.one rfl rfl) ⟨rfl, rfl⟩
theorem coilsFilled_law (xs : List Int) : Spec Tryz.prog 3 [Tr.ints xs] [] (fun r _ => r = Tr.bool true) := by
  refine Spec.body Tryz.func3 rfl rfl (Tryz.ntmps3) rfl fun w0 own0 M => ?_
  repeat' (first | refine goH ?_ | refine goV ?_ | refine goB (fun b => ?_) | refine goG ?_ | (refine Ops.k_guard ?_; first | (refine Ops.guard_dec rfl rfl (fun hc => ?_) (fun hc => ?_) <;> try (exfalso; omega)) | refine Ops.guard_split rfl rfl (fun hc => ?_) (fun hc => ?_)) | refine goI ?_ | (refine Cw.k_cond ?_; first | (refine Cw.cond_dec rfl (fun hc => ?_) (fun hc => ?_) <;> try (exfalso; omega)) | refine Cw.cond_bool rfl (fun hc => ?_) (fun hc => ?_)) | refine Ops.shut0 (ty := 25) rfl ?_ | (refine Ops.k_calla ?_; first | (refine Ops.k_callf 5 ?_; (refine Ops.callG lots_gen (Evs.cons rfl Evs.nil) goPk (by omega) rfl ?_; rintro r ⟨l, rfl, hl⟩)) | (refine Ops.k_callf 4 ?_; (refine Ops.callG coil_gen (Evs.cons rfl Evs.nil) goPk (by omega) rfl ?_; rintro r ⟨⟨prod, most, ps⟩, rfl, hc⟩; unfold Coil.row; simp only at hc ⊢)) | (refine Ops.k_callf 6 ?_; (refine Ops.callG pieces_gen (Evs.cons rfl Evs.nil) goPk (by omega) rfl ?_; rintro r ⟨p, rfl, hp⟩)) | (refine Ops.k_callf 7 ?_; (refine Ops.callG (pick_gen (by repeat' (first | exact IsInts.nil | apply IsInts.cons)) (by simp)) (Evs.cons rfl (Evs.cons rfl Evs.nil)) goPk (by omega) rfl ?_; rintro r ⟨m, rfl, hm⟩; clear hm))) | refine goR ?_ | refine goP ?_ | apply PSeq.cons | apply PSeq.yes rfl rfl rfl | exact goW | fail)
  have hcl : (⟨prod, most, ps⟩ : Coil).ps.length ≤ 1000000 := by simp only; omega
  have hC := checkCoil_fn ⟨prod, most, ps⟩ hcl
  have hC2 := refCoil_fn ⟨prod, most, ps⟩ hcl
  have hRm := room_fn ⟨prod, most, ps⟩ hcl
  have hPF := refPush_fn ⟨prod, most, ps⟩ hcl l (by omega) p (by omega)
  have hRF := rotateFault_fn ⟨prod, most, ps⟩ hcl l (by omega) (pushErr ⟨prod, most, ps⟩ l p)
  have hRO0 : rotErr ⟨prod, most, ps⟩ l p = if pushErr ⟨prod, most, ps⟩ l p ≠ 0 then pushErr ⟨prod, most, ps⟩ l p else if strangeB l ps then 8 else 0 := rfl
  rw [← hRO0] at hRF
  by_cases c0 : coilErr ⟨prod, most, ps⟩ ≠ 0
  · have cp : pushErr ⟨prod, most, ps⟩ l p ≠ 0 := by
      unfold pushErr
      by_cases h : lotsErr l ≠ 0
      · rw [if_pos h]; exact h
      · rw [if_neg h, if_pos c0]; exact c0
    have cr : rotErr ⟨prod, most, ps⟩ l p ≠ 0 := by rw [hRO0, if_pos cp]; exact cp
    have hse : sellErr ⟨prod, most, ps⟩ m = coilErr ⟨prod, most, ps⟩ := by unfold sellErr; rw [if_pos c0]
    have hS := sellBad_fn ⟨prod, most, ps⟩ hcl m (by rw [hse]; exact c0)
    rw [hse] at hS
    rw [if_pos c0] at hRm
    have hP := pushBad_fn ⟨prod, most, ps⟩ hcl l (by omega) p (by omega) cp
    have hR := rotBad_fn ⟨prod, most, ps⟩ hcl l (by omega) p (by omega) cr
    clear hse hRO0
    unfold Coil.row at *
    simp only at *
    generalize pushErr ⟨prod, most, ps⟩ l p = pe at *
    generalize rotErr ⟨prod, most, ps⟩ l p = re at *
    generalize coilErr ⟨prod, most, ps⟩ = ce at *
    repeat' (first | refine goH ?_ | (refine Ops.k_b_eql ?_; first | (refine Ops.val' rfl (OpV.eql_t rfl rfl (by omega)) ?_) | (refine Ops.val' rfl (OpV.eql_f rfl rfl (by omega)) ?_)) | (refine Ops.k_b_neq ?_; first | (refine Ops.val' rfl (OpV.neq_f rfl rfl (by omega)) ?_) | (refine Ops.val' rfl (OpV.neq_t rfl rfl (by omega)) ?_)) | refine goV ?_ | refine goB (fun b => ?_) | refine goG ?_ | (refine Ops.k_guard ?_; first | (refine Ops.guard_dec rfl rfl (fun hc => ?_) (fun hc => ?_) <;> try (exfalso; omega)) | refine Ops.guard_split rfl rfl (fun hc => ?_) (fun hc => ?_)) | refine goI ?_ | (refine Cw.k_cond ?_; first | (refine Cw.cond_dec rfl (fun hc => ?_) (fun hc => ?_) <;> try (exfalso; omega)) | refine Cw.cond_bool rfl (fun hc => ?_) (fun hc => ?_)) | (refine Ops.k_calla ?_; first | (refine Ops.k_callf 9 ?_; refine Ops.callV hC (Evs.cons rfl Evs.nil) rfl ?_) | (refine Ops.k_callf 8 ?_; refine Ops.callV hC2 (Evs.cons rfl Evs.nil) rfl ?_) | (refine Ops.k_callf 10 ?_; refine Ops.callV hRm (Evs.cons rfl Evs.nil) rfl ?_) | (refine Ops.k_callf 11 ?_; refine Ops.callV hP (Evs.cons rfl (Evs.cons rfl (Evs.cons rfl Evs.nil))) rfl ?_) | (refine Ops.k_callf 13 ?_; refine Ops.callV hR (Evs.cons rfl (Evs.cons rfl (Evs.cons rfl Evs.nil))) rfl ?_) | (refine Ops.k_callf 12 ?_; refine Ops.callV hS (Evs.cons rfl (Evs.cons rfl Evs.nil)) rfl ?_) | (refine Ops.k_callf 15 ?_; refine Ops.callV hPF (Evs.cons rfl (Evs.cons rfl (Evs.cons rfl Evs.nil))) rfl ?_) | (refine Ops.k_callf 18 ?_; refine Ops.callV hRF (Evs.cons rfl (Evs.cons rfl (Evs.cons rfl Evs.nil))) rfl ?_) | (refine Ops.k_callf 20 ?_; refine Ops.callV stocks_fn Evs.nil rfl ?_)) | (apply OpW.k_call; first | (apply OpW.k_callf 9; exact OpW.callV hC (Evs.cons rfl Evs.nil)) | (apply OpW.k_callf 8; exact OpW.callV hC2 (Evs.cons rfl Evs.nil)) | (apply OpW.k_callf 10; exact OpW.callV hRm (Evs.cons rfl Evs.nil)) | (apply OpW.k_callf 11; exact OpW.callV hP (Evs.cons rfl (Evs.cons rfl (Evs.cons rfl Evs.nil)))) | (apply OpW.k_callf 13; exact OpW.callV hR (Evs.cons rfl (Evs.cons rfl (Evs.cons rfl Evs.nil)))) | (apply OpW.k_callf 12; exact OpW.callV hS (Evs.cons rfl (Evs.cons rfl Evs.nil))) | (apply OpW.k_callf 15; exact OpW.callV hPF (Evs.cons rfl (Evs.cons rfl (Evs.cons rfl Evs.nil)))) | (apply OpW.k_callf 18; exact OpW.callV hRF (Evs.cons rfl (Evs.cons rfl (Evs.cons rfl Evs.nil)))) | (apply OpW.k_callf 20; exact OpW.callV stocks_fn Evs.nil)) | refine goR ?_ | refine goP ?_ | apply PSeq.cons | apply PSeq.yes rfl rfl rfl | exact goW | fail)
    all_goals (refine Fin.ret Ent.refl (Outs.one rfl rfl) ?_; exact rfl)
  have e0 : coilErr ⟨prod, most, ps⟩ = 0 := by omega
  have hRmO := roomOf_fn ⟨prod, most, ps⟩ e0
  rw [e0, if_neg (by omega)] at hRm
  rw [e0] at hC hC2
  by_cases cp : pushErr ⟨prod, most, ps⟩ l p = 0
  · by_cases cr : rotErr ⟨prod, most, ps⟩ l p = 0
    · clear hRO0
      by_cases cs : sellErr ⟨prod, most, ps⟩ m = 0
      · have hP := push_fn ⟨prod, most, ps⟩ l (by omega) p (by omega) cp
        have hPO := pushOf_fn ⟨prod, most, ps⟩ l p (by omega) cp
        have hE1 := sameCoil_fn (pushC ⟨prod, most, ps⟩ p) (by unfold pushC; simp only; have := joinP_len (ps ++ p); rw [List.length_append] at this; omega)
        have hR := rot_fn ⟨prod, most, ps⟩ l (by omega) p (by simp only; omega) cr
        have hRO := rotOf_fn ⟨prod, most, ps⟩ l (by omega) p (by omega) cr
        have hE2 := sameCoil_fn (rotC ⟨prod, most, ps⟩ l p) (by unfold rotC rotP; simp only; have := joinP_len (isort (pLt l) (ps ++ p)); rw [isort_len, List.length_append] at this; omega)
        have hS := sell_fn ⟨prod, most, ps⟩ m cs
        have hSO := sellOf_fn ⟨prod, most, ps⟩ e0 m cs
        have hE3 := sameCoil_fn (sellC ⟨prod, most, ps⟩ m) (by unfold sellC; simp only; have := (sell_len ps m).2; omega)
        have hEq := equal_piece (sell m ps).1 (by have := (sell_len ps m).1; omega)
        try unfold pushC at *
        try unfold sellC at *
        try unfold rotC at *
        unfold Coil.row at *
        simp only at *
        rw [cp] at hPF hRF
        generalize joinP (ps ++ p) = jp at *
        rw [cr] at hRF
        generalize rotP l (ps ++ p) = jr at *
        generalize (sell m ps).1 = s1 at *
        generalize (sell m ps).2 = s2 at *
        generalize unitsI ps = u at *
        repeat' (first | refine goH ?_ | (refine Ops.k_b_eql ?_; first | (refine Ops.val' rfl (OpV.eql_t rfl rfl (by omega)) ?_) | (refine Ops.val' rfl (OpV.eql_f rfl rfl (by omega)) ?_)) | (refine Ops.k_b_neq ?_; first | (refine Ops.val' rfl (OpV.neq_f rfl rfl (by omega)) ?_) | (refine Ops.val' rfl (OpV.neq_t rfl rfl (by omega)) ?_)) | refine goV ?_ | refine goB (fun b => ?_) | refine goG ?_ | (refine Ops.k_guard ?_; first | (refine Ops.guard_dec rfl rfl (fun hc => ?_) (fun hc => ?_) <;> try (exfalso; omega)) | refine Ops.guard_split rfl rfl (fun hc => ?_) (fun hc => ?_)) | refine goI ?_ | (refine Cw.k_cond ?_; first | (refine Cw.cond_dec rfl (fun hc => ?_) (fun hc => ?_) <;> try (exfalso; omega)) | refine Cw.cond_bool rfl (fun hc => ?_) (fun hc => ?_)) | (refine Ops.k_calla ?_; first | (refine Ops.k_callf 9 ?_; refine Ops.callV hC (Evs.cons rfl Evs.nil) rfl ?_) | (refine Ops.k_callf 8 ?_; refine Ops.callV hC2 (Evs.cons rfl Evs.nil) rfl ?_) | (refine Ops.k_callf 10 ?_; refine Ops.callV hRm (Evs.cons rfl Evs.nil) rfl ?_) | (refine Ops.k_callf 11 ?_; refine Ops.callV hP (Evs.cons rfl (Evs.cons rfl (Evs.cons rfl Evs.nil))) rfl ?_) | (refine Ops.k_callf 13 ?_; refine Ops.callV hR (Evs.cons rfl (Evs.cons rfl (Evs.cons rfl Evs.nil))) rfl ?_) | (refine Ops.k_callf 12 ?_; refine Ops.callV hS (Evs.cons rfl (Evs.cons rfl Evs.nil)) rfl ?_) | (refine Ops.k_callf 15 ?_; refine Ops.callV hPF (Evs.cons rfl (Evs.cons rfl (Evs.cons rfl Evs.nil))) rfl ?_) | (refine Ops.k_callf 18 ?_; refine Ops.callV hRF (Evs.cons rfl (Evs.cons rfl (Evs.cons rfl Evs.nil))) rfl ?_) | (refine Ops.k_callf 20 ?_; refine Ops.callV stocks_fn Evs.nil rfl ?_) | (refine Ops.k_callf 14 ?_; refine Ops.callV hRmO (Evs.cons rfl Evs.nil) rfl ?_) | (refine Ops.k_callf 21 ?_; refine Ops.callV hSO (Evs.cons rfl (Evs.cons rfl Evs.nil)) rfl ?_) | (refine Ops.k_callf 17 ?_; refine Ops.callV hPO (Evs.cons rfl (Evs.cons rfl Evs.nil)) rfl ?_) | (refine Ops.k_callf 16 ?_; refine Ops.callV hE1 (Evs.cons rfl (Evs.cons rfl Evs.nil)) rfl ?_) | (refine Ops.k_callf 19 ?_; refine Ops.callV hRO (Evs.cons rfl (Evs.cons rfl (Evs.cons rfl Evs.nil))) rfl ?_) | (refine Ops.k_callf 16 ?_; refine Ops.callV hE2 (Evs.cons rfl (Evs.cons rfl Evs.nil)) rfl ?_) | (refine Ops.k_callf 16 ?_; refine Ops.callV hE3 (Evs.cons rfl (Evs.cons rfl Evs.nil)) rfl ?_) | (refine Ops.k_callf 22 ?_; refine Ops.callV hEq (Evs.cons rfl (Evs.cons rfl Evs.nil)) rfl ?_)) | (apply OpW.k_call; first | (apply OpW.k_callf 9; exact OpW.callV hC (Evs.cons rfl Evs.nil)) | (apply OpW.k_callf 8; exact OpW.callV hC2 (Evs.cons rfl Evs.nil)) | (apply OpW.k_callf 10; exact OpW.callV hRm (Evs.cons rfl Evs.nil)) | (apply OpW.k_callf 11; exact OpW.callV hP (Evs.cons rfl (Evs.cons rfl (Evs.cons rfl Evs.nil)))) | (apply OpW.k_callf 13; exact OpW.callV hR (Evs.cons rfl (Evs.cons rfl (Evs.cons rfl Evs.nil)))) | (apply OpW.k_callf 12; exact OpW.callV hS (Evs.cons rfl (Evs.cons rfl Evs.nil))) | (apply OpW.k_callf 15; exact OpW.callV hPF (Evs.cons rfl (Evs.cons rfl (Evs.cons rfl Evs.nil)))) | (apply OpW.k_callf 18; exact OpW.callV hRF (Evs.cons rfl (Evs.cons rfl (Evs.cons rfl Evs.nil)))) | (apply OpW.k_callf 20; exact OpW.callV stocks_fn Evs.nil) | (apply OpW.k_callf 14; exact OpW.callV hRmO (Evs.cons rfl Evs.nil)) | (apply OpW.k_callf 21; exact OpW.callV hSO (Evs.cons rfl (Evs.cons rfl Evs.nil))) | (apply OpW.k_callf 17; exact OpW.callV hPO (Evs.cons rfl (Evs.cons rfl Evs.nil))) | (apply OpW.k_callf 16; exact OpW.callV hE1 (Evs.cons rfl (Evs.cons rfl Evs.nil))) | (apply OpW.k_callf 19; exact OpW.callV hRO (Evs.cons rfl (Evs.cons rfl (Evs.cons rfl Evs.nil)))) | (apply OpW.k_callf 16; exact OpW.callV hE2 (Evs.cons rfl (Evs.cons rfl Evs.nil))) | (apply OpW.k_callf 16; exact OpW.callV hE3 (Evs.cons rfl (Evs.cons rfl Evs.nil))) | (apply OpW.k_callf 22; exact OpW.callV hEq (Evs.cons rfl (Evs.cons rfl Evs.nil)))) | refine goR ?_ | refine goP ?_ | apply PSeq.cons | apply PSeq.yes rfl rfl rfl | exact goW | fail)
        all_goals (refine Fin.ret Ent.refl (Outs.one rfl rfl) ?_; exact rfl)
      · have hP := push_fn ⟨prod, most, ps⟩ l (by omega) p (by omega) cp
        have hPO := pushOf_fn ⟨prod, most, ps⟩ l p (by omega) cp
        have hE1 := sameCoil_fn (pushC ⟨prod, most, ps⟩ p) (by unfold pushC; simp only; have := joinP_len (ps ++ p); rw [List.length_append] at this; omega)
        have hR := rot_fn ⟨prod, most, ps⟩ l (by omega) p (by simp only; omega) cr
        have hRO := rotOf_fn ⟨prod, most, ps⟩ l (by omega) p (by omega) cr
        have hE2 := sameCoil_fn (rotC ⟨prod, most, ps⟩ l p) (by unfold rotC rotP; simp only; have := joinP_len (isort (pLt l) (ps ++ p)); rw [isort_len, List.length_append] at this; omega)
        have hS := sellBad_fn ⟨prod, most, ps⟩ hcl m cs
        have hSO := sellOfBad_fn ⟨prod, most, ps⟩ e0 m cs
        have hNC := sameCoil0_fn
        have hNE := equal_piece [] (by simp)
        rw [List.map_nil] at hNE
        try unfold pushC at *
        try unfold sellC at *
        try unfold rotC at *
        unfold Coil.row at *
        simp only at *
        rw [cp] at hPF hRF
        generalize joinP (ps ++ p) = jp at *
        rw [cr] at hRF
        generalize rotP l (ps ++ p) = jr at *
        generalize sellErr ⟨prod, most, ps⟩ m = se at *
        generalize unitsI ps = u at *
        repeat' (first | refine goH ?_ | (refine Ops.k_b_eql ?_; first | (refine Ops.val' rfl (OpV.eql_t rfl rfl (by omega)) ?_) | (refine Ops.val' rfl (OpV.eql_f rfl rfl (by omega)) ?_)) | (refine Ops.k_b_neq ?_; first | (refine Ops.val' rfl (OpV.neq_f rfl rfl (by omega)) ?_) | (refine Ops.val' rfl (OpV.neq_t rfl rfl (by omega)) ?_)) | refine goV ?_ | refine goB (fun b => ?_) | refine goG ?_ | (refine Ops.k_guard ?_; first | (refine Ops.guard_dec rfl rfl (fun hc => ?_) (fun hc => ?_) <;> try (exfalso; omega)) | refine Ops.guard_split rfl rfl (fun hc => ?_) (fun hc => ?_)) | refine goI ?_ | (refine Cw.k_cond ?_; first | (refine Cw.cond_dec rfl (fun hc => ?_) (fun hc => ?_) <;> try (exfalso; omega)) | refine Cw.cond_bool rfl (fun hc => ?_) (fun hc => ?_)) | (refine Ops.k_calla ?_; first | (refine Ops.k_callf 9 ?_; refine Ops.callV hC (Evs.cons rfl Evs.nil) rfl ?_) | (refine Ops.k_callf 8 ?_; refine Ops.callV hC2 (Evs.cons rfl Evs.nil) rfl ?_) | (refine Ops.k_callf 10 ?_; refine Ops.callV hRm (Evs.cons rfl Evs.nil) rfl ?_) | (refine Ops.k_callf 11 ?_; refine Ops.callV hP (Evs.cons rfl (Evs.cons rfl (Evs.cons rfl Evs.nil))) rfl ?_) | (refine Ops.k_callf 13 ?_; refine Ops.callV hR (Evs.cons rfl (Evs.cons rfl (Evs.cons rfl Evs.nil))) rfl ?_) | (refine Ops.k_callf 12 ?_; refine Ops.callV hS (Evs.cons rfl (Evs.cons rfl Evs.nil)) rfl ?_) | (refine Ops.k_callf 15 ?_; refine Ops.callV hPF (Evs.cons rfl (Evs.cons rfl (Evs.cons rfl Evs.nil))) rfl ?_) | (refine Ops.k_callf 18 ?_; refine Ops.callV hRF (Evs.cons rfl (Evs.cons rfl (Evs.cons rfl Evs.nil))) rfl ?_) | (refine Ops.k_callf 20 ?_; refine Ops.callV stocks_fn Evs.nil rfl ?_) | (refine Ops.k_callf 14 ?_; refine Ops.callV hRmO (Evs.cons rfl Evs.nil) rfl ?_) | (refine Ops.k_callf 21 ?_; refine Ops.callV hSO (Evs.cons rfl (Evs.cons rfl Evs.nil)) rfl ?_) | (refine Ops.k_callf 17 ?_; refine Ops.callV hPO (Evs.cons rfl (Evs.cons rfl Evs.nil)) rfl ?_) | (refine Ops.k_callf 16 ?_; refine Ops.callV hE1 (Evs.cons rfl (Evs.cons rfl Evs.nil)) rfl ?_) | (refine Ops.k_callf 19 ?_; refine Ops.callV hRO (Evs.cons rfl (Evs.cons rfl (Evs.cons rfl Evs.nil))) rfl ?_) | (refine Ops.k_callf 16 ?_; refine Ops.callV hE2 (Evs.cons rfl (Evs.cons rfl Evs.nil)) rfl ?_) | (refine Ops.k_callf 16 ?_; refine Ops.callV hNC (Evs.cons rfl (Evs.cons rfl Evs.nil)) rfl ?_) | (refine Ops.k_callf 22 ?_; refine Ops.callV hNE (Evs.cons rfl (Evs.cons rfl Evs.nil)) rfl ?_)) | (apply OpW.k_call; first | (apply OpW.k_callf 9; exact OpW.callV hC (Evs.cons rfl Evs.nil)) | (apply OpW.k_callf 8; exact OpW.callV hC2 (Evs.cons rfl Evs.nil)) | (apply OpW.k_callf 10; exact OpW.callV hRm (Evs.cons rfl Evs.nil)) | (apply OpW.k_callf 11; exact OpW.callV hP (Evs.cons rfl (Evs.cons rfl (Evs.cons rfl Evs.nil)))) | (apply OpW.k_callf 13; exact OpW.callV hR (Evs.cons rfl (Evs.cons rfl (Evs.cons rfl Evs.nil)))) | (apply OpW.k_callf 12; exact OpW.callV hS (Evs.cons rfl (Evs.cons rfl Evs.nil))) | (apply OpW.k_callf 15; exact OpW.callV hPF (Evs.cons rfl (Evs.cons rfl (Evs.cons rfl Evs.nil)))) | (apply OpW.k_callf 18; exact OpW.callV hRF (Evs.cons rfl (Evs.cons rfl (Evs.cons rfl Evs.nil)))) | (apply OpW.k_callf 20; exact OpW.callV stocks_fn Evs.nil) | (apply OpW.k_callf 14; exact OpW.callV hRmO (Evs.cons rfl Evs.nil)) | (apply OpW.k_callf 21; exact OpW.callV hSO (Evs.cons rfl (Evs.cons rfl Evs.nil))) | (apply OpW.k_callf 17; exact OpW.callV hPO (Evs.cons rfl (Evs.cons rfl Evs.nil))) | (apply OpW.k_callf 16; exact OpW.callV hE1 (Evs.cons rfl (Evs.cons rfl Evs.nil))) | (apply OpW.k_callf 19; exact OpW.callV hRO (Evs.cons rfl (Evs.cons rfl (Evs.cons rfl Evs.nil)))) | (apply OpW.k_callf 16; exact OpW.callV hE2 (Evs.cons rfl (Evs.cons rfl Evs.nil))) | (apply OpW.k_callf 16; exact OpW.callV hNC (Evs.cons rfl (Evs.cons rfl Evs.nil))) | (apply OpW.k_callf 22; exact OpW.callV hNE (Evs.cons rfl (Evs.cons rfl Evs.nil)))) | refine goR ?_ | refine goP ?_ | apply PSeq.cons | apply PSeq.yes rfl rfl rfl | exact goW | fail)
        all_goals (refine Fin.ret Ent.refl (Outs.one rfl rfl) ?_; exact rfl)
    · clear hRO0
      by_cases cs : sellErr ⟨prod, most, ps⟩ m = 0
      · have hP := push_fn ⟨prod, most, ps⟩ l (by omega) p (by omega) cp
        have hPO := pushOf_fn ⟨prod, most, ps⟩ l p (by omega) cp
        have hE1 := sameCoil_fn (pushC ⟨prod, most, ps⟩ p) (by unfold pushC; simp only; have := joinP_len (ps ++ p); rw [List.length_append] at this; omega)
        have hR := rotBad_fn ⟨prod, most, ps⟩ hcl l (by omega) p (by omega) cr
        have hS := sell_fn ⟨prod, most, ps⟩ m cs
        have hSO := sellOf_fn ⟨prod, most, ps⟩ e0 m cs
        have hE3 := sameCoil_fn (sellC ⟨prod, most, ps⟩ m) (by unfold sellC; simp only; have := (sell_len ps m).2; omega)
        have hEq := equal_piece (sell m ps).1 (by have := (sell_len ps m).1; omega)
        try unfold pushC at *
        try unfold sellC at *
        try unfold rotC at *
        unfold Coil.row at *
        simp only at *
        rw [cp] at hPF hRF
        generalize joinP (ps ++ p) = jp at *
        generalize rotErr ⟨prod, most, ps⟩ l p = re at *
        generalize (sell m ps).1 = s1 at *
        generalize (sell m ps).2 = s2 at *
        generalize unitsI ps = u at *
        repeat' (first | refine goH ?_ | (refine Ops.k_b_eql ?_; first | (refine Ops.val' rfl (OpV.eql_t rfl rfl (by omega)) ?_) | (refine Ops.val' rfl (OpV.eql_f rfl rfl (by omega)) ?_)) | (refine Ops.k_b_neq ?_; first | (refine Ops.val' rfl (OpV.neq_f rfl rfl (by omega)) ?_) | (refine Ops.val' rfl (OpV.neq_t rfl rfl (by omega)) ?_)) | refine goV ?_ | refine goB (fun b => ?_) | refine goG ?_ | (refine Ops.k_guard ?_; first | (refine Ops.guard_dec rfl rfl (fun hc => ?_) (fun hc => ?_) <;> try (exfalso; omega)) | refine Ops.guard_split rfl rfl (fun hc => ?_) (fun hc => ?_)) | refine goI ?_ | (refine Cw.k_cond ?_; first | (refine Cw.cond_dec rfl (fun hc => ?_) (fun hc => ?_) <;> try (exfalso; omega)) | refine Cw.cond_bool rfl (fun hc => ?_) (fun hc => ?_)) | (refine Ops.k_calla ?_; first | (refine Ops.k_callf 9 ?_; refine Ops.callV hC (Evs.cons rfl Evs.nil) rfl ?_) | (refine Ops.k_callf 8 ?_; refine Ops.callV hC2 (Evs.cons rfl Evs.nil) rfl ?_) | (refine Ops.k_callf 10 ?_; refine Ops.callV hRm (Evs.cons rfl Evs.nil) rfl ?_) | (refine Ops.k_callf 11 ?_; refine Ops.callV hP (Evs.cons rfl (Evs.cons rfl (Evs.cons rfl Evs.nil))) rfl ?_) | (refine Ops.k_callf 13 ?_; refine Ops.callV hR (Evs.cons rfl (Evs.cons rfl (Evs.cons rfl Evs.nil))) rfl ?_) | (refine Ops.k_callf 12 ?_; refine Ops.callV hS (Evs.cons rfl (Evs.cons rfl Evs.nil)) rfl ?_) | (refine Ops.k_callf 15 ?_; refine Ops.callV hPF (Evs.cons rfl (Evs.cons rfl (Evs.cons rfl Evs.nil))) rfl ?_) | (refine Ops.k_callf 18 ?_; refine Ops.callV hRF (Evs.cons rfl (Evs.cons rfl (Evs.cons rfl Evs.nil))) rfl ?_) | (refine Ops.k_callf 20 ?_; refine Ops.callV stocks_fn Evs.nil rfl ?_) | (refine Ops.k_callf 14 ?_; refine Ops.callV hRmO (Evs.cons rfl Evs.nil) rfl ?_) | (refine Ops.k_callf 21 ?_; refine Ops.callV hSO (Evs.cons rfl (Evs.cons rfl Evs.nil)) rfl ?_) | (refine Ops.k_callf 17 ?_; refine Ops.callV hPO (Evs.cons rfl (Evs.cons rfl Evs.nil)) rfl ?_) | (refine Ops.k_callf 16 ?_; refine Ops.callV hE1 (Evs.cons rfl (Evs.cons rfl Evs.nil)) rfl ?_) | (refine Ops.k_callf 16 ?_; refine Ops.callV hE3 (Evs.cons rfl (Evs.cons rfl Evs.nil)) rfl ?_) | (refine Ops.k_callf 22 ?_; refine Ops.callV hEq (Evs.cons rfl (Evs.cons rfl Evs.nil)) rfl ?_)) | (apply OpW.k_call; first | (apply OpW.k_callf 9; exact OpW.callV hC (Evs.cons rfl Evs.nil)) | (apply OpW.k_callf 8; exact OpW.callV hC2 (Evs.cons rfl Evs.nil)) | (apply OpW.k_callf 10; exact OpW.callV hRm (Evs.cons rfl Evs.nil)) | (apply OpW.k_callf 11; exact OpW.callV hP (Evs.cons rfl (Evs.cons rfl (Evs.cons rfl Evs.nil)))) | (apply OpW.k_callf 13; exact OpW.callV hR (Evs.cons rfl (Evs.cons rfl (Evs.cons rfl Evs.nil)))) | (apply OpW.k_callf 12; exact OpW.callV hS (Evs.cons rfl (Evs.cons rfl Evs.nil))) | (apply OpW.k_callf 15; exact OpW.callV hPF (Evs.cons rfl (Evs.cons rfl (Evs.cons rfl Evs.nil)))) | (apply OpW.k_callf 18; exact OpW.callV hRF (Evs.cons rfl (Evs.cons rfl (Evs.cons rfl Evs.nil)))) | (apply OpW.k_callf 20; exact OpW.callV stocks_fn Evs.nil) | (apply OpW.k_callf 14; exact OpW.callV hRmO (Evs.cons rfl Evs.nil)) | (apply OpW.k_callf 21; exact OpW.callV hSO (Evs.cons rfl (Evs.cons rfl Evs.nil))) | (apply OpW.k_callf 17; exact OpW.callV hPO (Evs.cons rfl (Evs.cons rfl Evs.nil))) | (apply OpW.k_callf 16; exact OpW.callV hE1 (Evs.cons rfl (Evs.cons rfl Evs.nil))) | (apply OpW.k_callf 16; exact OpW.callV hE3 (Evs.cons rfl (Evs.cons rfl Evs.nil))) | (apply OpW.k_callf 22; exact OpW.callV hEq (Evs.cons rfl (Evs.cons rfl Evs.nil)))) | refine goR ?_ | refine goP ?_ | apply PSeq.cons | apply PSeq.yes rfl rfl rfl | exact goW | fail)
        all_goals (refine Fin.ret Ent.refl (Outs.one rfl rfl) ?_; exact rfl)
      · have hP := push_fn ⟨prod, most, ps⟩ l (by omega) p (by omega) cp
        have hPO := pushOf_fn ⟨prod, most, ps⟩ l p (by omega) cp
        have hE1 := sameCoil_fn (pushC ⟨prod, most, ps⟩ p) (by unfold pushC; simp only; have := joinP_len (ps ++ p); rw [List.length_append] at this; omega)
        have hR := rotBad_fn ⟨prod, most, ps⟩ hcl l (by omega) p (by omega) cr
        have hS := sellBad_fn ⟨prod, most, ps⟩ hcl m cs
        have hSO := sellOfBad_fn ⟨prod, most, ps⟩ e0 m cs
        have hNC := sameCoil0_fn
        have hNE := equal_piece [] (by simp)
        rw [List.map_nil] at hNE
        try unfold pushC at *
        try unfold sellC at *
        try unfold rotC at *
        unfold Coil.row at *
        simp only at *
        rw [cp] at hPF hRF
        generalize joinP (ps ++ p) = jp at *
        generalize rotErr ⟨prod, most, ps⟩ l p = re at *
        generalize sellErr ⟨prod, most, ps⟩ m = se at *
        generalize unitsI ps = u at *
        repeat' (first | refine goH ?_ | (refine Ops.k_b_eql ?_; first | (refine Ops.val' rfl (OpV.eql_t rfl rfl (by omega)) ?_) | (refine Ops.val' rfl (OpV.eql_f rfl rfl (by omega)) ?_)) | (refine Ops.k_b_neq ?_; first | (refine Ops.val' rfl (OpV.neq_f rfl rfl (by omega)) ?_) | (refine Ops.val' rfl (OpV.neq_t rfl rfl (by omega)) ?_)) | refine goV ?_ | refine goB (fun b => ?_) | refine goG ?_ | (refine Ops.k_guard ?_; first | (refine Ops.guard_dec rfl rfl (fun hc => ?_) (fun hc => ?_) <;> try (exfalso; omega)) | refine Ops.guard_split rfl rfl (fun hc => ?_) (fun hc => ?_)) | refine goI ?_ | (refine Cw.k_cond ?_; first | (refine Cw.cond_dec rfl (fun hc => ?_) (fun hc => ?_) <;> try (exfalso; omega)) | refine Cw.cond_bool rfl (fun hc => ?_) (fun hc => ?_)) | (refine Ops.k_calla ?_; first | (refine Ops.k_callf 9 ?_; refine Ops.callV hC (Evs.cons rfl Evs.nil) rfl ?_) | (refine Ops.k_callf 8 ?_; refine Ops.callV hC2 (Evs.cons rfl Evs.nil) rfl ?_) | (refine Ops.k_callf 10 ?_; refine Ops.callV hRm (Evs.cons rfl Evs.nil) rfl ?_) | (refine Ops.k_callf 11 ?_; refine Ops.callV hP (Evs.cons rfl (Evs.cons rfl (Evs.cons rfl Evs.nil))) rfl ?_) | (refine Ops.k_callf 13 ?_; refine Ops.callV hR (Evs.cons rfl (Evs.cons rfl (Evs.cons rfl Evs.nil))) rfl ?_) | (refine Ops.k_callf 12 ?_; refine Ops.callV hS (Evs.cons rfl (Evs.cons rfl Evs.nil)) rfl ?_) | (refine Ops.k_callf 15 ?_; refine Ops.callV hPF (Evs.cons rfl (Evs.cons rfl (Evs.cons rfl Evs.nil))) rfl ?_) | (refine Ops.k_callf 18 ?_; refine Ops.callV hRF (Evs.cons rfl (Evs.cons rfl (Evs.cons rfl Evs.nil))) rfl ?_) | (refine Ops.k_callf 20 ?_; refine Ops.callV stocks_fn Evs.nil rfl ?_) | (refine Ops.k_callf 14 ?_; refine Ops.callV hRmO (Evs.cons rfl Evs.nil) rfl ?_) | (refine Ops.k_callf 21 ?_; refine Ops.callV hSO (Evs.cons rfl (Evs.cons rfl Evs.nil)) rfl ?_) | (refine Ops.k_callf 17 ?_; refine Ops.callV hPO (Evs.cons rfl (Evs.cons rfl Evs.nil)) rfl ?_) | (refine Ops.k_callf 16 ?_; refine Ops.callV hE1 (Evs.cons rfl (Evs.cons rfl Evs.nil)) rfl ?_) | (refine Ops.k_callf 16 ?_; refine Ops.callV hNC (Evs.cons rfl (Evs.cons rfl Evs.nil)) rfl ?_) | (refine Ops.k_callf 22 ?_; refine Ops.callV hNE (Evs.cons rfl (Evs.cons rfl Evs.nil)) rfl ?_)) | (apply OpW.k_call; first | (apply OpW.k_callf 9; exact OpW.callV hC (Evs.cons rfl Evs.nil)) | (apply OpW.k_callf 8; exact OpW.callV hC2 (Evs.cons rfl Evs.nil)) | (apply OpW.k_callf 10; exact OpW.callV hRm (Evs.cons rfl Evs.nil)) | (apply OpW.k_callf 11; exact OpW.callV hP (Evs.cons rfl (Evs.cons rfl (Evs.cons rfl Evs.nil)))) | (apply OpW.k_callf 13; exact OpW.callV hR (Evs.cons rfl (Evs.cons rfl (Evs.cons rfl Evs.nil)))) | (apply OpW.k_callf 12; exact OpW.callV hS (Evs.cons rfl (Evs.cons rfl Evs.nil))) | (apply OpW.k_callf 15; exact OpW.callV hPF (Evs.cons rfl (Evs.cons rfl (Evs.cons rfl Evs.nil)))) | (apply OpW.k_callf 18; exact OpW.callV hRF (Evs.cons rfl (Evs.cons rfl (Evs.cons rfl Evs.nil)))) | (apply OpW.k_callf 20; exact OpW.callV stocks_fn Evs.nil) | (apply OpW.k_callf 14; exact OpW.callV hRmO (Evs.cons rfl Evs.nil)) | (apply OpW.k_callf 21; exact OpW.callV hSO (Evs.cons rfl (Evs.cons rfl Evs.nil))) | (apply OpW.k_callf 17; exact OpW.callV hPO (Evs.cons rfl (Evs.cons rfl Evs.nil))) | (apply OpW.k_callf 16; exact OpW.callV hE1 (Evs.cons rfl (Evs.cons rfl Evs.nil))) | (apply OpW.k_callf 16; exact OpW.callV hNC (Evs.cons rfl (Evs.cons rfl Evs.nil))) | (apply OpW.k_callf 22; exact OpW.callV hNE (Evs.cons rfl (Evs.cons rfl Evs.nil)))) | refine goR ?_ | refine goP ?_ | apply PSeq.cons | apply PSeq.yes rfl rfl rfl | exact goW | fail)
        all_goals (refine Fin.ret Ent.refl (Outs.one rfl rfl) ?_; exact rfl)
  · have cr : rotErr ⟨prod, most, ps⟩ l p ≠ 0 := by rw [hRO0, if_pos cp]; exact cp
    clear hRO0
    by_cases cs : sellErr ⟨prod, most, ps⟩ m = 0
    · have hP := pushBad_fn ⟨prod, most, ps⟩ hcl l (by omega) p (by omega) cp
      have hR := rotBad_fn ⟨prod, most, ps⟩ hcl l (by omega) p (by omega) cr
      have hS := sell_fn ⟨prod, most, ps⟩ m cs
      have hSO := sellOf_fn ⟨prod, most, ps⟩ e0 m cs
      have hE3 := sameCoil_fn (sellC ⟨prod, most, ps⟩ m) (by unfold sellC; simp only; have := (sell_len ps m).2; omega)
      have hEq := equal_piece (sell m ps).1 (by have := (sell_len ps m).1; omega)
      try unfold pushC at *
      try unfold sellC at *
      try unfold rotC at *
      unfold Coil.row at *
      simp only at *
      generalize pushErr ⟨prod, most, ps⟩ l p = pe at *
      generalize rotErr ⟨prod, most, ps⟩ l p = re at *
      generalize (sell m ps).1 = s1 at *
      generalize (sell m ps).2 = s2 at *
      generalize unitsI ps = u at *
      repeat' (first | refine goH ?_ | (refine Ops.k_b_eql ?_; first | (refine Ops.val' rfl (OpV.eql_t rfl rfl (by omega)) ?_) | (refine Ops.val' rfl (OpV.eql_f rfl rfl (by omega)) ?_)) | (refine Ops.k_b_neq ?_; first | (refine Ops.val' rfl (OpV.neq_f rfl rfl (by omega)) ?_) | (refine Ops.val' rfl (OpV.neq_t rfl rfl (by omega)) ?_)) | refine goV ?_ | refine goB (fun b => ?_) | refine goG ?_ | (refine Ops.k_guard ?_; first | (refine Ops.guard_dec rfl rfl (fun hc => ?_) (fun hc => ?_) <;> try (exfalso; omega)) | refine Ops.guard_split rfl rfl (fun hc => ?_) (fun hc => ?_)) | refine goI ?_ | (refine Cw.k_cond ?_; first | (refine Cw.cond_dec rfl (fun hc => ?_) (fun hc => ?_) <;> try (exfalso; omega)) | refine Cw.cond_bool rfl (fun hc => ?_) (fun hc => ?_)) | (refine Ops.k_calla ?_; first | (refine Ops.k_callf 9 ?_; refine Ops.callV hC (Evs.cons rfl Evs.nil) rfl ?_) | (refine Ops.k_callf 8 ?_; refine Ops.callV hC2 (Evs.cons rfl Evs.nil) rfl ?_) | (refine Ops.k_callf 10 ?_; refine Ops.callV hRm (Evs.cons rfl Evs.nil) rfl ?_) | (refine Ops.k_callf 11 ?_; refine Ops.callV hP (Evs.cons rfl (Evs.cons rfl (Evs.cons rfl Evs.nil))) rfl ?_) | (refine Ops.k_callf 13 ?_; refine Ops.callV hR (Evs.cons rfl (Evs.cons rfl (Evs.cons rfl Evs.nil))) rfl ?_) | (refine Ops.k_callf 12 ?_; refine Ops.callV hS (Evs.cons rfl (Evs.cons rfl Evs.nil)) rfl ?_) | (refine Ops.k_callf 15 ?_; refine Ops.callV hPF (Evs.cons rfl (Evs.cons rfl (Evs.cons rfl Evs.nil))) rfl ?_) | (refine Ops.k_callf 18 ?_; refine Ops.callV hRF (Evs.cons rfl (Evs.cons rfl (Evs.cons rfl Evs.nil))) rfl ?_) | (refine Ops.k_callf 20 ?_; refine Ops.callV stocks_fn Evs.nil rfl ?_) | (refine Ops.k_callf 14 ?_; refine Ops.callV hRmO (Evs.cons rfl Evs.nil) rfl ?_) | (refine Ops.k_callf 21 ?_; refine Ops.callV hSO (Evs.cons rfl (Evs.cons rfl Evs.nil)) rfl ?_) | (refine Ops.k_callf 16 ?_; refine Ops.callV hE3 (Evs.cons rfl (Evs.cons rfl Evs.nil)) rfl ?_) | (refine Ops.k_callf 22 ?_; refine Ops.callV hEq (Evs.cons rfl (Evs.cons rfl Evs.nil)) rfl ?_)) | (apply OpW.k_call; first | (apply OpW.k_callf 9; exact OpW.callV hC (Evs.cons rfl Evs.nil)) | (apply OpW.k_callf 8; exact OpW.callV hC2 (Evs.cons rfl Evs.nil)) | (apply OpW.k_callf 10; exact OpW.callV hRm (Evs.cons rfl Evs.nil)) | (apply OpW.k_callf 11; exact OpW.callV hP (Evs.cons rfl (Evs.cons rfl (Evs.cons rfl Evs.nil)))) | (apply OpW.k_callf 13; exact OpW.callV hR (Evs.cons rfl (Evs.cons rfl (Evs.cons rfl Evs.nil)))) | (apply OpW.k_callf 12; exact OpW.callV hS (Evs.cons rfl (Evs.cons rfl Evs.nil))) | (apply OpW.k_callf 15; exact OpW.callV hPF (Evs.cons rfl (Evs.cons rfl (Evs.cons rfl Evs.nil)))) | (apply OpW.k_callf 18; exact OpW.callV hRF (Evs.cons rfl (Evs.cons rfl (Evs.cons rfl Evs.nil)))) | (apply OpW.k_callf 20; exact OpW.callV stocks_fn Evs.nil) | (apply OpW.k_callf 14; exact OpW.callV hRmO (Evs.cons rfl Evs.nil)) | (apply OpW.k_callf 21; exact OpW.callV hSO (Evs.cons rfl (Evs.cons rfl Evs.nil))) | (apply OpW.k_callf 16; exact OpW.callV hE3 (Evs.cons rfl (Evs.cons rfl Evs.nil))) | (apply OpW.k_callf 22; exact OpW.callV hEq (Evs.cons rfl (Evs.cons rfl Evs.nil)))) | refine goR ?_ | refine goP ?_ | apply PSeq.cons | apply PSeq.yes rfl rfl rfl | exact goW | fail)
      all_goals (refine Fin.ret Ent.refl (Outs.one rfl rfl) ?_; exact rfl)
    · have hP := pushBad_fn ⟨prod, most, ps⟩ hcl l (by omega) p (by omega) cp
      have hR := rotBad_fn ⟨prod, most, ps⟩ hcl l (by omega) p (by omega) cr
      have hS := sellBad_fn ⟨prod, most, ps⟩ hcl m cs
      have hSO := sellOfBad_fn ⟨prod, most, ps⟩ e0 m cs
      have hNC := sameCoil0_fn
      have hNE := equal_piece [] (by simp)
      rw [List.map_nil] at hNE
      try unfold pushC at *
      try unfold sellC at *
      try unfold rotC at *
      unfold Coil.row at *
      simp only at *
      generalize pushErr ⟨prod, most, ps⟩ l p = pe at *
      generalize rotErr ⟨prod, most, ps⟩ l p = re at *
      generalize sellErr ⟨prod, most, ps⟩ m = se at *
      generalize unitsI ps = u at *
      repeat' (first | refine goH ?_ | (refine Ops.k_b_eql ?_; first | (refine Ops.val' rfl (OpV.eql_t rfl rfl (by omega)) ?_) | (refine Ops.val' rfl (OpV.eql_f rfl rfl (by omega)) ?_)) | (refine Ops.k_b_neq ?_; first | (refine Ops.val' rfl (OpV.neq_f rfl rfl (by omega)) ?_) | (refine Ops.val' rfl (OpV.neq_t rfl rfl (by omega)) ?_)) | refine goV ?_ | refine goB (fun b => ?_) | refine goG ?_ | (refine Ops.k_guard ?_; first | (refine Ops.guard_dec rfl rfl (fun hc => ?_) (fun hc => ?_) <;> try (exfalso; omega)) | refine Ops.guard_split rfl rfl (fun hc => ?_) (fun hc => ?_)) | refine goI ?_ | (refine Cw.k_cond ?_; first | (refine Cw.cond_dec rfl (fun hc => ?_) (fun hc => ?_) <;> try (exfalso; omega)) | refine Cw.cond_bool rfl (fun hc => ?_) (fun hc => ?_)) | (refine Ops.k_calla ?_; first | (refine Ops.k_callf 9 ?_; refine Ops.callV hC (Evs.cons rfl Evs.nil) rfl ?_) | (refine Ops.k_callf 8 ?_; refine Ops.callV hC2 (Evs.cons rfl Evs.nil) rfl ?_) | (refine Ops.k_callf 10 ?_; refine Ops.callV hRm (Evs.cons rfl Evs.nil) rfl ?_) | (refine Ops.k_callf 11 ?_; refine Ops.callV hP (Evs.cons rfl (Evs.cons rfl (Evs.cons rfl Evs.nil))) rfl ?_) | (refine Ops.k_callf 13 ?_; refine Ops.callV hR (Evs.cons rfl (Evs.cons rfl (Evs.cons rfl Evs.nil))) rfl ?_) | (refine Ops.k_callf 12 ?_; refine Ops.callV hS (Evs.cons rfl (Evs.cons rfl Evs.nil)) rfl ?_) | (refine Ops.k_callf 15 ?_; refine Ops.callV hPF (Evs.cons rfl (Evs.cons rfl (Evs.cons rfl Evs.nil))) rfl ?_) | (refine Ops.k_callf 18 ?_; refine Ops.callV hRF (Evs.cons rfl (Evs.cons rfl (Evs.cons rfl Evs.nil))) rfl ?_) | (refine Ops.k_callf 20 ?_; refine Ops.callV stocks_fn Evs.nil rfl ?_) | (refine Ops.k_callf 14 ?_; refine Ops.callV hRmO (Evs.cons rfl Evs.nil) rfl ?_) | (refine Ops.k_callf 21 ?_; refine Ops.callV hSO (Evs.cons rfl (Evs.cons rfl Evs.nil)) rfl ?_) | (refine Ops.k_callf 16 ?_; refine Ops.callV hNC (Evs.cons rfl (Evs.cons rfl Evs.nil)) rfl ?_) | (refine Ops.k_callf 22 ?_; refine Ops.callV hNE (Evs.cons rfl (Evs.cons rfl Evs.nil)) rfl ?_)) | (apply OpW.k_call; first | (apply OpW.k_callf 9; exact OpW.callV hC (Evs.cons rfl Evs.nil)) | (apply OpW.k_callf 8; exact OpW.callV hC2 (Evs.cons rfl Evs.nil)) | (apply OpW.k_callf 10; exact OpW.callV hRm (Evs.cons rfl Evs.nil)) | (apply OpW.k_callf 11; exact OpW.callV hP (Evs.cons rfl (Evs.cons rfl (Evs.cons rfl Evs.nil)))) | (apply OpW.k_callf 13; exact OpW.callV hR (Evs.cons rfl (Evs.cons rfl (Evs.cons rfl Evs.nil)))) | (apply OpW.k_callf 12; exact OpW.callV hS (Evs.cons rfl (Evs.cons rfl Evs.nil))) | (apply OpW.k_callf 15; exact OpW.callV hPF (Evs.cons rfl (Evs.cons rfl (Evs.cons rfl Evs.nil)))) | (apply OpW.k_callf 18; exact OpW.callV hRF (Evs.cons rfl (Evs.cons rfl (Evs.cons rfl Evs.nil)))) | (apply OpW.k_callf 20; exact OpW.callV stocks_fn Evs.nil) | (apply OpW.k_callf 14; exact OpW.callV hRmO (Evs.cons rfl Evs.nil)) | (apply OpW.k_callf 21; exact OpW.callV hSO (Evs.cons rfl (Evs.cons rfl Evs.nil))) | (apply OpW.k_callf 16; exact OpW.callV hNC (Evs.cons rfl (Evs.cons rfl Evs.nil))) | (apply OpW.k_callf 22; exact OpW.callV hNE (Evs.cons rfl (Evs.cons rfl Evs.nil)))) | refine goR ?_ | refine goP ?_ | apply PSeq.cons | apply PSeq.yes rfl rfl rfl | exact goW | fail)
      all_goals (refine Fin.ret Ent.refl (Outs.one rfl rfl) ?_; exact rfl)
end Lg
end
