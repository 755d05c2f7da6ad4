/- A part of the proof of a law of this seat: it adds no condition. By an AI agent. -/
import Derived.ChangeKeysEq
import Derived.KernelRfl
import Derived.Test.YtmncgklajohcbaaGreatDoorOneU
set_option linter.all false
set_option maxRecDepth 100000
set_option maxHeartbeats 8000000
namespace Lg
open Go Go.Proofs

theorem wne_eq0 (n : Nat) (a b : Int) (w : World) : (Op.equalIn (n + 1 + 1) 32 (.agg #[.int .i64 a, .int .i64 b]) (.agg #[.int .i64 a, .int .i64 b])).run Tryz.prog w = .ok true w := by
  have hs : Tryz.prog.stoodInHeld 32 = false := by kernel_rfl
  simp [Op.equalIn, run_underlying Tryz.underlying32, run_underlying Tryz.underlying3, hs, part, Go.sizeOf, typeInfo]
theorem wne_ne1 (a b : Int) (w : World) : (binOp .neq 32 (.agg #[.int .i64 a, .int .i64 b]) (.agg #[.int .i64 a, .int .i64 b])).run Tryz.prog w = .ok (.bool false) w := by
  show (do let r ← Op.equalIn (9998 + 1 + 1) 32 _ _; pure (Value.bool !r) : Sem Value).run Tryz.prog w = _
  have := wne_eq0 9998 a b w
  generalize Op.equalIn (9998 + 1 + 1) 32 (.agg #[.int .i64 a, .int .i64 b]) (.agg #[.int .i64 a, .int .i64 b]) = s at *
  simp [this]
section
variable {Γ : Ctx} {env : Env} {cs : List Chunk} {x y : Operand} {T2 ty : TypeId}
theorem OpV.wne_ne_f {a b : Int} (hx : ev env x = some (.agg ([.int .i64 a, .int .i64 b].map Tr.raw))) (hy : ev env y = some (.agg ([.int .i64 a, .int .i64 b].map Tr.raw))) : OpV Tryz.prog Γ (.binOp .neq 32 x y T2) ty env cs (.bool false) := by
  unfold OpV
  intro ac w d
  have h1 := agg_raw (l := [.int .i64 a, .int .i64 b]) (d.ev hx)
  have h2 := agg_raw (l := [.int .i64 a, .int .i64 b]) (d.ev hy)
  have h3 := wne_ne1 a b w
  have h4 : (eqGuard .neq 32 x y (.agg #[.int .i64 a, .int .i64 b]) (.agg #[.int .i64 a, .int .i64 b])).run Tryz.prog w = .ok () w := by simp [eqGuard]
  exact ⟨.bool false, by simp [execOp, h1, h2, h3, h4], by unfold Tr.bool Tr.raw; rfl⟩
end
theorem equal_wne (xs : List Wn) (h : xs.length ≤ 1000000000) : PFn Tryz.prog 19 [.sl 2 (xs.map Wn.row), .sl 2 (xs.map Wn.row)] (· = .bool true) := by
  refine PFn.mk (Spec.body Tryz.func19 rfl rfl (Tryz.ntmps19) rfl fun w0 own0 M => ?_)
  have hL : (xs.map Wn.row).length = xs.length := List.length_map _
  repeat' (first | refine goH ?_ | refine goV ?_ | refine goI ?_ | (refine Cw.k_cond ?_; first | (refine Cw.cond_dec rfl (fun hc => ?_) (fun hc => ?_) <;> try (exfalso; omega)) | refine Cw.cond_bool rfl (fun hc => ?_) (fun hc => ?_)) | refine goR ?_ | refine goP ?_ | apply PSeq.cons | apply PSeq.yes rfl rfl rfl | exact goW | fail)
  refine Cw.loop (ι := Nat) (fun k => k ≤ xs.length) (fun k => [(0, .sl 2 (xs.map Wn.row)), (1, .sl 2 (xs.map Wn.row)), (11, .sl 2 (xs.map Wn.row)), (12, .int (xs.map Wn.row).length), (13, .int k)]) (fun _ => []) (fun k => xs.length - k) ⟨0, by omega, (Ent.mk goSub goTk)⟩ ?_
  intro k hk
  by_cases hkl : k < xs.length
  · obtain ⟨d, hd⟩ : ∃ x, xs[k]? = some x := ⟨_, List.getElem?_eq_getElem hkl⟩
    have hrow : (xs.map Wn.row)[k]? = some [Tr.int d.fr, Tr.int d.to] := rows_at hd
    repeat' (first | refine goH ?_ | refine goV ?_ | refine goI ?_ | (refine Cw.k_cond ?_; first | (refine Cw.cond_dec rfl (fun hc => ?_) (fun hc => ?_) <;> try (exfalso; omega)) | refine Cw.cond_bool rfl (fun hc => ?_) (fun hc => ?_)) | (apply OpV.w; apply OpV.wne_ne_f; exact rfl; exact rfl) | refine goR ?_ | refine goP ?_ | apply PSeq.cons | apply PSeq.yes rfl rfl rfl | exact goW | fail)
    exact ⟨k + 1, by omega, by omega, (Ent.mk goSub goTk)⟩
  · repeat' (first | refine goH ?_ | refine goV ?_ | refine goI ?_ | (refine Cw.k_cond ?_; first | (refine Cw.cond_dec rfl (fun hc => ?_) (fun hc => ?_) <;> try (exfalso; omega)) | refine Cw.cond_bool rfl (fun hc => ?_) (fun hc => ?_)) | refine goR ?_ | refine goP ?_ | apply PSeq.cons | apply PSeq.yes rfl rfl rfl | exact goW | fail)
    exact Fin.ret Ent.refl (Outs.one rfl rfl) ⟨rfl, rfl⟩

theorem fde_eq0 (n : Nat) (p : ByteArray) (r s : Int) (w : World) : (Op.equalIn (n + 1 + 1) 55 (.agg #[.string p, .int .i64 r, .int .i64 s]) (.agg #[.string p, .int .i64 r, .int .i64 s])).run Tryz.prog w = .ok true w := by
  have hs : Tryz.prog.stoodInHeld 55 = false := by kernel_rfl
  simp [Op.equalIn, run_underlying Tryz.underlying55, run_underlying Tryz.underlying9, run_underlying Tryz.underlying3, ba_self, hs, part, Go.sizeOf, typeInfo]
theorem fde_ne1 (p : ByteArray) (r s : Int) (w : World) : (binOp .neq 55 (.agg #[.string p, .int .i64 r, .int .i64 s]) (.agg #[.string p, .int .i64 r, .int .i64 s])).run Tryz.prog w = .ok (.bool false) w := by
  show (do let r ← Op.equalIn (9998 + 1 + 1) 55 _ _; pure (Value.bool !r) : Sem Value).run Tryz.prog w = _
  have := fde_eq0 9998 p r s w
  generalize Op.equalIn (9998 + 1 + 1) 55 (.agg #[.string p, .int .i64 r, .int .i64 s]) (.agg #[.string p, .int .i64 r, .int .i64 s]) = s at *
  simp [this]
section
variable {Γ : Ctx} {env : Env} {cs : List Chunk} {x y : Operand} {T2 ty : TypeId}
theorem OpV.fde_ne_f {p : ByteArray} {r s : Int} (hx : ev env x = some (.agg ([.string p, .int .i64 r, .int .i64 s].map Tr.raw))) (hy : ev env y = some (.agg ([.string p, .int .i64 r, .int .i64 s].map Tr.raw))) : OpV Tryz.prog Γ (.binOp .neq 55 x y T2) ty env cs (.bool false) := by
  unfold OpV
  intro ac w d
  have h1 := agg_raw (l := [.string p, .int .i64 r, .int .i64 s]) (d.ev hx)
  have h2 := agg_raw (l := [.string p, .int .i64 r, .int .i64 s]) (d.ev hy)
  have h3 := fde_ne1 p r s w
  have h4 : (eqGuard .neq 55 x y (.agg #[.string p, .int .i64 r, .int .i64 s]) (.agg #[.string p, .int .i64 r, .int .i64 s])).run Tryz.prog w = .ok () w := by simp [eqGuard]
  exact ⟨.bool false, by simp [execOp, h1, h2, h3, h4], by unfold Tr.bool Tr.raw; rfl⟩
end
theorem equal_fde (xs : List Fd) (h : xs.length ≤ 1000000000) : PFn Tryz.prog 22 [.sl 3 (xs.map Fd.row), .sl 3 (xs.map Fd.row)] (· = .bool true) := by
  refine PFn.mk (Spec.body Tryz.func22 rfl rfl (Tryz.ntmps22) rfl fun w0 own0 M => ?_)
  have hL : (xs.map Fd.row).length = xs.length := List.length_map _
  repeat' (first | refine goH ?_ | refine goV ?_ | refine goI ?_ | (refine Cw.k_cond ?_; first | (refine Cw.cond_dec rfl (fun hc => ?_) (fun hc => ?_) <;> try (exfalso; omega)) | refine Cw.cond_bool rfl (fun hc => ?_) (fun hc => ?_)) | refine goR ?_ | refine goP ?_ | apply PSeq.cons | apply PSeq.yes rfl rfl rfl | exact goW | fail)
  refine Cw.loop (ι := Nat) (fun k => k ≤ xs.length) (fun k => [(0, .sl 3 (xs.map Fd.row)), (1, .sl 3 (xs.map Fd.row)), (11, .sl 3 (xs.map Fd.row)), (12, .int (xs.map Fd.row).length), (13, .int k)]) (fun _ => []) (fun k => xs.length - k) ⟨0, by omega, (Ent.mk goSub goTk)⟩ ?_
  intro k hk
  by_cases hkl : k < xs.length
  · obtain ⟨d, hd⟩ : ∃ x, xs[k]? = some x := ⟨_, List.getElem?_eq_getElem hkl⟩
    have hrow : (xs.map Fd.row)[k]? = some [.str d.flt, .int d.fr, .int d.to] := rows_at hd
    repeat' (first | refine goH ?_ | refine goV ?_ | refine goI ?_ | (refine Cw.k_cond ?_; first | (refine Cw.cond_dec rfl (fun hc => ?_) (fun hc => ?_) <;> try (exfalso; omega)) | refine Cw.cond_bool rfl (fun hc => ?_) (fun hc => ?_)) | (apply OpV.w; apply OpV.fde_ne_f; exact rfl; exact rfl) | refine goR ?_ | refine goP ?_ | apply PSeq.cons | apply PSeq.yes rfl rfl rfl | exact goW | fail)
    exact ⟨k + 1, by omega, by omega, (Ent.mk goSub goTk)⟩
  · repeat' (first | refine goH ?_ | refine goV ?_ | refine goI ?_ | (refine Cw.k_cond ?_; first | (refine Cw.cond_dec rfl (fun hc => ?_) (fun hc => ?_) <;> try (exfalso; omega)) | refine Cw.cond_bool rfl (fun hc => ?_) (fun hc => ?_)) | refine goR ?_ | refine goP ?_ | apply PSeq.cons | apply PSeq.yes rfl rfl rfl | exact goW | fail)
    exact Fin.ret Ent.refl (Outs.one rfl rfl) ⟨rfl, rfl⟩

theorem or2_0 (d : Int) : orI [0, d] = d := by unfold orI orI; simp only [orI]; split <;> (try split) <;> omega
theorem or2_n {E : Int} (h : E ≠ 0) (d : Int) : orI [E, d] = E := by rw [orI_cons, if_pos h]
theorem key_D {w : ByteArray} (h : w ∈ ([⟨#[100, 111, 111, 114]⟩, ⟨#[104, 101, 97, 116]⟩, ⟨#[110, 111, 110, 101]⟩, ⟨#[68]⟩] : List ByteArray)) : (w = ⟨#[68]⟩ ∧ isKey w = false) ∨ (¬ w = ⟨#[68]⟩ ∧ isKey w = true) := by
  simp only [List.mem_cons, List.mem_nil_iff, or_false] at h
  rcases h with rfl | rfl | rfl | rfl
  · exact .inr ⟨by decide, by decide +kernel⟩
  · exact .inr ⟨by decide, by decide +kernel⟩
  · exact .inr ⟨by decide, by decide +kernel⟩
  · exact .inl ⟨rfl, by decide +kernel⟩
theorem fd_sorts (u : List Fd) : ∃ Y : List Fd, Y.Perm u ∧ Y.Pairwise fun a b => ¬ cfFd b a < 0 := by
  refine ⟨u.mergeSort (fun a b => decide (¬ cfFd b a < 0)), List.mergeSort_perm _ _, ?_⟩
  have h := List.pairwise_mergeSort (le := fun a b : Fd => decide (¬ cfFd b a < 0)) ?_ ?_ u
  · exact h.imp fun h => of_decide_eq_true h
  · intro a b c h1 h2
    have h1 := of_decide_eq_true h1
    have h2 := of_decide_eq_true h2
    refine decide_eq_true fun h3 => ?_
    by_cases hab : cfFd a b < 0
    · exact h2 (cfFd_trans h3 hab)
    · have := cfFd_anti hab h1
      subst this
      exact h2 h3
  · intro a b
    rw [Bool.or_eq_true]
    by_cases h : cfFd b a < 0
    · refine .inr (decide_eq_true fun h2 => ?_)
      have h3 := swo_F.irrefl a
      rw [(ltF_iff a a).2 (cfFd_trans h2 h)] at h3
      cases h3
    · exact .inl (decide_eq_true h)
theorem fd_bound {l : List Cd} (hl : l.length ≤ 11) (hok : CdOk l) {rs : List Ru} (hr : rs.length ≤ 4) : (fdAll l rs).length ≤ 100 := by
  have h1 := fdAll_len hok rs
  have h2 : rs.length * (l.length + 2) ≤ 4 * 13 := Nat.mul_le_mul hr (by omega)
  omega
attribute [local irreducible] litW ruW fdAll dd codesE rulesE dnE
theorem faultsFound_law (xs : List Int) : Spec Tryz.prog 3 [Tr.ints xs] [] (fun r _ => r = Tr.bool true) := by
  refine Spec.body Tryz.func3 rfl rfl (Tryz.ntmps3) rfl fun w0 own0 M => ?_
  repeat' (first | refine goH ?_ | ((fail_if_success refine Ops.k_c_call ?_); refine goV ?_) | ((fail_if_success refine Ops.k_c_call ?_); refine goB (fun b => ?_)) | refine goG ?_ | (refine Ops.k_guard ?_; first | (refine Ops.guard_dec rfl rfl (fun hc => ?_) (fun hc => ?_) <;> try (exfalso; omega)) | refine Ops.guard_split rfl rfl (fun hc => ?_) (fun hc => ?_)) | refine goI ?_ | (refine Cw.k_cond ?_; first | (refine Cw.cond_dec rfl (fun hc => ?_) (fun hc => ?_) <;> try (exfalso; omega)) | refine Cw.cond_bool rfl (fun hc => ?_) (fun hc => ?_)) | refine Ops.shut0 (ty := 25) rfl ?_ | (refine Ops.k_calla ?_; first | (refine Ops.k_callf 4 ?_; (refine Ops.callG codes_gen (Evs.cons rfl Evs.nil) goPk (by omega) rfl ?_; rintro r ⟨l, rfl, hl⟩)) | (refine Ops.k_callf 5 ?_; (refine Ops.callG (oneU_gen (by repeat' (first | exact IsStrs.nil | apply IsStrs.cons)) (by simp)) (Evs.cons rfl (Evs.cons rfl Evs.nil)) goPk (by omega) rfl ?_; rintro r ⟨key, rfl, hkey⟩)) | (refine Ops.k_callf 6 ?_; (refine Ops.callG codeKeys_gen (Evs.cons rfl Evs.nil) goPk (by omega) rfl ?_; rintro r ⟨ks, rfl, hks⟩)) | (refine Ops.k_callf 7 ?_; (refine Ops.callG window_gen (Evs.cons rfl Evs.nil) goPk (by omega) rfl ?_; rintro r ⟨w, rfl, hw⟩)) | (refine Ops.k_callf 8 ?_; (refine Ops.callG rules_gen (Evs.cons rfl Evs.nil) goPk (by omega) rfl ?_; rintro r ⟨rs, rfl, hrs, hrg⟩))) | fail)
  have hrsB : RuB rs := fun x hx => by have := (hrg x hx).1; omega
  have hrs10 : ∀ x ∈ rs, x.nds.length ≤ 10 ∧ x.wo.length ≤ 10 := fun x hx => (hrg x hx).1
  have hrlo : ∀ x ∈ rs, -1000000000 ≤ x.lng ∧ x.lng ≤ 1000000000 := fun x hx => (hrg x hx).2
  have kM := meters_fn
  have k1 := codesFault_fn l (by omega)
  have k2 := checkCodes_fn l (by omega)
  have k3 := checkRules_fn rs (by omega) hrsB
  have k4 := rulesFault_fn rs (by omega) hrsB
  have k5 := downFault_fn ks (by omega) w
  have kF := faulty_fn l (by omega) key
  unfold fauT at kF
  have o1 : PFn Tryz.prog 16 [.sl 1 [[.int (codesE l)], [.int (dnE ks w)]]] (· = .int (orI [codesE l, dnE ks w])) := cmpOr_fn [codesE l, dnE ks w] (by simp)
  have o2 : PFn Tryz.prog 16 [.sl 1 [[.int (codesE l)], [.int (rulesE rs)]]] (· = .int (orI [codesE l, rulesE rs])) := cmpOr_fn [codesE l, rulesE rs] (by simp)
  by_cases hE : codesE l ≠ 0
  · have kD := down_bad l (by omega) ks (by omega) w (.inl hE)
    have kG := diag_bad l (by omega) rs (by omega) hrsB (by unfold dgE; rw [if_pos hE]; exact hE)
    unfold dgE at kG
    unfold dnT at kD
    rw [if_pos hE] at kF kD kG
    rw [or2_n hE] at o1 o2
    clear hkey hrg hrs10 hrlo hrsB hl hks hrs
    generalize codesE l = E at *
    generalize dnE ks w = de at *
    generalize rulesE rs = re at *
    repeat' (first | refine goH ?_ | (refine Ops.k_b_neq ?_; first | (first | refine Ops.val' rfl (OpV.neq_f rfl rfl rfl) ?_ | refine Ops.val' rfl (OpV.neq_t rfl rfl (by omega)) ?_)) | refine goV ?_ | refine goB (fun b => ?_) | refine goG ?_ | (refine Ops.k_guard ?_; first | (refine Ops.guard_dec rfl rfl (fun hc => ?_) (fun hc => ?_) <;> try (exfalso; omega)) | refine Ops.guard_split rfl rfl (fun hc => ?_) (fun hc => ?_)) | refine goI ?_ | (refine Cw.k_cond ?_; first | (refine Cw.cond_dec rfl (fun hc => ?_) (fun hc => ?_) <;> try (exfalso; omega)) | refine Cw.cond_bool rfl (fun hc => ?_) (fun hc => ?_)) | (refine Ops.k_calla ?_; first | (refine Ops.k_callf 9 ?_; refine Ops.callV k1 (Evs.cons rfl Evs.nil) rfl ?_) | (refine Ops.k_callf 10 ?_; refine Ops.callV k2 (Evs.cons rfl Evs.nil) rfl ?_) | (refine Ops.k_callf 11 ?_; refine Ops.callV k3 (Evs.cons rfl Evs.nil) rfl ?_) | (refine Ops.k_callf 12 ?_; refine Ops.callV k4 (Evs.cons rfl Evs.nil) rfl ?_) | (refine Ops.k_callf 17 ?_; refine Ops.callV k5 (Evs.cons rfl (Evs.cons rfl Evs.nil)) rfl ?_) | (refine Ops.k_callf 13 ?_; refine Ops.callV kF (Evs.cons rfl (Evs.cons rfl Evs.nil)) rfl ?_) | (refine Ops.k_callf 14 ?_; refine Ops.callV kD (Evs.cons rfl (Evs.cons rfl (Evs.cons rfl Evs.nil))) rfl ?_) | (refine Ops.k_callf 15 ?_; refine Ops.callV kG (Evs.cons rfl (Evs.cons rfl Evs.nil)) rfl ?_) | (refine Ops.k_callf 16 ?_; refine Ops.callV o1 (Evs.cons rfl Evs.nil) rfl ?_) | (refine Ops.k_callf 16 ?_; refine Ops.callV o2 (Evs.cons rfl Evs.nil) rfl ?_) | (refine Ops.k_callf 18 ?_; refine Ops.callV kM Evs.nil rfl ?_)) | fail)
    all_goals exact Fin.ret Ent.refl (Outs.one rfl rfl) rfl
  rw [if_neg hE] at kF
  have hE0 : codesE l = 0 := by omega
  have hok := (codes_ok hE0).2
  rw [hE0] at k1 k2 o1 o2
  rw [or2_0] at o1 o2
  have hD : ∃ n : Int, PFn Tryz.prog 14 [.cds l, .strs ks, .agg w.row] (· = .tup [.int n, .int (dnE ks w)]) ∧ (dnE ks w = 0 → PFn Tryz.prog 21 [.cds l, .strs ks, .agg w.row] (· = .int n)) := by
    by_cases h : dnE ks w = 0
    · have h2 := h
      unfold dnE at h2
      have hkl : ¬ ks.length > 50 := fun h3 => by rw [if_pos h3] at h2; cases h2
      rw [if_neg hkl] at h2
      cases h4 : ks.any (fun c => !isKey c) with
      | true => rw [h4, if_pos rfl] at h2; cases h2
      | false =>
        rw [h4, if_neg (by simp)] at h2
        have h5 : ¬ (w.fr < 0 ∨ w.to < w.fr ∨ tEnd < w.to) := fun h3 => by rw [if_pos h3] at h2; cases h2
        have h6 : 0 ≤ w.fr ∧ w.fr ≤ w.to ∧ w.to ≤ 5761440 := by
          have he : tEnd = 5761440 := rfl
          rw [he] at h5
          omega
        refine ⟨_, ?_, fun _ => downOf_fn l (by omega) hok ks (by omega) w h6⟩
        rw [h]
        exact down_ok l (by omega) hE0 ks (by omega) h4 w h6
    · have h1 := down_bad l (by omega) ks (by omega) w (.inr h)
      unfold dnT at h1
      rw [if_neg hE, if_pos h] at h1
      exact ⟨0, h1, fun h2 => absurd h2 h⟩
  have hG : ∃ Z : List Fd, Z.length ≤ 1000 ∧ PFn Tryz.prog 15 [.cds l, .rus rs] (· = .tup [.fds Z, .int (rulesE rs)]) ∧ (rulesE rs = 0 → PFn Tryz.prog 23 [.cds l, .rus rs] (· = .fds Z)) := by
    by_cases h : rulesE rs = 0
    · obtain ⟨Y, hY1, hY2⟩ := fd_sorts (fdAll l rs)
      refine ⟨dd Y, ?_, ?_, fun _ => findingsOf_fn l (by omega) hok rs (by omega) hrsB hrlo Y hY1 hY2⟩
      · have h1 := dd_le Y
        have h2 := fd_bound hl hok hrs
        rw [hY1.length_eq] at h1
        omega
      · rw [h]
        exact diag_ok l (by omega) hE0 rs (by omega) h hrs10 hrlo Y hY1 hY2
    · have h1 := diag_bad l (by omega) rs (by omega) hrsB (by unfold dgE; rw [if_neg (by omega)]; exact h)
      unfold dgE at h1
      rw [if_neg hE] at h1
      exact ⟨[], by simp, h1, fun h2 => absurd h2 h⟩
  have hF : ∃ (A : List Wn) (fe : Int), A.length ≤ 1000 ∧ PFn Tryz.prog 13 [.cds l, .str key] (· = .tup [.wns A, .int fe]) ∧ ((key = ⟨#[68]⟩ ∧ fe = 5) ∨ (¬ key = ⟨#[68]⟩ ∧ fe = 0 ∧ PFn Tryz.prog 20 [.cds l, .str key] (· = .wns A))) := by
    rcases key_D hkey with ⟨h1, h2⟩ | ⟨h1, h2⟩
    · rw [if_pos h2] at kF
      exact ⟨[], 5, by simp, kF, .inl ⟨h1, rfl⟩⟩
    · rw [if_neg (by simp [h2])] at kF
      exact ⟨litW l key, 0, by have := (litW_ok (key := key) hok).2.2; omega, kF, .inr ⟨h1, rfl, faultyOf_fn l (by omega) hok key⟩⟩
  obtain ⟨n, kD, hD⟩ := hD
  obtain ⟨Z, hZl, kG, hG⟩ := hG
  obtain ⟨A, fe, hAl, kA, hF⟩ := hF
  have qA := equal_wne A (by omega)
  have qZ := equal_fde Z (by omega)
  clear kF hkey hrg hrs10 hrlo hrsB hl hks hrs hE hE0 hok
  generalize dnE ks w = de at *
  generalize rulesE rs = re at *
  rcases hF with ⟨hkD, rfl⟩ | ⟨hkD, rfl, kFO⟩
  · by_cases hde : de = 0
    · have kDO := hD hde
      subst hde
      clear hD
      by_cases hre : re = 0
      · have kFi := hG hre
        subst hre
        clear hG
        repeat' (first | refine goH ?_ | (refine Ops.k_b_neq ?_; first | (first | refine Ops.val' rfl (OpV.neq_f rfl rfl rfl) ?_ | refine Ops.val' rfl (OpV.neq_t rfl rfl (by omega)) ?_)) | (refine Ops.k_b_eql ?_; first | (first | refine Ops.val' rfl (OpV.eql_t rfl rfl rfl) ?_ | refine Ops.val' rfl (OpV.eqlS_t rfl rfl hkD) ?_)) | refine goV ?_ | refine goB (fun b => ?_) | refine goG ?_ | (refine Ops.k_guard ?_; first | (refine Ops.guard_dec rfl rfl (fun hc => ?_) (fun hc => ?_) <;> try (exfalso; omega)) | refine Ops.guard_split rfl rfl (fun hc => ?_) (fun hc => ?_)) | refine goI ?_ | (refine Cw.k_cond ?_; first | (refine Cw.cond_dec rfl (fun hc => ?_) (fun hc => ?_) <;> try (exfalso; omega)) | refine Cw.cond_bool rfl (fun hc => ?_) (fun hc => ?_)) | (refine Ops.k_calla ?_; first | (refine Ops.k_callf 9 ?_; refine Ops.callV k1 (Evs.cons rfl Evs.nil) rfl ?_) | (refine Ops.k_callf 10 ?_; refine Ops.callV k2 (Evs.cons rfl Evs.nil) rfl ?_) | (refine Ops.k_callf 11 ?_; refine Ops.callV k3 (Evs.cons rfl Evs.nil) rfl ?_) | (refine Ops.k_callf 12 ?_; refine Ops.callV k4 (Evs.cons rfl Evs.nil) rfl ?_) | (refine Ops.k_callf 17 ?_; refine Ops.callV k5 (Evs.cons rfl (Evs.cons rfl Evs.nil)) rfl ?_) | refine Ops.callV kA (Evs.cons rfl (Evs.cons rfl Evs.nil)) rfl ?_ | (refine Ops.k_callf 14 ?_; refine Ops.callV kD (Evs.cons rfl (Evs.cons rfl (Evs.cons rfl Evs.nil))) rfl ?_) | (refine Ops.k_callf 15 ?_; refine Ops.callV kG (Evs.cons rfl (Evs.cons rfl Evs.nil)) rfl ?_) | (refine Ops.k_callf 16 ?_; refine Ops.callV o1 (Evs.cons rfl Evs.nil) rfl ?_) | (refine Ops.k_callf 16 ?_; refine Ops.callV o2 (Evs.cons rfl Evs.nil) rfl ?_) | (refine Ops.k_callf 18 ?_; refine Ops.callV kM Evs.nil rfl ?_) | refine Ops.callV kDO (Evs.cons rfl (Evs.cons rfl (Evs.cons rfl Evs.nil))) rfl ?_ | refine Ops.callV kFi (Evs.cons rfl (Evs.cons rfl Evs.nil)) rfl ?_ | (refine Ops.k_callf 22 ?_; refine Ops.callV qZ (Evs.cons rfl (Evs.cons rfl Evs.nil)) rfl ?_)) | fail)
        all_goals exact Fin.ret Ent.refl (Outs.one rfl rfl) rfl
      · clear hG
        repeat' (first | refine goH ?_ | (refine Ops.k_b_neq ?_; first | (first | refine Ops.val' rfl (OpV.neq_f rfl rfl rfl) ?_ | refine Ops.val' rfl (OpV.neq_t rfl rfl (by omega)) ?_)) | (refine Ops.k_b_eql ?_; first | (first | refine Ops.val' rfl (OpV.eql_t rfl rfl rfl) ?_ | refine Ops.val' rfl (OpV.eqlS_t rfl rfl hkD) ?_)) | refine goV ?_ | refine goB (fun b => ?_) | refine goG ?_ | (refine Ops.k_guard ?_; first | (refine Ops.guard_dec rfl rfl (fun hc => ?_) (fun hc => ?_) <;> try (exfalso; omega)) | refine Ops.guard_split rfl rfl (fun hc => ?_) (fun hc => ?_)) | refine goI ?_ | (refine Cw.k_cond ?_; first | (refine Cw.cond_dec rfl (fun hc => ?_) (fun hc => ?_) <;> try (exfalso; omega)) | refine Cw.cond_bool rfl (fun hc => ?_) (fun hc => ?_)) | (refine Ops.k_calla ?_; first | (refine Ops.k_callf 9 ?_; refine Ops.callV k1 (Evs.cons rfl Evs.nil) rfl ?_) | (refine Ops.k_callf 10 ?_; refine Ops.callV k2 (Evs.cons rfl Evs.nil) rfl ?_) | (refine Ops.k_callf 11 ?_; refine Ops.callV k3 (Evs.cons rfl Evs.nil) rfl ?_) | (refine Ops.k_callf 12 ?_; refine Ops.callV k4 (Evs.cons rfl Evs.nil) rfl ?_) | (refine Ops.k_callf 17 ?_; refine Ops.callV k5 (Evs.cons rfl (Evs.cons rfl Evs.nil)) rfl ?_) | refine Ops.callV kA (Evs.cons rfl (Evs.cons rfl Evs.nil)) rfl ?_ | (refine Ops.k_callf 14 ?_; refine Ops.callV kD (Evs.cons rfl (Evs.cons rfl (Evs.cons rfl Evs.nil))) rfl ?_) | (refine Ops.k_callf 15 ?_; refine Ops.callV kG (Evs.cons rfl (Evs.cons rfl Evs.nil)) rfl ?_) | (refine Ops.k_callf 16 ?_; refine Ops.callV o1 (Evs.cons rfl Evs.nil) rfl ?_) | (refine Ops.k_callf 16 ?_; refine Ops.callV o2 (Evs.cons rfl Evs.nil) rfl ?_) | (refine Ops.k_callf 18 ?_; refine Ops.callV kM Evs.nil rfl ?_) | refine Ops.callV kDO (Evs.cons rfl (Evs.cons rfl (Evs.cons rfl Evs.nil))) rfl ?_) | fail)
        all_goals exact Fin.ret Ent.refl (Outs.one rfl rfl) rfl
    · clear hD
      by_cases hre : re = 0
      · have kFi := hG hre
        subst hre
        clear hG
        repeat' (first | refine goH ?_ | (refine Ops.k_b_neq ?_; first | (first | refine Ops.val' rfl (OpV.neq_f rfl rfl rfl) ?_ | refine Ops.val' rfl (OpV.neq_t rfl rfl (by omega)) ?_)) | (refine Ops.k_b_eql ?_; first | (first | refine Ops.val' rfl (OpV.eql_t rfl rfl rfl) ?_ | refine Ops.val' rfl (OpV.eqlS_t rfl rfl hkD) ?_)) | refine goV ?_ | refine goB (fun b => ?_) | refine goG ?_ | (refine Ops.k_guard ?_; first | (refine Ops.guard_dec rfl rfl (fun hc => ?_) (fun hc => ?_) <;> try (exfalso; omega)) | refine Ops.guard_split rfl rfl (fun hc => ?_) (fun hc => ?_)) | refine goI ?_ | (refine Cw.k_cond ?_; first | (refine Cw.cond_dec rfl (fun hc => ?_) (fun hc => ?_) <;> try (exfalso; omega)) | refine Cw.cond_bool rfl (fun hc => ?_) (fun hc => ?_)) | (refine Ops.k_calla ?_; first | (refine Ops.k_callf 9 ?_; refine Ops.callV k1 (Evs.cons rfl Evs.nil) rfl ?_) | (refine Ops.k_callf 10 ?_; refine Ops.callV k2 (Evs.cons rfl Evs.nil) rfl ?_) | (refine Ops.k_callf 11 ?_; refine Ops.callV k3 (Evs.cons rfl Evs.nil) rfl ?_) | (refine Ops.k_callf 12 ?_; refine Ops.callV k4 (Evs.cons rfl Evs.nil) rfl ?_) | (refine Ops.k_callf 17 ?_; refine Ops.callV k5 (Evs.cons rfl (Evs.cons rfl Evs.nil)) rfl ?_) | refine Ops.callV kA (Evs.cons rfl (Evs.cons rfl Evs.nil)) rfl ?_ | (refine Ops.k_callf 14 ?_; refine Ops.callV kD (Evs.cons rfl (Evs.cons rfl (Evs.cons rfl Evs.nil))) rfl ?_) | (refine Ops.k_callf 15 ?_; refine Ops.callV kG (Evs.cons rfl (Evs.cons rfl Evs.nil)) rfl ?_) | (refine Ops.k_callf 16 ?_; refine Ops.callV o1 (Evs.cons rfl Evs.nil) rfl ?_) | (refine Ops.k_callf 16 ?_; refine Ops.callV o2 (Evs.cons rfl Evs.nil) rfl ?_) | (refine Ops.k_callf 18 ?_; refine Ops.callV kM Evs.nil rfl ?_) | refine Ops.callV kFi (Evs.cons rfl (Evs.cons rfl Evs.nil)) rfl ?_ | (refine Ops.k_callf 22 ?_; refine Ops.callV qZ (Evs.cons rfl (Evs.cons rfl Evs.nil)) rfl ?_)) | fail)
        all_goals exact Fin.ret Ent.refl (Outs.one rfl rfl) rfl
      · clear hG
        repeat' (first | refine goH ?_ | (refine Ops.k_b_neq ?_; first | (first | refine Ops.val' rfl (OpV.neq_f rfl rfl rfl) ?_ | refine Ops.val' rfl (OpV.neq_t rfl rfl (by omega)) ?_)) | (refine Ops.k_b_eql ?_; first | (first | refine Ops.val' rfl (OpV.eql_t rfl rfl rfl) ?_ | refine Ops.val' rfl (OpV.eqlS_t rfl rfl hkD) ?_)) | refine goV ?_ | refine goB (fun b => ?_) | refine goG ?_ | (refine Ops.k_guard ?_; first | (refine Ops.guard_dec rfl rfl (fun hc => ?_) (fun hc => ?_) <;> try (exfalso; omega)) | refine Ops.guard_split rfl rfl (fun hc => ?_) (fun hc => ?_)) | refine goI ?_ | (refine Cw.k_cond ?_; first | (refine Cw.cond_dec rfl (fun hc => ?_) (fun hc => ?_) <;> try (exfalso; omega)) | refine Cw.cond_bool rfl (fun hc => ?_) (fun hc => ?_)) | (refine Ops.k_calla ?_; first | (refine Ops.k_callf 9 ?_; refine Ops.callV k1 (Evs.cons rfl Evs.nil) rfl ?_) | (refine Ops.k_callf 10 ?_; refine Ops.callV k2 (Evs.cons rfl Evs.nil) rfl ?_) | (refine Ops.k_callf 11 ?_; refine Ops.callV k3 (Evs.cons rfl Evs.nil) rfl ?_) | (refine Ops.k_callf 12 ?_; refine Ops.callV k4 (Evs.cons rfl Evs.nil) rfl ?_) | (refine Ops.k_callf 17 ?_; refine Ops.callV k5 (Evs.cons rfl (Evs.cons rfl Evs.nil)) rfl ?_) | refine Ops.callV kA (Evs.cons rfl (Evs.cons rfl Evs.nil)) rfl ?_ | (refine Ops.k_callf 14 ?_; refine Ops.callV kD (Evs.cons rfl (Evs.cons rfl (Evs.cons rfl Evs.nil))) rfl ?_) | (refine Ops.k_callf 15 ?_; refine Ops.callV kG (Evs.cons rfl (Evs.cons rfl Evs.nil)) rfl ?_) | (refine Ops.k_callf 16 ?_; refine Ops.callV o1 (Evs.cons rfl Evs.nil) rfl ?_) | (refine Ops.k_callf 16 ?_; refine Ops.callV o2 (Evs.cons rfl Evs.nil) rfl ?_) | (refine Ops.k_callf 18 ?_; refine Ops.callV kM Evs.nil rfl ?_)) | fail)
        all_goals exact Fin.ret Ent.refl (Outs.one rfl rfl) rfl
  · by_cases hde : de = 0
    · have kDO := hD hde
      subst hde
      clear hD
      by_cases hre : re = 0
      · have kFi := hG hre
        subst hre
        clear hG
        repeat' (first | refine goH ?_ | (refine Ops.k_b_neq ?_; first | (first | refine Ops.val' rfl (OpV.neq_f rfl rfl rfl) ?_ | refine Ops.val' rfl (OpV.neq_t rfl rfl (by omega)) ?_)) | (refine Ops.k_b_eql ?_; first | (first | refine Ops.val' rfl (OpV.eql_t rfl rfl rfl) ?_ | refine Ops.val' rfl (OpV.eqlS_f rfl rfl hkD) ?_)) | refine goV ?_ | refine goB (fun b => ?_) | refine goG ?_ | (refine Ops.k_guard ?_; first | (refine Ops.guard_dec rfl rfl (fun hc => ?_) (fun hc => ?_) <;> try (exfalso; omega)) | refine Ops.guard_split rfl rfl (fun hc => ?_) (fun hc => ?_)) | refine goI ?_ | (refine Cw.k_cond ?_; first | (refine Cw.cond_dec rfl (fun hc => ?_) (fun hc => ?_) <;> try (exfalso; omega)) | refine Cw.cond_bool rfl (fun hc => ?_) (fun hc => ?_)) | (refine Ops.k_calla ?_; first | (refine Ops.k_callf 9 ?_; refine Ops.callV k1 (Evs.cons rfl Evs.nil) rfl ?_) | (refine Ops.k_callf 10 ?_; refine Ops.callV k2 (Evs.cons rfl Evs.nil) rfl ?_) | (refine Ops.k_callf 11 ?_; refine Ops.callV k3 (Evs.cons rfl Evs.nil) rfl ?_) | (refine Ops.k_callf 12 ?_; refine Ops.callV k4 (Evs.cons rfl Evs.nil) rfl ?_) | (refine Ops.k_callf 17 ?_; refine Ops.callV k5 (Evs.cons rfl (Evs.cons rfl Evs.nil)) rfl ?_) | refine Ops.callV kA (Evs.cons rfl (Evs.cons rfl Evs.nil)) rfl ?_ | (refine Ops.k_callf 14 ?_; refine Ops.callV kD (Evs.cons rfl (Evs.cons rfl (Evs.cons rfl Evs.nil))) rfl ?_) | (refine Ops.k_callf 15 ?_; refine Ops.callV kG (Evs.cons rfl (Evs.cons rfl Evs.nil)) rfl ?_) | (refine Ops.k_callf 16 ?_; refine Ops.callV o1 (Evs.cons rfl Evs.nil) rfl ?_) | (refine Ops.k_callf 16 ?_; refine Ops.callV o2 (Evs.cons rfl Evs.nil) rfl ?_) | (refine Ops.k_callf 18 ?_; refine Ops.callV kM Evs.nil rfl ?_) | refine Ops.callV kFO (Evs.cons rfl (Evs.cons rfl Evs.nil)) rfl ?_ | (refine Ops.k_callf 19 ?_; refine Ops.callV qA (Evs.cons rfl (Evs.cons rfl Evs.nil)) rfl ?_) | refine Ops.callV kDO (Evs.cons rfl (Evs.cons rfl (Evs.cons rfl Evs.nil))) rfl ?_ | refine Ops.callV kFi (Evs.cons rfl (Evs.cons rfl Evs.nil)) rfl ?_ | (refine Ops.k_callf 22 ?_; refine Ops.callV qZ (Evs.cons rfl (Evs.cons rfl Evs.nil)) rfl ?_)) | fail)
        all_goals exact Fin.ret Ent.refl (Outs.one rfl rfl) rfl
      · clear hG
        repeat' (first | refine goH ?_ | (refine Ops.k_b_neq ?_; first | (first | refine Ops.val' rfl (OpV.neq_f rfl rfl rfl) ?_ | refine Ops.val' rfl (OpV.neq_t rfl rfl (by omega)) ?_)) | (refine Ops.k_b_eql ?_; first | (first | refine Ops.val' rfl (OpV.eql_t rfl rfl rfl) ?_ | refine Ops.val' rfl (OpV.eqlS_f rfl rfl hkD) ?_)) | refine goV ?_ | refine goB (fun b => ?_) | refine goG ?_ | (refine Ops.k_guard ?_; first | (refine Ops.guard_dec rfl rfl (fun hc => ?_) (fun hc => ?_) <;> try (exfalso; omega)) | refine Ops.guard_split rfl rfl (fun hc => ?_) (fun hc => ?_)) | refine goI ?_ | (refine Cw.k_cond ?_; first | (refine Cw.cond_dec rfl (fun hc => ?_) (fun hc => ?_) <;> try (exfalso; omega)) | refine Cw.cond_bool rfl (fun hc => ?_) (fun hc => ?_)) | (refine Ops.k_calla ?_; first | (refine Ops.k_callf 9 ?_; refine Ops.callV k1 (Evs.cons rfl Evs.nil) rfl ?_) | (refine Ops.k_callf 10 ?_; refine Ops.callV k2 (Evs.cons rfl Evs.nil) rfl ?_) | (refine Ops.k_callf 11 ?_; refine Ops.callV k3 (Evs.cons rfl Evs.nil) rfl ?_) | (refine Ops.k_callf 12 ?_; refine Ops.callV k4 (Evs.cons rfl Evs.nil) rfl ?_) | (refine Ops.k_callf 17 ?_; refine Ops.callV k5 (Evs.cons rfl (Evs.cons rfl Evs.nil)) rfl ?_) | refine Ops.callV kA (Evs.cons rfl (Evs.cons rfl Evs.nil)) rfl ?_ | (refine Ops.k_callf 14 ?_; refine Ops.callV kD (Evs.cons rfl (Evs.cons rfl (Evs.cons rfl Evs.nil))) rfl ?_) | (refine Ops.k_callf 15 ?_; refine Ops.callV kG (Evs.cons rfl (Evs.cons rfl Evs.nil)) rfl ?_) | (refine Ops.k_callf 16 ?_; refine Ops.callV o1 (Evs.cons rfl Evs.nil) rfl ?_) | (refine Ops.k_callf 16 ?_; refine Ops.callV o2 (Evs.cons rfl Evs.nil) rfl ?_) | (refine Ops.k_callf 18 ?_; refine Ops.callV kM Evs.nil rfl ?_) | refine Ops.callV kFO (Evs.cons rfl (Evs.cons rfl Evs.nil)) rfl ?_ | (refine Ops.k_callf 19 ?_; refine Ops.callV qA (Evs.cons rfl (Evs.cons rfl Evs.nil)) rfl ?_) | refine Ops.callV kDO (Evs.cons rfl (Evs.cons rfl (Evs.cons rfl Evs.nil))) rfl ?_) | fail)
        all_goals exact Fin.ret Ent.refl (Outs.one rfl rfl) rfl
    · clear hD
      by_cases hre : re = 0
      · have kFi := hG hre
        subst hre
        clear hG
        repeat' (first | refine goH ?_ | (refine Ops.k_b_neq ?_; first | (first | refine Ops.val' rfl (OpV.neq_f rfl rfl rfl) ?_ | refine Ops.val' rfl (OpV.neq_t rfl rfl (by omega)) ?_)) | (refine Ops.k_b_eql ?_; first | (first | refine Ops.val' rfl (OpV.eql_t rfl rfl rfl) ?_ | refine Ops.val' rfl (OpV.eqlS_f rfl rfl hkD) ?_)) | refine goV ?_ | refine goB (fun b => ?_) | refine goG ?_ | (refine Ops.k_guard ?_; first | (refine Ops.guard_dec rfl rfl (fun hc => ?_) (fun hc => ?_) <;> try (exfalso; omega)) | refine Ops.guard_split rfl rfl (fun hc => ?_) (fun hc => ?_)) | refine goI ?_ | (refine Cw.k_cond ?_; first | (refine Cw.cond_dec rfl (fun hc => ?_) (fun hc => ?_) <;> try (exfalso; omega)) | refine Cw.cond_bool rfl (fun hc => ?_) (fun hc => ?_)) | (refine Ops.k_calla ?_; first | (refine Ops.k_callf 9 ?_; refine Ops.callV k1 (Evs.cons rfl Evs.nil) rfl ?_) | (refine Ops.k_callf 10 ?_; refine Ops.callV k2 (Evs.cons rfl Evs.nil) rfl ?_) | (refine Ops.k_callf 11 ?_; refine Ops.callV k3 (Evs.cons rfl Evs.nil) rfl ?_) | (refine Ops.k_callf 12 ?_; refine Ops.callV k4 (Evs.cons rfl Evs.nil) rfl ?_) | (refine Ops.k_callf 17 ?_; refine Ops.callV k5 (Evs.cons rfl (Evs.cons rfl Evs.nil)) rfl ?_) | refine Ops.callV kA (Evs.cons rfl (Evs.cons rfl Evs.nil)) rfl ?_ | (refine Ops.k_callf 14 ?_; refine Ops.callV kD (Evs.cons rfl (Evs.cons rfl (Evs.cons rfl Evs.nil))) rfl ?_) | (refine Ops.k_callf 15 ?_; refine Ops.callV kG (Evs.cons rfl (Evs.cons rfl Evs.nil)) rfl ?_) | (refine Ops.k_callf 16 ?_; refine Ops.callV o1 (Evs.cons rfl Evs.nil) rfl ?_) | (refine Ops.k_callf 16 ?_; refine Ops.callV o2 (Evs.cons rfl Evs.nil) rfl ?_) | (refine Ops.k_callf 18 ?_; refine Ops.callV kM Evs.nil rfl ?_) | refine Ops.callV kFO (Evs.cons rfl (Evs.cons rfl Evs.nil)) rfl ?_ | (refine Ops.k_callf 19 ?_; refine Ops.callV qA (Evs.cons rfl (Evs.cons rfl Evs.nil)) rfl ?_) | refine Ops.callV kFi (Evs.cons rfl (Evs.cons rfl Evs.nil)) rfl ?_ | (refine Ops.k_callf 22 ?_; refine Ops.callV qZ (Evs.cons rfl (Evs.cons rfl Evs.nil)) rfl ?_)) | fail)
        all_goals exact Fin.ret Ent.refl (Outs.one rfl rfl) rfl
      · clear hG
        repeat' (first | refine goH ?_ | (refine Ops.k_b_neq ?_; first | (first | refine Ops.val' rfl (OpV.neq_f rfl rfl rfl) ?_ | refine Ops.val' rfl (OpV.neq_t rfl rfl (by omega)) ?_)) | (refine Ops.k_b_eql ?_; first | (first | refine Ops.val' rfl (OpV.eql_t rfl rfl rfl) ?_ | refine Ops.val' rfl (OpV.eqlS_f rfl rfl hkD) ?_)) | refine goV ?_ | refine goB (fun b => ?_) | refine goG ?_ | (refine Ops.k_guard ?_; first | (refine Ops.guard_dec rfl rfl (fun hc => ?_) (fun hc => ?_) <;> try (exfalso; omega)) | refine Ops.guard_split rfl rfl (fun hc => ?_) (fun hc => ?_)) | refine goI ?_ | (refine Cw.k_cond ?_; first | (refine Cw.cond_dec rfl (fun hc => ?_) (fun hc => ?_) <;> try (exfalso; omega)) | refine Cw.cond_bool rfl (fun hc => ?_) (fun hc => ?_)) | (refine Ops.k_calla ?_; first | (refine Ops.k_callf 9 ?_; refine Ops.callV k1 (Evs.cons rfl Evs.nil) rfl ?_) | (refine Ops.k_callf 10 ?_; refine Ops.callV k2 (Evs.cons rfl Evs.nil) rfl ?_) | (refine Ops.k_callf 11 ?_; refine Ops.callV k3 (Evs.cons rfl Evs.nil) rfl ?_) | (refine Ops.k_callf 12 ?_; refine Ops.callV k4 (Evs.cons rfl Evs.nil) rfl ?_) | (refine Ops.k_callf 17 ?_; refine Ops.callV k5 (Evs.cons rfl (Evs.cons rfl Evs.nil)) rfl ?_) | refine Ops.callV kA (Evs.cons rfl (Evs.cons rfl Evs.nil)) rfl ?_ | (refine Ops.k_callf 14 ?_; refine Ops.callV kD (Evs.cons rfl (Evs.cons rfl (Evs.cons rfl Evs.nil))) rfl ?_) | (refine Ops.k_callf 15 ?_; refine Ops.callV kG (Evs.cons rfl (Evs.cons rfl Evs.nil)) rfl ?_) | (refine Ops.k_callf 16 ?_; refine Ops.callV o1 (Evs.cons rfl Evs.nil) rfl ?_) | (refine Ops.k_callf 16 ?_; refine Ops.callV o2 (Evs.cons rfl Evs.nil) rfl ?_) | (refine Ops.k_callf 18 ?_; refine Ops.callV kM Evs.nil rfl ?_) | refine Ops.callV kFO (Evs.cons rfl (Evs.cons rfl Evs.nil)) rfl ?_ | (refine Ops.k_callf 19 ?_; refine Ops.callV qA (Evs.cons rfl (Evs.cons rfl Evs.nil)) rfl ?_)) | fail)
        all_goals exact Fin.ret Ent.refl (Outs.one rfl rfl) rfl
end Lg
