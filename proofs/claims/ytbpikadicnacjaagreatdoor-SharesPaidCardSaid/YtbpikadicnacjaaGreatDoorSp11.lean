/- A part of the proof of a law of this seat: it adds no condition. By an AI agent. -/
import Derived.ChangeKeysEq
import Derived.KernelRfl
import Derived.Test.YtbpikadicnacjaaGreatDoorLaw
set_option linter.all false
set_option maxRecDepth 100000
set_option maxHeartbeats 8000000
namespace Lg
open Go Go.Proofs

theorem txd_eq0 (n : Nat) (p q r s : Int) (w : World) : (Op.equalIn (n + 1 + 1) 49 (.agg #[.int .i64 p, .int .i64 q, .int .i64 r, .int .i64 s]) (.agg #[.int .i64 p, .int .i64 q, .int .i64 r, .int .i64 s])).run Tryz.prog w = .ok true w := by
  have hs : Tryz.prog.stoodInHeld 49 = false := by kernel_rfl
  simp [Op.equalIn, run_underlying Tryz.underlying49, run_underlying Tryz.underlying3, hs, part, Go.sizeOf, typeInfo]
theorem txd_eq1 (p q r s : Int) (w : World) : (binOp .eql 49 (.agg #[.int .i64 p, .int .i64 q, .int .i64 r, .int .i64 s]) (.agg #[.int .i64 p, .int .i64 q, .int .i64 r, .int .i64 s])).run Tryz.prog w = .ok (.bool true) w := by
  show (do let r ← Op.equalIn (9998 + 1 + 1) 49 _ _; pure (Value.bool r) : Sem Value).run Tryz.prog w = _
  have := txd_eq0 9998 p q r s w
  generalize Op.equalIn (9998 + 1 + 1) 49 (.agg #[.int .i64 p, .int .i64 q, .int .i64 r, .int .i64 s]) (.agg #[.int .i64 p, .int .i64 q, .int .i64 r, .int .i64 s]) = s at *
  simp [this]
theorem txd_ne1 (p q r s : Int) (w : World) : (binOp .neq 49 (.agg #[.int .i64 p, .int .i64 q, .int .i64 r, .int .i64 s]) (.agg #[.int .i64 p, .int .i64 q, .int .i64 r, .int .i64 s])).run Tryz.prog w = .ok (.bool false) w := by
  show (do let r ← Op.equalIn (9998 + 1 + 1) 49 _ _; pure (Value.bool !r) : Sem Value).run Tryz.prog w = _
  have := txd_eq0 9998 p q r s w
  generalize Op.equalIn (9998 + 1 + 1) 49 (.agg #[.int .i64 p, .int .i64 q, .int .i64 r, .int .i64 s]) (.agg #[.int .i64 p, .int .i64 q, .int .i64 r, .int .i64 s]) = s at *
  simp [this]
section
variable {Γ : Ctx} {env : Env} {cs : List Chunk} {x y : Operand} {T2 ty : TypeId}
theorem OpV.txd_t {p q r s : Int} (hx : ev env x = some (.agg ([.int .i64 p, .int .i64 q, .int .i64 r, .int .i64 s].map Tr.raw))) (hy : ev env y = some (.agg ([.int .i64 p, .int .i64 q, .int .i64 r, .int .i64 s].map Tr.raw))) : OpV Tryz.prog Γ (.binOp .eql 49 x y T2) ty env cs (.bool true) := by
  unfold OpV
  intro ac w d
  have h1 := agg_raw (l := [.int .i64 p, .int .i64 q, .int .i64 r, .int .i64 s]) (d.ev hx)
  have h2 := agg_raw (l := [.int .i64 p, .int .i64 q, .int .i64 r, .int .i64 s]) (d.ev hy)
  have h3 := txd_eq1 p q r s w
  have h4 : (eqGuard .eql 49 x y (.agg #[.int .i64 p, .int .i64 q, .int .i64 r, .int .i64 s]) (.agg #[.int .i64 p, .int .i64 q, .int .i64 r, .int .i64 s])).run Tryz.prog w = .ok () w := by simp [eqGuard]
  exact ⟨.bool true, by simp [execOp, h1, h2, h3, h4], by unfold Tr.bool Tr.raw; rfl⟩
theorem OpV.txd_ne_f {p q r s : Int} (hx : ev env x = some (.agg ([.int .i64 p, .int .i64 q, .int .i64 r, .int .i64 s].map Tr.raw))) (hy : ev env y = some (.agg ([.int .i64 p, .int .i64 q, .int .i64 r, .int .i64 s].map Tr.raw))) : OpV Tryz.prog Γ (.binOp .neq 49 x y T2) ty env cs (.bool false) := by
  unfold OpV
  intro ac w d
  have h1 := agg_raw (l := [.int .i64 p, .int .i64 q, .int .i64 r, .int .i64 s]) (d.ev hx)
  have h2 := agg_raw (l := [.int .i64 p, .int .i64 q, .int .i64 r, .int .i64 s]) (d.ev hy)
  have h3 := txd_ne1 p q r s w
  have h4 : (eqGuard .neq 49 x y (.agg #[.int .i64 p, .int .i64 q, .int .i64 r, .int .i64 s]) (.agg #[.int .i64 p, .int .i64 q, .int .i64 r, .int .i64 s])).run Tryz.prog w = .ok () w := by simp [eqGuard]
  exact ⟨.bool false, by simp [execOp, h1, h2, h3, h4], by unfold Tr.bool Tr.raw; rfl⟩
end
theorem equal_txd (xs : List Txd) (h : xs.length ≤ 1000000000) : PFn Tryz.prog 23 [.sl 4 (xs.map Txd.row), .sl 4 (xs.map Txd.row)] (· = .bool true) := by
  refine PFn.mk (Spec.body Tryz.func23 rfl rfl (Tryz.ntmps23) rfl fun w0 own0 M => ?_)
  have hL : (xs.map Txd.row).length = xs.length := List.length_map _
  repeat' (first | refine goH ?_ | refine goV ?_ | refine goI ?_ | (refine Cw.k_cond ?_; first | (refine Cw.cond_dec rfl (fun hc => ?_) (fun hc => ?_) <;> try (exfalso; omega)) | refine Cw.cond_bool rfl (fun hc => ?_) (fun hc => ?_)) | refine goR ?_ | refine goP ?_ | apply PSeq.cons | apply PSeq.yes rfl rfl rfl | exact goW | fail)
  refine Cw.loop (ι := Nat) (fun k => k ≤ xs.length) (fun k => [(0, .sl 4 (xs.map Txd.row)), (1, .sl 4 (xs.map Txd.row)), (11, .sl 4 (xs.map Txd.row)), (12, .int (xs.map Txd.row).length), (13, .int k)]) (fun _ => []) (fun k => xs.length - k) ⟨0, by omega, (Ent.mk goSub goTk)⟩ ?_
  intro k hk
  by_cases hkl : k < xs.length
  · obtain ⟨d, hd⟩ : ∃ x, xs[k]? = some x := ⟨_, List.getElem?_eq_getElem hkl⟩
    have hrow : (xs.map Txd.row)[k]? = some [.int d.rt, .int d.gr, .int d.net, .int d.tax] := rows_at hd
    repeat' (first | refine goH ?_ | refine goV ?_ | refine goI ?_ | (refine Cw.k_cond ?_; first | (refine Cw.cond_dec rfl (fun hc => ?_) (fun hc => ?_) <;> try (exfalso; omega)) | refine Cw.cond_bool rfl (fun hc => ?_) (fun hc => ?_)) | (apply OpV.w; apply OpV.txd_ne_f; exact rfl; exact rfl) | refine goR ?_ | refine goP ?_ | apply PSeq.cons | apply PSeq.yes rfl rfl rfl | exact goW | fail)
    exact ⟨k + 1, by omega, by omega, (Ent.mk goSub goTk)⟩
  · repeat' (first | refine goH ?_ | refine goV ?_ | refine goI ?_ | (refine Cw.k_cond ?_; first | (refine Cw.cond_dec rfl (fun hc => ?_) (fun hc => ?_) <;> try (exfalso; omega)) | refine Cw.cond_bool rfl (fun hc => ?_) (fun hc => ?_)) | refine goR ?_ | refine goP ?_ | apply PSeq.cons | apply PSeq.yes rfl rfl rfl | exact goW | fail)
    exact Fin.ret Ent.refl (Outs.one rfl rfl) ⟨rfl, rfl⟩

theorem com_two (l : List Tier) (s : Int) : ∃ a b : Int, comT l s = .tup [.int a, .int b] := by
  unfold comT
  split <;> exact ⟨_, _, rfl⟩
theorem even_two (n d : Int) : ∃ a b : Int, evenT n d = .tup [.int a, .int b] := by
  unfold evenT
  split <;> exact ⟨_, _, rfl⟩
theorem net_three (g r : Int) : ∃ a b c : Int, netT g r = .tup [.int a, .int b, .int c] := by
  unfold netT
  split <;> exact ⟨_, _, _, rfl⟩
theorem txF_len : ∀ (l : List Chg) (m : List (Int × Int)), (txF m l).length ≤ m.length + l.length
  | [], m => by simp [txF]
  | c :: l, m => by
    have h1 := txF_len l (mAdd c.rt c.gr m)
    have h2 : (mAdd c.rt c.gr m).length ≤ m.length + 1 := mUp_len _ _ _
    rw [txF, List.length_cons]
    omega
theorem tx_two (l : List Chg) (hl : l.length ≤ 6) : ∃ (xs : List Txd) (e : Int), txT l = .tup [.sl 4 (xs.map Txd.row), .int e] ∧ xs.length ≤ 1000 := by
  unfold txT
  split
  · exact ⟨[], 2, rfl, by simp⟩
  · split
    · exact ⟨[], 1, rfl, by simp⟩
    · refine ⟨_, _, rfl, ?_⟩
      have := txF_len l []
      rw [isort_len, List.length_map]
      simp at this
      omega
theorem shr_two (t : Int) (l : List Nm) (hl : l.length ≤ 6) : ∃ (xs : List Int) (e : Int), shrT t l = .tup [.ints xs, .int e] ∧ xs.length ≤ 1000 := by
  unfold shrT
  split
  · exact ⟨[], 2, rfl, by simp⟩
  · split
    · exact ⟨[], _, rfl, by simp⟩
    · split
      · exact ⟨[], _, rfl, by simp⟩
      · exact ⟨_, _, rfl, by rw [tgt_len]; omega⟩
attribute [local irreducible] comT evenT netT txT shrT tiersE intRows
theorem sharesPaid_law (xs : List Int) : Spec Tryz.prog 3 [Tr.ints xs] [] (fun r _ => r = Tr.bool true) := by
  refine Spec.body Tryz.func3 rfl rfl (Tryz.ntmps3) rfl fun w0 own0 M => ?_
  repeat' (first | refine goH ?_ | refine goV ?_ | refine goB (fun b => ?_) | refine goG ?_ | (refine Ops.k_guard ?_; first | (refine Ops.guard_dec rfl rfl (fun hc => ?_) (fun hc => ?_) <;> try (exfalso; omega)) | refine Ops.guard_split rfl rfl (fun hc => ?_) (fun hc => ?_)) | refine goI ?_ | (refine Cw.k_cond ?_; first | (refine Cw.cond_dec rfl (fun hc => ?_) (fun hc => ?_) <;> try (exfalso; omega)) | refine Cw.cond_bool rfl (fun hc => ?_) (fun hc => ?_)) | refine Ops.shut0 (ty := 25) rfl ?_ | (refine Ops.k_calla ?_; first | (refine Ops.k_callf 5 ?_; (refine Ops.callG tiers_gen (Evs.cons rfl Evs.nil) goPk (by omega) rfl ?_; rintro r ⟨T, rfl, hT⟩)) | (refine Ops.k_callf 6 ?_; (refine Ops.callG (pick_gen (by repeat' (first | exact IsInts.nil | apply IsInts.cons)) (by simp)) (Evs.cons rfl (Evs.cons rfl Evs.nil)) goPk (by omega) rfl ?_; rintro r ⟨s, rfl, hx⟩; clear hx))) | fail)
  have k1 := tiersFault_fn T (by omega)
  have k2 := checkTiers_fn T (by omega)
  by_cases hE : tiersE T ≠ 0
  · have k3 := commissionE_fn T s (by omega) hE
    generalize tiersE T = e at *
    repeat' (first | refine goH ?_ | refine goV ?_ | refine goB (fun b => ?_) | refine goG ?_ | (refine Ops.k_guard ?_; first | (refine Ops.guard_dec rfl rfl (fun hc => ?_) (fun hc => ?_) <;> try (exfalso; omega)) | refine Ops.guard_split rfl rfl (fun hc => ?_) (fun hc => ?_)) | refine goI ?_ | (refine Cw.k_cond ?_; first | (refine Cw.cond_dec rfl (fun hc => ?_) (fun hc => ?_) <;> try (exfalso; omega)) | refine Cw.cond_bool rfl (fun hc => ?_) (fun hc => ?_)) | (refine Ops.k_calla ?_; first | (refine Ops.k_callf 7 ?_; refine Ops.callV k1 (Evs.cons rfl Evs.nil) rfl ?_) | (refine Ops.k_callf 8 ?_; refine Ops.callV k2 (Evs.cons rfl Evs.nil) rfl ?_) | (refine Ops.k_callf 9 ?_; refine Ops.callV k3 (Evs.cons rfl (Evs.cons rfl Evs.nil)) rfl ?_) | (refine Ops.k_callf 11 ?_; (refine Ops.callG (range_gen _ _ (by omega)) (Evs.cons rfl (Evs.cons rfl (Evs.cons rfl Evs.nil))) goPk (by omega) rfl ?_; rintro r ⟨v, rfl, hx⟩; clear hx)) | (refine Ops.k_callf 6 ?_; (refine Ops.callG (pick_gen (by repeat' (first | exact IsInts.nil | apply IsInts.cons)) (by simp)) (Evs.cons rfl (Evs.cons rfl Evs.nil)) goPk (by omega) rfl ?_; rintro r ⟨n, rfl, hx⟩; clear hx))) | fail)
    all_goals try (exfalso; omega)
    rename_i n1
    have k5 := evenU_fn n1 n
    have k6 := evenOf_fn n1 n
    have k7 := netU_fn s n1
    have k8 := netOf_fn s n1
    obtain ⟨a1, a2, ha⟩ := even_two n1 n
    obtain ⟨b1, b2, b3, hb⟩ := net_three s n1
    rw [ha] at k5 k6
    rw [hb] at k7 k8
    clear ha hb
    repeat' (first | refine goH ?_ | refine goV ?_ | refine goB (fun b => ?_) | refine goG ?_ | (refine Ops.k_guard ?_; first | (refine Ops.guard_dec rfl rfl (fun hc => ?_) (fun hc => ?_) <;> try (exfalso; omega)) | refine Ops.guard_split rfl rfl (fun hc => ?_) (fun hc => ?_)) | refine goI ?_ | (refine Cw.k_cond ?_; first | (refine Cw.cond_dec rfl (fun hc => ?_) (fun hc => ?_) <;> try (exfalso; omega)) | refine Cw.cond_bool rfl (fun hc => ?_) (fun hc => ?_)) | (refine Ops.k_calla ?_; first | (refine Ops.k_callf 12 ?_; refine Ops.callV k5 (Evs.cons rfl (Evs.cons rfl Evs.nil)) rfl ?_) | (refine Ops.k_callf 13 ?_; refine Ops.callV k6 (Evs.cons rfl (Evs.cons rfl Evs.nil)) rfl ?_) | (refine Ops.k_callf 14 ?_; refine Ops.callV k7 (Evs.cons rfl (Evs.cons rfl Evs.nil)) rfl ?_) | (refine Ops.k_callf 15 ?_; refine Ops.callV k8 (Evs.cons rfl (Evs.cons rfl Evs.nil)) rfl ?_) | (refine Ops.k_callf 16 ?_; (refine Ops.callG charges_gen (Evs.cons rfl Evs.nil) goPk (by omega) rfl ?_; rintro r ⟨C, rfl, hC⟩))) | fail)
    all_goals try (exfalso; omega)
    have k9 := taxes_fn C (by omega)
    have k10 := taxesOf_fn C (by omega)
    obtain ⟨X, x1, hx, hX⟩ := tx_two C hC
    rw [hx] at k9 k10
    have k11 := equal_txd X (by omega)
    clear hx
    repeat' (first | refine goH ?_ | refine goV ?_ | refine goB (fun b => ?_) | refine goG ?_ | (refine Ops.k_guard ?_; first | (refine Ops.guard_dec rfl rfl (fun hc => ?_) (fun hc => ?_) <;> try (exfalso; omega)) | refine Ops.guard_split rfl rfl (fun hc => ?_) (fun hc => ?_)) | refine goI ?_ | (refine Cw.k_cond ?_; first | (refine Cw.cond_dec rfl (fun hc => ?_) (fun hc => ?_) <;> try (exfalso; omega)) | refine Cw.cond_bool rfl (fun hc => ?_) (fun hc => ?_)) | (refine Ops.k_calla ?_; first | (refine Ops.k_callf 17 ?_; refine Ops.callV k9 (Evs.cons rfl Evs.nil) rfl ?_) | (refine Ops.k_callf 18 ?_; refine Ops.callV k10 (Evs.cons rfl Evs.nil) rfl ?_) | (refine Ops.k_callf 19 ?_; (refine Ops.callG partners_gen (Evs.cons rfl Evs.nil) goPk (by omega) rfl ?_; rintro r ⟨N, rfl, hN, hNb⟩)) | (refine Ops.k_callf 6 ?_; (refine Ops.callG (pick_gen (by repeat' (first | exact IsInts.nil | apply IsInts.cons)) (by simp)) (Evs.cons rfl (Evs.cons rfl Evs.nil)) goPk (by omega) rfl ?_; rintro r ⟨z, rfl, hx⟩; clear hx))) | fail)
    have k12 := shares_fn z N (by omega)
    have k13 := sharesOf_fn z N (by omega) hNb
    obtain ⟨L, l1, hl, hLl⟩ := shr_two z N (by omega)
    rw [hl] at k12 k13
    have k14 := equalInts_fn L L (by omega) (by omega)
    rw [decide_eq_true rfl] at k14
    clear hl
    repeat' (first | refine goH ?_ | refine goV ?_ | refine goB (fun b => ?_) | refine goG ?_ | (refine Ops.k_guard ?_; first | (refine Ops.guard_dec rfl rfl (fun hc => ?_) (fun hc => ?_) <;> try (exfalso; omega)) | refine Ops.guard_split rfl rfl (fun hc => ?_) (fun hc => ?_)) | refine goI ?_ | (refine Cw.k_cond ?_; first | (refine Cw.cond_dec rfl (fun hc => ?_) (fun hc => ?_) <;> try (exfalso; omega)) | refine Cw.cond_bool rfl (fun hc => ?_) (fun hc => ?_)) | (refine Ops.k_calla ?_; first | (refine Ops.k_callf 20 ?_; refine Ops.callV k12 (Evs.cons rfl (Evs.cons rfl Evs.nil)) rfl ?_) | (refine Ops.k_callf 21 ?_; refine Ops.callV k13 (Evs.cons rfl (Evs.cons rfl Evs.nil)) rfl ?_) | (refine Ops.k_callf 22 ?_; refine Ops.callV tills_fn Evs.nil rfl ?_) | (refine Ops.k_callf 23 ?_; refine Ops.callV k11 (Evs.cons rfl (Evs.cons rfl Evs.nil)) rfl ?_) | (refine Ops.k_callf 24 ?_; refine Ops.callV k14 (Evs.cons rfl (Evs.cons rfl Evs.nil)) rfl ?_)) | fail)
    all_goals first | exact Fin.ret Ent.refl (Outs.one rfl rfl) rfl | exact Fin.ret Ent.refl (Outs.one rfl rfl) (congrArg Tr.bool (decide_eq_true rfl)) | (exfalso; omega)
  · have hE : tiersE T = 0 := by omega
    have k3 := commission_fn T s (by omega) hE
    have k4 := commissionOf_fn T s (by omega) hE
    obtain ⟨c1, c2, hc⟩ := com_two T s
    rw [hc] at k3 k4
    rw [hE] at k1 k2
    clear hc hE
    repeat' (first | refine goH ?_ | refine goV ?_ | refine goB (fun b => ?_) | refine goG ?_ | (refine Ops.k_guard ?_; first | (refine Ops.guard_dec rfl rfl (fun hc => ?_) (fun hc => ?_) <;> try (exfalso; omega)) | refine Ops.guard_split rfl rfl (fun hc => ?_) (fun hc => ?_)) | refine goI ?_ | (refine Cw.k_cond ?_; first | (refine Cw.cond_dec rfl (fun hc => ?_) (fun hc => ?_) <;> try (exfalso; omega)) | refine Cw.cond_bool rfl (fun hc => ?_) (fun hc => ?_)) | (refine Ops.k_calla ?_; first | (refine Ops.k_callf 7 ?_; refine Ops.callV k1 (Evs.cons rfl Evs.nil) rfl ?_) | (refine Ops.k_callf 8 ?_; refine Ops.callV k2 (Evs.cons rfl Evs.nil) rfl ?_) | (refine Ops.k_callf 9 ?_; refine Ops.callV k3 (Evs.cons rfl (Evs.cons rfl Evs.nil)) rfl ?_) | (refine Ops.k_callf 10 ?_; refine Ops.callV k4 (Evs.cons rfl (Evs.cons rfl Evs.nil)) rfl ?_) | (refine Ops.k_callf 11 ?_; (refine Ops.callG (range_gen _ _ (by omega)) (Evs.cons rfl (Evs.cons rfl (Evs.cons rfl Evs.nil))) goPk (by omega) rfl ?_; rintro r ⟨v, rfl, hx⟩; clear hx)) | (refine Ops.k_callf 6 ?_; (refine Ops.callG (pick_gen (by repeat' (first | exact IsInts.nil | apply IsInts.cons)) (by simp)) (Evs.cons rfl (Evs.cons rfl Evs.nil)) goPk (by omega) rfl ?_; rintro r ⟨n, rfl, hx⟩; clear hx))) | fail)
    all_goals try (exfalso; omega)
    rename_i n1
    have k5 := evenU_fn n1 n
    have k6 := evenOf_fn n1 n
    have k7 := netU_fn s n1
    have k8 := netOf_fn s n1
    obtain ⟨a1, a2, ha⟩ := even_two n1 n
    obtain ⟨b1, b2, b3, hb⟩ := net_three s n1
    rw [ha] at k5 k6
    rw [hb] at k7 k8
    clear ha hb
    repeat' (first | refine goH ?_ | refine goV ?_ | refine goB (fun b => ?_) | refine goG ?_ | (refine Ops.k_guard ?_; first | (refine Ops.guard_dec rfl rfl (fun hc => ?_) (fun hc => ?_) <;> try (exfalso; omega)) | refine Ops.guard_split rfl rfl (fun hc => ?_) (fun hc => ?_)) | refine goI ?_ | (refine Cw.k_cond ?_; first | (refine Cw.cond_dec rfl (fun hc => ?_) (fun hc => ?_) <;> try (exfalso; omega)) | refine Cw.cond_bool rfl (fun hc => ?_) (fun hc => ?_)) | (refine Ops.k_calla ?_; first | (refine Ops.k_callf 12 ?_; refine Ops.callV k5 (Evs.cons rfl (Evs.cons rfl Evs.nil)) rfl ?_) | (refine Ops.k_callf 13 ?_; refine Ops.callV k6 (Evs.cons rfl (Evs.cons rfl Evs.nil)) rfl ?_) | (refine Ops.k_callf 14 ?_; refine Ops.callV k7 (Evs.cons rfl (Evs.cons rfl Evs.nil)) rfl ?_) | (refine Ops.k_callf 15 ?_; refine Ops.callV k8 (Evs.cons rfl (Evs.cons rfl Evs.nil)) rfl ?_) | (refine Ops.k_callf 16 ?_; (refine Ops.callG charges_gen (Evs.cons rfl Evs.nil) goPk (by omega) rfl ?_; rintro r ⟨C, rfl, hC⟩))) | fail)
    all_goals try (exfalso; omega)
    have k9 := taxes_fn C (by omega)
    have k10 := taxesOf_fn C (by omega)
    obtain ⟨X, x1, hx, hX⟩ := tx_two C hC
    rw [hx] at k9 k10
    have k11 := equal_txd X (by omega)
    clear hx
    repeat' (first | refine goH ?_ | refine goV ?_ | refine goB (fun b => ?_) | refine goG ?_ | (refine Ops.k_guard ?_; first | (refine Ops.guard_dec rfl rfl (fun hc => ?_) (fun hc => ?_) <;> try (exfalso; omega)) | refine Ops.guard_split rfl rfl (fun hc => ?_) (fun hc => ?_)) | refine goI ?_ | (refine Cw.k_cond ?_; first | (refine Cw.cond_dec rfl (fun hc => ?_) (fun hc => ?_) <;> try (exfalso; omega)) | refine Cw.cond_bool rfl (fun hc => ?_) (fun hc => ?_)) | (refine Ops.k_calla ?_; first | (refine Ops.k_callf 17 ?_; refine Ops.callV k9 (Evs.cons rfl Evs.nil) rfl ?_) | (refine Ops.k_callf 18 ?_; refine Ops.callV k10 (Evs.cons rfl Evs.nil) rfl ?_) | (refine Ops.k_callf 19 ?_; (refine Ops.callG partners_gen (Evs.cons rfl Evs.nil) goPk (by omega) rfl ?_; rintro r ⟨N, rfl, hN, hNb⟩)) | (refine Ops.k_callf 6 ?_; (refine Ops.callG (pick_gen (by repeat' (first | exact IsInts.nil | apply IsInts.cons)) (by simp)) (Evs.cons rfl (Evs.cons rfl Evs.nil)) goPk (by omega) rfl ?_; rintro r ⟨z, rfl, hx⟩; clear hx))) | fail)
    have k12 := shares_fn z N (by omega)
    have k13 := sharesOf_fn z N (by omega) hNb
    obtain ⟨L, l1, hl, hLl⟩ := shr_two z N (by omega)
    rw [hl] at k12 k13
    have k14 := equalInts_fn L L (by omega) (by omega)
    rw [decide_eq_true rfl] at k14
    clear hl
    repeat' (first | refine goH ?_ | refine goV ?_ | refine goB (fun b => ?_) | refine goG ?_ | (refine Ops.k_guard ?_; first | (refine Ops.guard_dec rfl rfl (fun hc => ?_) (fun hc => ?_) <;> try (exfalso; omega)) | refine Ops.guard_split rfl rfl (fun hc => ?_) (fun hc => ?_)) | refine goI ?_ | (refine Cw.k_cond ?_; first | (refine Cw.cond_dec rfl (fun hc => ?_) (fun hc => ?_) <;> try (exfalso; omega)) | refine Cw.cond_bool rfl (fun hc => ?_) (fun hc => ?_)) | (refine Ops.k_calla ?_; first | (refine Ops.k_callf 20 ?_; refine Ops.callV k12 (Evs.cons rfl (Evs.cons rfl Evs.nil)) rfl ?_) | (refine Ops.k_callf 21 ?_; refine Ops.callV k13 (Evs.cons rfl (Evs.cons rfl Evs.nil)) rfl ?_) | (refine Ops.k_callf 22 ?_; refine Ops.callV tills_fn Evs.nil rfl ?_) | (refine Ops.k_callf 23 ?_; refine Ops.callV k11 (Evs.cons rfl (Evs.cons rfl Evs.nil)) rfl ?_) | (refine Ops.k_callf 24 ?_; refine Ops.callV k14 (Evs.cons rfl (Evs.cons rfl Evs.nil)) rfl ?_)) | fail)
    all_goals first | exact Fin.ret Ent.refl (Outs.one rfl rfl) rfl | exact Fin.ret Ent.refl (Outs.one rfl rfl) (congrArg Tr.bool (decide_eq_true rfl)) | (exfalso; omega)
end Lg
