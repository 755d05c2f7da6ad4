/- A part of the proof of a law of this seat: it adds no condition. By an AI agent. -/
import Derived.Lib.LaidU8T
import Derived.Lib.LaidTab
import Derived.KernelRfl
import Derived.Test.YtacfkfehoemnfaaGreatDoorLgLawV
import Derived.Test.YtacfkfehoemnfaaGreatDoorLe13
import Derived.Test.YtacfkfehoemnfaaGreatDoorLe14
import Derived.Test.YtacfkfehoemnfaaGreatDoorOneU
section
set_option linter.all false
set_option maxRecDepth 100000
set_option maxHeartbeats 8000000
namespace Lg
open Go Go.Proofs

/-! ### the law LedgersKept -/
theorem nm_eq0 (n : Nat) (a : ByteArray) (b : Int) (w : World) : (Op.equalIn (n + 1 + 1) 54 (.agg #[.string a, .int .i64 b]) (.agg #[.string a, .int .i64 b])).run Tryz.prog w = .ok true w := by
  have hs : Tryz.prog.stoodInHeld 54 = false := by kernel_rfl
  simp [Op.equalIn, run_underlying Tryz.underlying54, run_underlying Tryz.underlying9, run_underlying Tryz.underlying3, ba_self, hs, part, Go.sizeOf, typeInfo]
theorem nm_ne1 (a : ByteArray) (b : Int) (w : World) : (binOp .neq 54 (.agg #[.string a, .int .i64 b]) (.agg #[.string a, .int .i64 b])).run Tryz.prog w = .ok (.bool false) w := by
  show (do let r ← Op.equalIn (9998 + 1 + 1) 54 _ _; pure (Value.bool !r) : Sem Value).run Tryz.prog w = _
  have := nm_eq0 9998 a b w
  generalize Op.equalIn (9998 + 1 + 1) 54 (.agg #[.string a, .int .i64 b]) (.agg #[.string a, .int .i64 b]) = s at *
  simp [this]
section
variable {Γ : Ctx} {env : Env} {cs : List Chunk} {x y : Operand} {T2 ty : TypeId}
theorem OpV.nm_ne_f {a : ByteArray} {b : Int} (hx : ev env x = some (.agg ([.string a, .int .i64 b].map Tr.raw))) (hy : ev env y = some (.agg ([.string a, .int .i64 b].map Tr.raw))) : OpV Tryz.prog Γ (.binOp .neq 54 x y T2) ty env cs (.bool false) := by
  unfold OpV
  intro ac w d
  have h1 := agg_raw (l := [.string a, .int .i64 b]) (d.ev hx)
  have h2 := agg_raw (l := [.string a, .int .i64 b]) (d.ev hy)
  have h3 := nm_ne1 a b w
  have h4 : (eqGuard .neq 54 x y (.agg #[.string a, .int .i64 b]) (.agg #[.string a, .int .i64 b])).run Tryz.prog w = .ok () w := by simp [eqGuard]
  exact ⟨.bool false, by simp [execOp, h1, h2, h3, h4], by unfold Tr.bool Tr.raw; rfl⟩
end
theorem equal_nm (xs : List Nm) (h : xs.length ≤ 1000000000) : PFn Tryz.prog 23 [.sl 2 (xs.map Nm.row), .sl 2 (xs.map Nm.row)] (· = .bool true) := by
  refine PFn.mk (Spec.body Tryz.func23 rfl rfl (Tryz.ntmps23) rfl fun w0 own0 M => ?_)
  have hL : (xs.map Nm.row).length = xs.length := List.length_map _
  repeat' (first | refine goH ?_ | refine goV ?_ | refine goI ?_ | (refine Cw.k_cond ?_; first | (refine Cw.cond_dec rfl (fun hc => ?_) (fun hc => ?_) <;> try (exfalso; omega)) | refine Cw.cond_bool rfl (fun hc => ?_) (fun hc => ?_)) | refine goR ?_ | refine goP ?_ | apply PSeq.cons | apply PSeq.yes rfl rfl rfl | exact goW | fail)
  refine Cw.loop (ι := Nat) (fun k => k ≤ xs.length) (fun k => [(0, .sl 2 (xs.map Nm.row)), (1, .sl 2 (xs.map Nm.row)), (11, .sl 2 (xs.map Nm.row)), (12, .int (xs.map Nm.row).length), (13, .int k)]) (fun _ => []) (fun k => xs.length - k) ⟨0, by omega, (Ent.mk goSub goTk)⟩ ?_
  intro k hk
  by_cases hkl : k < xs.length
  · obtain ⟨d, hd⟩ : ∃ x, xs[k]? = some x := ⟨_, List.getElem?_eq_getElem hkl⟩
    have hrow : (xs.map Nm.row)[k]? = some [.str d.key, .int d.many] := rows_at hd
    repeat' (first | refine goH ?_ | refine goV ?_ | refine goI ?_ | (refine Cw.k_cond ?_; first | (refine Cw.cond_dec rfl (fun hc => ?_) (fun hc => ?_) <;> try (exfalso; omega)) | refine Cw.cond_bool rfl (fun hc => ?_) (fun hc => ?_)) | (apply OpV.w; apply OpV.nm_ne_f; exact rfl; exact rfl) | refine goR ?_ | refine goP ?_ | apply PSeq.cons | apply PSeq.yes rfl rfl rfl | exact goW | fail)
    exact ⟨k + 1, by omega, by omega, (Ent.mk goSub goTk)⟩
  · repeat' (first | refine goH ?_ | refine goV ?_ | refine goI ?_ | (refine Cw.k_cond ?_; first | (refine Cw.cond_dec rfl (fun hc => ?_) (fun hc => ?_) <;> try (exfalso; omega)) | refine Cw.cond_bool rfl (fun hc => ?_) (fun hc => ?_)) | refine goR ?_ | refine goP ?_ | apply PSeq.cons | apply PSeq.yes rfl rfl rfl | exact goW | fail)
    exact Fin.ret Ent.refl (Outs.one rfl rfl) ⟨rfl, rfl⟩

theorem po_eq0 (n : Nat) (p q : Int) (s : ByteArray) (u v : Int) (w : World) : (Op.equalIn (n + 1 + 1) 50 (.agg #[.int .i64 p, .int .i64 q, .string s, .int .i64 u, .int .i64 v]) (.agg #[.int .i64 p, .int .i64 q, .string s, .int .i64 u, .int .i64 v])).run Tryz.prog w = .ok true w := by
  have hs : Tryz.prog.stoodInHeld 50 = false := by kernel_rfl
  simp [Op.equalIn, run_underlying Tryz.underlying50, run_underlying Tryz.underlying9, run_underlying Tryz.underlying3, ba_self, hs, part, Go.sizeOf, typeInfo]
theorem po_ne1 (p q : Int) (s : ByteArray) (u v : Int) (w : World) : (binOp .neq 50 (.agg #[.int .i64 p, .int .i64 q, .string s, .int .i64 u, .int .i64 v]) (.agg #[.int .i64 p, .int .i64 q, .string s, .int .i64 u, .int .i64 v])).run Tryz.prog w = .ok (.bool false) w := by
  show (do let r ← Op.equalIn (9998 + 1 + 1) 50 _ _; pure (Value.bool !r) : Sem Value).run Tryz.prog w = _
  have := po_eq0 9998 p q s u v w
  generalize Op.equalIn (9998 + 1 + 1) 50 (.agg #[.int .i64 p, .int .i64 q, .string s, .int .i64 u, .int .i64 v]) (.agg #[.int .i64 p, .int .i64 q, .string s, .int .i64 u, .int .i64 v]) = s at *
  simp [this]
section
variable {Γ : Ctx} {env : Env} {cs : List Chunk} {x y : Operand} {T2 ty : TypeId}
theorem OpV.po_ne_f {p q : Int} {s : ByteArray} {u v : Int} (hx : ev env x = some (.agg ([.int .i64 p, .int .i64 q, .string s, .int .i64 u, .int .i64 v].map Tr.raw))) (hy : ev env y = some (.agg ([.int .i64 p, .int .i64 q, .string s, .int .i64 u, .int .i64 v].map Tr.raw))) : OpV Tryz.prog Γ (.binOp .neq 50 x y T2) ty env cs (.bool false) := by
  unfold OpV
  intro ac w d
  have h1 := agg_raw (l := [.int .i64 p, .int .i64 q, .string s, .int .i64 u, .int .i64 v]) (d.ev hx)
  have h2 := agg_raw (l := [.int .i64 p, .int .i64 q, .string s, .int .i64 u, .int .i64 v]) (d.ev hy)
  have h3 := po_ne1 p q s u v w
  have h4 : (eqGuard .neq 50 x y (.agg #[.int .i64 p, .int .i64 q, .string s, .int .i64 u, .int .i64 v]) (.agg #[.int .i64 p, .int .i64 q, .string s, .int .i64 u, .int .i64 v])).run Tryz.prog w = .ok () w := by simp [eqGuard]
  exact ⟨.bool false, by simp [execOp, h1, h2, h3, h4], by unfold Tr.bool Tr.raw; rfl⟩
end
theorem equal_po (xs : List Po) (h : xs.length ≤ 1000000000) : PFn Tryz.prog 22 [.sl 5 (xs.map Po.row), .sl 5 (xs.map Po.row)] (· = .bool true) := by
  refine PFn.mk (Spec.body Tryz.func22 rfl rfl (Tryz.ntmps22) rfl fun w0 own0 M => ?_)
  have hL : (xs.map Po.row).length = xs.length := List.length_map _
  repeat' (first | refine goH ?_ | refine goV ?_ | refine goI ?_ | (refine Cw.k_cond ?_; first | (refine Cw.cond_dec rfl (fun hc => ?_) (fun hc => ?_) <;> try (exfalso; omega)) | refine Cw.cond_bool rfl (fun hc => ?_) (fun hc => ?_)) | refine goR ?_ | refine goP ?_ | apply PSeq.cons | apply PSeq.yes rfl rfl rfl | exact goW | fail)
  refine Cw.loop (ι := Nat) (fun k => k ≤ xs.length) (fun k => [(0, .sl 5 (xs.map Po.row)), (1, .sl 5 (xs.map Po.row)), (11, .sl 5 (xs.map Po.row)), (12, .int (xs.map Po.row).length), (13, .int k)]) (fun _ => []) (fun k => xs.length - k) ⟨0, by omega, (Ent.mk goSub goTk)⟩ ?_
  intro k hk
  by_cases hkl : k < xs.length
  · obtain ⟨d, hd⟩ : ∃ x, xs[k]? = some x := ⟨_, List.getElem?_eq_getElem hkl⟩
    have hrow : (xs.map Po.row)[k]? = some [.int d.no, .int d.day, .str d.text, .int d.c, .int d.sum] := rows_at hd
    repeat' (first | refine goH ?_ | refine goV ?_ | refine goI ?_ | (refine Cw.k_cond ?_; first | (refine Cw.cond_dec rfl (fun hc => ?_) (fun hc => ?_) <;> try (exfalso; omega)) | refine Cw.cond_bool rfl (fun hc => ?_) (fun hc => ?_)) | (apply OpV.w; apply OpV.po_ne_f; exact rfl; exact rfl) | refine goR ?_ | refine goP ?_ | apply PSeq.cons | apply PSeq.yes rfl rfl rfl | exact goW | fail)
    exact ⟨k + 1, by omega, by omega, (Ent.mk goSub goTk)⟩
  · repeat' (first | refine goH ?_ | refine goV ?_ | refine goI ?_ | (refine Cw.k_cond ?_; first | (refine Cw.cond_dec rfl (fun hc => ?_) (fun hc => ?_) <;> try (exfalso; omega)) | refine Cw.cond_bool rfl (fun hc => ?_) (fun hc => ?_)) | refine goR ?_ | refine goP ?_ | apply PSeq.cons | apply PSeq.yes rfl rfl rfl | exact goW | fail)
    exact Fin.ret Ent.refl (Outs.one rfl rfl) ⟨rfl, rfl⟩

theorem newX_fn : Spec Tryz.prog 4 [] [] (fun r cs => ∃ b bm, r = .ptr b ∧ cs = [ledX b none 0 0 bm, sumC' bm []]) := by
  refine Spec.body Tryz.func4 rfl rfl (Tryz.ntmps4) rfl fun w0 own0 M => ?_
  repeat' (first | refine goH ?_ | (refine Ops.k_makeMap ?_; first | (refine Ops.makeMap Value.string rfl (fun bm => ?_))) | refine goV ?_ | refine goB (fun b => ?_) | refine goI ?_ | (refine Cw.k_cond ?_; first | (refine Cw.cond_dec rfl (fun hc => ?_) (fun hc => ?_) <;> try (exfalso; omega)) | refine Cw.cond_bool rfl (fun hc => ?_) (fun hc => ?_)) | fail)
  exact Fin.ret (Ent.take goTk) (Outs.one rfl rfl) ⟨_, _, rfl, rfl⟩
theorem newY_fn : Spec Tryz.prog 5 [] [] (fun r cs => ∃ b, r = .ptr b ∧ cs = [ledY b none 0 0 none 0 0]) := by
  refine Spec.body Tryz.func5 rfl rfl (Tryz.ntmps5) rfl fun w0 own0 M => ?_
  repeat' (first | refine goH ?_ | refine goV ?_ | refine goB (fun b => ?_) | refine goI ?_ | (refine Cw.k_cond ?_; first | (refine Cw.cond_dec rfl (fun hc => ?_) (fun hc => ?_) <;> try (exfalso; omega)) | refine Cw.cond_bool rfl (fun hc => ?_) (fun hc => ?_)) | fail)
  exact Fin.ret (Ent.take goTk) (Outs.one rfl rfl) ⟨_, rfl, rfl⟩
attribute [local irreducible] entS plS dayB flgO itoaK linO cnlO pstO TrZ
theorem ledgersKept_law (xs : List Int) : Spec Tryz.prog 3 [Tr.ints xs] [bkC] (fun r _ => r = Tr.bool true) := by
  refine Spec.body Tryz.func3 rfl rfl (Tryz.ntmps3) rfl fun w0 own0 M => ?_
  have k0 := tills_fn
  have kX := newX_fn
  have kY := newY_fn
  repeat' (first | refine goH ?_ | (refine Ops.k_b_eql ?_; first | refine Ops.val' rfl (OpV.eql_pn rfl Tryz.underlying26 ⟨_, rfl, by decide⟩ rfl rfl) ?_) | refine goV ?_ | refine goB (fun b => ?_) | refine goG ?_ | (refine Ops.k_guard ?_; first | (refine Ops.guard_dec rfl rfl (fun hc => ?_) (fun hc => ?_) <;> try (exfalso; omega)) | refine Ops.guard_split rfl rfl (fun hc => ?_) (fun hc => ?_)) | refine goI ?_ | (refine Cw.k_cond ?_; first | (refine Cw.cond_dec rfl (fun hc => ?_) (fun hc => ?_) <;> try (exfalso; omega)) | refine Cw.cond_bool rfl (fun hc => ?_) (fun hc => ?_)) | refine Ops.shut0 (ty := 25) rfl ?_ | (refine Ops.k_calla ?_; first | (refine Ops.k_callf 4 ?_; (refine Ops.call kX Evs.nil goPm rfl ?_; rintro r cs' ⟨bx, bm, rfl, rfl⟩)) | (refine Ops.k_callf 5 ?_; (refine Ops.call kY Evs.nil goPm rfl ?_; rintro r cs' ⟨by_, rfl, rfl⟩)) | (refine Ops.k_callf 6 ?_; (refine Ops.callG (next_gen _ (by omega)) (Evs.cons rfl (Evs.cons rfl Evs.nil)) goPk (by omega) rfl ?_; rintro r ⟨v, rfl, hv⟩; unfold InRange at hv))) | refine goR ?_ | refine goP ?_ | apply PSeq.cons | apply PSeq.yes rfl rfl rfl | exact goW | fail)
  generalize b = bs at *
  refine Cw.loopI [(3, _), (4, _), (5, _), (30, _)] _ (fun q e cc => ∃ (k c : Nat) (dv : Int) (L : List Ps) (m : List (ByteArray × Int)) (ad ad1 ad2 : Option Addr) (n cap cap1 cap2 : Nat), q = v.toNat - k ∧ (k ≤ v.toNat ∧ c ≤ 2 + 100 * k ∧ -(k : Int) ≤ dv ∧ dv ≤ k ∧ LSt L ∧ MI m L ∧ n = L.length) ∧ e = [(6, .int dv), (31, .int k)] ∧ cc = [ledX bx ad n cap bm, ownX ad cap (flgO L) L, sumC' bm m, ledY by_ ad1 n cap1 ad2 n cap2, ownE ad1 cap1 L, ownB ad2 cap2 L, strmC bs xs c])
    ⟨_, _, _, Ent.trans (Ent.nil 5 68) (Ent.trans (Ent.nil 3 39) (Ent.trans (Ent.nil 1 3) (Ent.mkP goSub goPm))), 0, _, 0, [], [], none, none, none, 0, 0, 0, 0, rfl, ⟨by omega, by omega, by omega, by omega, LSt.nil, MI.nil, rfl⟩, rfl, rfl⟩ ?_
  rintro _ _ _ ⟨k, c, dv, L, m, ad, ad1, ad2, n, cap, cap1, cap2, rfl, ⟨hk, hc, hd1, hd2, hs, hm, hn⟩, rfl, rfl⟩
  by_cases hkv : (k : Int) < v
  rotate_left
  · repeat' (first | refine goH ?_ | refine goV ?_ | refine goB (fun b => ?_) | refine goG ?_ | (refine Ops.k_guard ?_; first | (refine Ops.guard_dec rfl rfl (fun hc => ?_) (fun hc => ?_) <;> try (exfalso; omega)) | refine Ops.guard_split rfl rfl (fun hc => ?_) (fun hc => ?_)) | refine goI ?_ | (refine Cw.k_cond ?_; first | (refine Cw.cond_dec rfl (fun hc => ?_) (fun hc => ?_) <;> try (exfalso; omega)) | refine Cw.cond_bool rfl (fun hc => ?_) (fun hc => ?_)) | (refine Ops.k_calla ?_; first | (refine Ops.k_callf 26 ?_; refine Ops.callV k0 Evs.nil rfl ?_)) | (apply OpW.k_call; first | (apply OpW.k_callf 26; exact OpW.callV k0 Evs.nil)) | refine goR ?_ | refine goP ?_ | apply PSeq.cons | apply PSeq.yes rfl rfl rfl | exact goW | fail)
    exact Fin.ret Ent.refl (Outs.one rfl rfl) rfl
  repeat' (first | refine goH ?_ | refine goV ?_ | refine goB (fun b => ?_) | refine goG ?_ | (refine Ops.k_guard ?_; first | (refine Ops.guard_dec rfl rfl (fun hc => ?_) (fun hc => ?_) <;> try (exfalso; omega)) | refine Ops.guard_split rfl rfl (fun hc => ?_) (fun hc => ?_)) | refine goI ?_ | (refine Cw.k_cond ?_; first | (refine Cw.cond_dec rfl (fun hc => ?_) (fun hc => ?_) <;> try (exfalso; omega)) | refine Cw.cond_bool rfl (fun hc => ?_) (fun hc => ?_)) | (refine Ops.k_calla ?_; first | (refine Ops.k_callf 7 ?_; (refine Ops.callG (pick_gen (l := [0, 0, 1, -1]) (by repeat' (first | exact IsInts.nil | apply IsInts.cons)) (by simp)) (Evs.cons rfl (Evs.cons rfl Evs.nil)) goPk (by omega) rfl ?_; rintro r ⟨u, rfl, hu⟩; have hub : -1 ≤ u ∧ u ≤ 1 := (by simp at hu; omega); clear hu)) | (refine Ops.k_callf 8 ?_; (refine Ops.callG (flip_gen _ (by omega)) (Evs.cons rfl (Evs.cons rfl Evs.nil)) goPk (by omega) rfl ?_; rintro r ⟨v1, rfl⟩; cases v1))) | refine goR ?_ | refine goP ?_ | apply PSeq.cons | apply PSeq.yes rfl rfl rfl | exact goW | fail)
  · repeat' (first | refine goH ?_ | refine goV ?_ | refine goB (fun b => ?_) | refine goG ?_ | (refine Ops.k_guard ?_; first | (refine Ops.guard_dec rfl rfl (fun hc => ?_) (fun hc => ?_) <;> try (exfalso; omega)) | refine Ops.guard_split rfl rfl (fun hc => ?_) (fun hc => ?_)) | refine goI ?_ | (refine Cw.k_cond ?_; first | (refine Cw.cond_dec rfl (fun hc => ?_) (fun hc => ?_) <;> try (exfalso; omega)) | refine Cw.cond_bool rfl (fun hc => ?_) (fun hc => ?_)) | (refine Ops.k_calla ?_; first | (refine Ops.k_callf 12 ?_; (refine Ops.callG (entry_gen _) (Evs.cons rfl (Evs.cons rfl Evs.nil)) goPk (by omega) rfl ?_; rintro r ⟨e, rfl, ⟨he1, he2⟩⟩; rw [show e.row = [.int e.day, .str e.text, .lns e.ls] from rfl]))) | fail)
    have kc1 := checkEntry_fn e (by omega) (by omega)
    have kc2 := entryFault_fn e (by omega) (by omega)
    have kp1 := postX_fn bx n cap bm ad L m e hs hm hn (by omega) (by omega)
    have kp2 := postYe_fn by_ n cap1 ad1 ad2 cap2 L e hs hn (by omega) (by omega)
    rw [show e.row = [.int e.day, .str e.text, .lns e.ls] from rfl] at kc1 kc2 kp1 kp2
    unfold resR at kp1 kp2
    generalize entS e = E at *
    generalize pstR L e = R at *
    clear hs hm
    repeat' (first | refine goH ?_ | (refine Ops.k_b_neq ?_; first | (refine Ops.val' rfl (OpV.neq_f rfl rfl rfl) ?_)) | ((fail_if_success refine Ops.k_c_call ?_); refine goV ?_) | ((fail_if_success refine Ops.k_c_call ?_); refine goB (fun b => ?_)) | refine goG ?_ | (refine Ops.k_guard ?_; first | (refine Ops.guard_dec rfl rfl (fun hc => ?_) (fun hc => ?_) <;> try (exfalso; omega)) | refine Ops.guard_split rfl rfl (fun hc => ?_) (fun hc => ?_)) | refine goI ?_ | (refine Cw.k_cond ?_; first | (refine Cw.cond_dec rfl (fun hc => ?_) (fun hc => ?_) <;> try (exfalso; omega)) | refine Cw.cond_bool rfl (fun hc => ?_) (fun hc => ?_)) | exact OpW.callS kc1 (Evs.cons rfl Evs.nil) goPm | exact OpW.callS kc2 (Evs.cons rfl Evs.nil) goPm | exact OpV.w (OpV.neq_f rfl rfl rfl) | (refine Ops.k_calla ?_; first | (refine Ops.k_callf 15 ?_; (refine Ops.call kp1 (Evs.cons rfl (Evs.cons rfl Evs.nil)) goPm rfl ?_; rintro r cs' ⟨ad', n', cap', m', rfl, hs', hm', rfl, rfl⟩)) | (refine Ops.k_callf 16 ?_; (refine Ops.call kp2 (Evs.cons rfl (Evs.cons rfl Evs.nil)) goPm rfl ?_; rintro r cs' ⟨ad1', ad2', ny, cap1', cap2', rfl, hny, rfl⟩))) | refine goR ?_ | refine goP ?_ | apply PSeq.cons | apply PSeq.yes rfl rfl rfl | exact goW | fail)
    generalize hR1 : R.1 = L2 at *
    generalize R.2.1 = r1 at *
    generalize R.2.2 = r2 at *
    subst hny
    have hoq := fun (v : Nat) (hv : v ≤ 40000) => (show v ≤ 1000000000 by omega)
    repeat' (first | refine goH ?_ | refine goV ?_ | refine goB (fun b => ?_) | refine goG ?_ | (refine Ops.k_guard ?_; first | (refine Ops.guard_dec rfl rfl (fun hc => ?_) (fun hc => ?_) <;> try (exfalso; omega)) | refine Ops.guard_split rfl rfl (fun hc => ?_) (fun hc => ?_)) | refine goI ?_ | (refine Cw.k_cond ?_; first | (refine Cw.cond_dec rfl (fun hc => ?_) (fun hc => ?_) <;> try (exfalso; omega)) | refine Cw.cond_bool rfl (fun hc => ?_) (fun hc => ?_)) | (refine Ops.k_calla ?_; first | (refine Ops.k_callf 17 ?_; (refine Ops.callG (oneU_gen (by repeat' (first | exact IsStrs.nil | apply IsStrs.cons)) (by simp)) (Evs.cons rfl (Evs.cons rfl Evs.nil)) goPk (by omega) rfl ?_; rintro r ⟨a, rfl, ha⟩; clear ha))) | refine goR ?_ | refine goP ?_ | apply PSeq.cons | apply PSeq.yes rfl rfl rfl | exact goW | fail)
    have kL1 := linX_fn bx L2.length cap' bm ad' none 0 0 (flgO L2) L2 a hs'.ok rfl
    have kL2 := linY_fn by_ L2.length cap1' 0 ad1' ad2' L2.length cap2' (fun _ => false) L2 a hs'.ok rfl
    have kB1 := balX_fn bx L2.length cap' bm ad' L2 m' a hm'
    have kB2 := balY_fn by_ L2.length cap1' ad1' ad2' L2.length cap2' L2 a hs'.ok rfl
    obtain ⟨Z, hZ, hZl, kT2⟩ := trialY_fn L2 hs'
    have kT1 := trialX_fn bx L2.length cap' bm ad' L2 m' Z hs' hm' hZ
    have kT2 := kT2 by_ L2.length cap1' ad1' ad2' L2.length cap2' rfl
    obtain ⟨P, e1, hlin, hPl⟩ : ∃ (P : List Po) (e1 : Int), linT a L2 = .tup [.pos P, .int e1] ∧ P.length ≤ 40000 := by
      unfold linT
      cases isKey a
      · exact ⟨[], 5, rfl, by simp⟩
      · exact ⟨linO a L2, 0, rfl, by have := (linO_ok a hs'.ok.2).1; have := hs'.ok.1; omega⟩
    obtain ⟨bv, e2, hbal⟩ : ∃ (bv e2 : Int), balT a L2 = .tup [.int bv, .int e2] := by
      unfold balT
      cases isKey a
      · exact ⟨0, 5, rfl⟩
      · exact ⟨bal a L2, 0, rfl⟩
    rw [hlin] at kL1 kL2
    rw [hbal] at kB1 kB2
    have q1 := equal_po P (by omega)
    have q2 := equal_nm Z (by omega)
    clear hlin hbal hZ hPl hZl
    repeat' (first | refine goH ?_ | (refine Ops.k_b_neq ?_; first | (refine Ops.val' rfl (OpV.neq_f rfl rfl rfl) ?_)) | refine goV ?_ | refine goB (fun b => ?_) | refine goG ?_ | (refine Ops.k_guard ?_; first | (refine Ops.guard_dec rfl rfl (fun hc => ?_) (fun hc => ?_) <;> try (exfalso; omega)) | refine Ops.guard_split rfl rfl (fun hc => ?_) (fun hc => ?_)) | refine goI ?_ | (refine Cw.k_cond ?_; first | (refine Cw.cond_dec rfl (fun hc => ?_) (fun hc => ?_) <;> try (exfalso; omega)) | refine Cw.cond_bool rfl (fun hc => ?_) (fun hc => ?_)) | (refine Ops.k_calla ?_; first | (refine Ops.k_callf 18 ?_; refine Ops.callS kL1 (Evs.cons rfl (Evs.cons rfl Evs.nil)) goPm rfl ?_) | (refine Ops.k_callf 19 ?_; refine Ops.callS kL2 (Evs.cons rfl (Evs.cons rfl Evs.nil)) goPm rfl ?_) | (refine Ops.k_callf 20 ?_; refine Ops.callS kB1 (Evs.cons rfl (Evs.cons rfl Evs.nil)) goPm rfl ?_) | (refine Ops.k_callf 21 ?_; refine Ops.callS kB2 (Evs.cons rfl (Evs.cons rfl Evs.nil)) goPm rfl ?_) | (refine Ops.k_callf 24 ?_; refine Ops.callS kT1 (Evs.cons rfl Evs.nil) goPm rfl ?_) | refine Ops.callS kT2 (Evs.cons rfl Evs.nil) goPm rfl ?_ | (refine Ops.k_callf 22 ?_; refine Ops.callV q1 (Evs.cons rfl (Evs.cons rfl Evs.nil)) rfl ?_) | (refine Ops.k_callf 23 ?_; refine Ops.callV q2 (Evs.cons rfl (Evs.cons rfl Evs.nil)) rfl ?_)) | (apply OpW.k_call; first | (apply OpW.k_callf 18; exact OpW.callS kL1 (Evs.cons rfl (Evs.cons rfl Evs.nil)) goPm) | (apply OpW.k_callf 19; exact OpW.callS kL2 (Evs.cons rfl (Evs.cons rfl Evs.nil)) goPm) | (apply OpW.k_callf 20; exact OpW.callS kB1 (Evs.cons rfl (Evs.cons rfl Evs.nil)) goPm) | (apply OpW.k_callf 21; exact OpW.callS kB2 (Evs.cons rfl (Evs.cons rfl Evs.nil)) goPm) | (apply OpW.k_callf 24; exact OpW.callS kT1 (Evs.cons rfl Evs.nil) goPm) | exact OpW.callS kT2 (Evs.cons rfl Evs.nil) goPm | (apply OpW.k_callf 22; exact OpW.callV q1 (Evs.cons rfl (Evs.cons rfl Evs.nil))) | (apply OpW.k_callf 23; exact OpW.callV q2 (Evs.cons rfl (Evs.cons rfl Evs.nil)))) | refine goR ?_ | refine goP ?_ | apply PSeq.cons | apply PSeq.yes rfl rfl rfl | exact goW | fail)
    exact ⟨_, _, _, (Ent.mk goSub goTk), ⟨k + 1, _, _, L2, m', _, _, _, _, _, _, _, rfl, ⟨by omega, by omega, by omega, by omega, hs', hm', rfl⟩, rfl, rfl⟩, by omega⟩
  · repeat' (first | refine goH ?_ | refine goV ?_ | refine goB (fun b => ?_) | refine goG ?_ | (refine Ops.k_guard ?_; first | (refine Ops.guard_dec rfl rfl (fun hc => ?_) (fun hc => ?_) <;> try (exfalso; omega)) | refine Ops.guard_split rfl rfl (fun hc => ?_) (fun hc => ?_)) | refine goI ?_ | (refine Cw.k_cond ?_; first | (refine Cw.cond_dec rfl (fun hc => ?_) (fun hc => ?_) <;> try (exfalso; omega)) | refine Cw.cond_bool rfl (fun hc => ?_) (fun hc => ?_)) | (refine Ops.k_calla ?_; first | (refine Ops.k_callf 9 ?_; (refine Ops.callG (range_gen _ _ (by omega)) (Evs.cons rfl (Evs.cons rfl (Evs.cons rfl Evs.nil))) goPk (by omega) rfl ?_; rintro r ⟨no, rfl, hno⟩))) | refine goR ?_ | refine goP ?_ | apply PSeq.cons | apply PSeq.yes rfl rfl rfl | exact goW | fail)
    have kp1 := cancelX_fn bx n cap bm ad L m no hs hm hn
    have kp2 := cancelY_fn by_ n cap1 ad1 ad2 cap2 L no hs hn
    unfold resR at kp1 kp2
    generalize cnlR L no = R at *
    clear hs hm
    repeat' (first | refine goH ?_ | refine goV ?_ | refine goB (fun b => ?_) | refine goG ?_ | (refine Ops.k_guard ?_; first | (refine Ops.guard_dec rfl rfl (fun hc => ?_) (fun hc => ?_) <;> try (exfalso; omega)) | refine Ops.guard_split rfl rfl (fun hc => ?_) (fun hc => ?_)) | refine goI ?_ | (refine Cw.k_cond ?_; first | (refine Cw.cond_dec rfl (fun hc => ?_) (fun hc => ?_) <;> try (exfalso; omega)) | refine Cw.cond_bool rfl (fun hc => ?_) (fun hc => ?_)) | (refine Ops.k_calla ?_; first | (refine Ops.k_callf 10 ?_; (refine Ops.call kp1 (Evs.cons rfl (Evs.cons rfl Evs.nil)) goPm rfl ?_; rintro r cs' ⟨ad', n', cap', m', rfl, hs', hm', rfl, rfl⟩)) | (refine Ops.k_callf 11 ?_; (refine Ops.call kp2 (Evs.cons rfl (Evs.cons rfl Evs.nil)) goPm rfl ?_; rintro r cs' ⟨ad1', ad2', ny, cap1', cap2', rfl, hny, rfl⟩))) | refine goR ?_ | refine goP ?_ | apply PSeq.cons | apply PSeq.yes rfl rfl rfl | exact goW | fail)
    generalize hR1 : R.1 = L2 at *
    generalize R.2.1 = r1 at *
    generalize R.2.2 = r2 at *
    subst hny
    have hoq := fun (v : Nat) (hv : v ≤ 40000) => (show v ≤ 1000000000 by omega)
    repeat' (first | refine goH ?_ | refine goV ?_ | refine goB (fun b => ?_) | refine goG ?_ | (refine Ops.k_guard ?_; first | (refine Ops.guard_dec rfl rfl (fun hc => ?_) (fun hc => ?_) <;> try (exfalso; omega)) | refine Ops.guard_split rfl rfl (fun hc => ?_) (fun hc => ?_)) | refine goI ?_ | (refine Cw.k_cond ?_; first | (refine Cw.cond_dec rfl (fun hc => ?_) (fun hc => ?_) <;> try (exfalso; omega)) | refine Cw.cond_bool rfl (fun hc => ?_) (fun hc => ?_)) | (refine Ops.k_calla ?_; first | (refine Ops.k_callf 17 ?_; (refine Ops.callG (oneU_gen (by repeat' (first | exact IsStrs.nil | apply IsStrs.cons)) (by simp)) (Evs.cons rfl (Evs.cons rfl Evs.nil)) goPk (by omega) rfl ?_; rintro r ⟨a, rfl, ha⟩; clear ha))) | refine goR ?_ | refine goP ?_ | apply PSeq.cons | apply PSeq.yes rfl rfl rfl | exact goW | fail)
    have kL1 := linX_fn bx L2.length cap' bm ad' none 0 0 (flgO L2) L2 a hs'.ok rfl
    have kL2 := linY_fn by_ L2.length cap1' 0 ad1' ad2' L2.length cap2' (fun _ => false) L2 a hs'.ok rfl
    have kB1 := balX_fn bx L2.length cap' bm ad' L2 m' a hm'
    have kB2 := balY_fn by_ L2.length cap1' ad1' ad2' L2.length cap2' L2 a hs'.ok rfl
    obtain ⟨Z, hZ, hZl, kT2⟩ := trialY_fn L2 hs'
    have kT1 := trialX_fn bx L2.length cap' bm ad' L2 m' Z hs' hm' hZ
    have kT2 := kT2 by_ L2.length cap1' ad1' ad2' L2.length cap2' rfl
    obtain ⟨P, e1, hlin, hPl⟩ : ∃ (P : List Po) (e1 : Int), linT a L2 = .tup [.pos P, .int e1] ∧ P.length ≤ 40000 := by
      unfold linT
      cases isKey a
      · exact ⟨[], 5, rfl, by simp⟩
      · exact ⟨linO a L2, 0, rfl, by have := (linO_ok a hs'.ok.2).1; have := hs'.ok.1; omega⟩
    obtain ⟨bv, e2, hbal⟩ : ∃ (bv e2 : Int), balT a L2 = .tup [.int bv, .int e2] := by
      unfold balT
      cases isKey a
      · exact ⟨0, 5, rfl⟩
      · exact ⟨bal a L2, 0, rfl⟩
    rw [hlin] at kL1 kL2
    rw [hbal] at kB1 kB2
    have q1 := equal_po P (by omega)
    have q2 := equal_nm Z (by omega)
    clear hlin hbal hZ hPl hZl
    repeat' (first | refine goH ?_ | (refine Ops.k_b_neq ?_; first | (refine Ops.val' rfl (OpV.neq_f rfl rfl rfl) ?_)) | refine goV ?_ | refine goB (fun b => ?_) | refine goG ?_ | (refine Ops.k_guard ?_; first | (refine Ops.guard_dec rfl rfl (fun hc => ?_) (fun hc => ?_) <;> try (exfalso; omega)) | refine Ops.guard_split rfl rfl (fun hc => ?_) (fun hc => ?_)) | refine goI ?_ | (refine Cw.k_cond ?_; first | (refine Cw.cond_dec rfl (fun hc => ?_) (fun hc => ?_) <;> try (exfalso; omega)) | refine Cw.cond_bool rfl (fun hc => ?_) (fun hc => ?_)) | (refine Ops.k_calla ?_; first | (refine Ops.k_callf 18 ?_; refine Ops.callS kL1 (Evs.cons rfl (Evs.cons rfl Evs.nil)) goPm rfl ?_) | (refine Ops.k_callf 19 ?_; refine Ops.callS kL2 (Evs.cons rfl (Evs.cons rfl Evs.nil)) goPm rfl ?_) | (refine Ops.k_callf 20 ?_; refine Ops.callS kB1 (Evs.cons rfl (Evs.cons rfl Evs.nil)) goPm rfl ?_) | (refine Ops.k_callf 21 ?_; refine Ops.callS kB2 (Evs.cons rfl (Evs.cons rfl Evs.nil)) goPm rfl ?_) | (refine Ops.k_callf 24 ?_; refine Ops.callS kT1 (Evs.cons rfl Evs.nil) goPm rfl ?_) | refine Ops.callS kT2 (Evs.cons rfl Evs.nil) goPm rfl ?_ | (refine Ops.k_callf 22 ?_; refine Ops.callV q1 (Evs.cons rfl (Evs.cons rfl Evs.nil)) rfl ?_) | (refine Ops.k_callf 23 ?_; refine Ops.callV q2 (Evs.cons rfl (Evs.cons rfl Evs.nil)) rfl ?_)) | (apply OpW.k_call; first | (apply OpW.k_callf 18; exact OpW.callS kL1 (Evs.cons rfl (Evs.cons rfl Evs.nil)) goPm) | (apply OpW.k_callf 19; exact OpW.callS kL2 (Evs.cons rfl (Evs.cons rfl Evs.nil)) goPm) | (apply OpW.k_callf 20; exact OpW.callS kB1 (Evs.cons rfl (Evs.cons rfl Evs.nil)) goPm) | (apply OpW.k_callf 21; exact OpW.callS kB2 (Evs.cons rfl (Evs.cons rfl Evs.nil)) goPm) | (apply OpW.k_callf 24; exact OpW.callS kT1 (Evs.cons rfl Evs.nil) goPm) | exact OpW.callS kT2 (Evs.cons rfl Evs.nil) goPm | (apply OpW.k_callf 22; exact OpW.callV q1 (Evs.cons rfl (Evs.cons rfl Evs.nil))) | (apply OpW.k_callf 23; exact OpW.callV q2 (Evs.cons rfl (Evs.cons rfl Evs.nil)))) | refine goR ?_ | refine goP ?_ | apply PSeq.cons | apply PSeq.yes rfl rfl rfl | exact goW | fail)
    exact ⟨_, _, _, (Ent.mk goSub goTk), ⟨k + 1, _, _, L2, m', _, _, _, _, _, _, _, rfl, ⟨by omega, by omega, by omega, by omega, hs', hm', rfl⟩, rfl, rfl⟩, by omega⟩
end Lg
end
section
set_option linter.all false
set_option maxRecDepth 100000
namespace Lg
open Go Go.Proofs

/-! ### what a card's row says of the library's variables -/
theorem u8_all : ∃ ρ : Shelf.Ren, U8Types Tryz.prog ρ ∧ U8Extra Tryz.prog ρ :=
  ⟨⟨id, fun n => if n = 5 then 5 else if n = 119 then 118 else if n = 138 then 120 else if n = 139 then 121 else n, fun n => if n = 3 then (Tryz.prog.globalNamed "unicode/utf8.first").getD 0 else if n = 4 then (Tryz.prog.globalNamed "unicode/utf8.acceptRanges").getD 0 else n⟩,
    ⟨by kernel_rfl, by kernel_rfl, by kernel_rfl, by kernel_rfl⟩, ⟨by kernel_rfl, by kernel_rfl, by kernel_rfl, by kernel_rfl, by kernel_rfl, by kernel_rfl, by kernel_rfl⟩⟩
theorem bkV_of {w : World} (h1 : Lib.TabIs Tryz.prog w "internal/strconv.uint64pow10" .u64 Lib.pow10Tab) (h2 : Lib.VarReads Tryz.prog w "unicode/utf8.first" Lib.firstData) (h3 : Lib.VarReads Tryz.prog w "unicode/utf8.acceptRanges" Lib.acceptData)
    (h4 : ∃ g m, Tryz.prog.globalNamed "internal/bytealg.MaxLen" = some g ∧ w.cell? ⟨g, 0, none⟩ = some (.int .i64 m)) : VarsIn Tryz.prog bkV w := by
  obtain ⟨ρ, u8Types, u8Extra⟩ := u8_all
  have hu := utf8Tabs_of_readsT u8Types u8Extra h2 h3
  obtain ⟨g2, _, c2, _, _, e2, _, v2, _⟩ := h2
  obtain ⟨g3, _, c3, _, _, e3, _, v3, _⟩ := h3
  obtain ⟨g4, m, e4, v4⟩ := h4
  obtain rfl := Option.some.inj (u8Extra.n3.symm.trans e2)
  obtain rfl := Option.some.inj (u8Extra.n4.symm.trans e3)
  intro x hx
  unfold bkV at hx
  rcases List.mem_cons.1 hx with rfl | hx
  · exact ⟨_, h1, rfl⟩
  rcases List.mem_cons.1 hx with rfl | hx
  · refine ⟨c2, v2, fun c hc => ?_⟩
    rw [← World.var?_cell e2 v2 c]
    exact hu.1 c hc
  rcases List.mem_cons.1 hx with rfl | hx
  · refine ⟨c3, v3, fun i hi => ?_⟩
    rw [← World.var?_cell e3 v3 (2 * i), ← World.var?_cell e3 v3 (2 * i + 1)]
    exact hu.2 i hi
  rcases List.mem_cons.1 hx with rfl | hx
  · have hv : ∃ cs, w.var? Tryz.prog "internal/bytealg.MaxLen" = some cs := by
      unfold World.var?
      rw [e4]
      simp only [Option.bind_some]
      unfold World.cell? at v4
      simp only at v4
      split
      · exact ⟨_, rfl⟩
      · rename_i hno
        exfalso
        split at v4
        · rename_i hc
          exact hno _ _ _ hc
        · cases v4
    obtain ⟨cs, hv⟩ := hv
    refine ⟨cs, hv, m, ?_⟩
    rw [← World.var?_cell e4 hv 0]
    exact v4
  cases hx
theorem ledgersKept_walk {w : World} {a : Option Addr} {len cap : Nat} {zs : List Int} (h1 : Lib.TabIs Tryz.prog w "internal/strconv.uint64pow10" .u64 Lib.pow10Tab) (h2 : Lib.VarReads Tryz.prog w "unicode/utf8.first" Lib.firstData) (h3 : Lib.VarReads Tryz.prog w "unicode/utf8.acceptRanges" Lib.acceptData)
    (h4 : ∃ g m, Tryz.prog.globalNamed "internal/bytealg.MaxLen" = some g ∧ w.cell? ⟨g, 0, none⟩ = some (.int .i64 m)) (hr : IsRow .i64 w a len cap zs) :
    Calls Tryz.prog 3 #[.slice a len cap] w fun e w' => e = .returned (.bool true) ∧ Go.RowKit.Below w.heap.size w w' := law_callsV (bkV_of h1 h2 h3 h4) (ledgersKept_law (zs.take len)) hr
end Lg
end
