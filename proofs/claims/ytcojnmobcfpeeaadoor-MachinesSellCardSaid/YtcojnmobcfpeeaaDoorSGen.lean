/- A part of the proof of a law of this seat: it adds no condition. By an AI agent. -/
import Derived.Test.YtcojnmobcfpeeaaDoorMs12
import Derived.Test.YtcojnmobcfpeeaaDoorMs18
section
set_option linter.all false
set_option maxRecDepth 100000
set_option maxHeartbeats 8000000
namespace Lg
open Go Go.Proofs

/-! ### the other machine: new; audits compared -/
theorem tly_eq0 (n : Nat) (a : ByteArray) (b c : Int) (w : World) : (Op.equalIn (n + 1 + 1) 76 (.agg #[.string a, .int .i64 b, .int .i64 c]) (.agg #[.string a, .int .i64 b, .int .i64 c])).run Tryd.prog w = .ok true w := by
 have hs : Tryd.prog.stoodInHeld 76 = false := by kernel_rfl
 simp [Op.equalIn, run_underlying Tryd.underlying76, run_underlying Tryd.underlying9, run_underlying Tryd.underlying3, ba_self, hs, part, Go.sizeOf, typeInfo]
theorem tly_ne1 (a : ByteArray) (b c : Int) (w : World) : (binOp .neq 76 (.agg #[.string a, .int .i64 b, .int .i64 c]) (.agg #[.string a, .int .i64 b, .int .i64 c])).run Tryd.prog w = .ok (.bool false) w := by
 show (do let r ← Op.equalIn (9998 + 1 + 1) 76 _ _; pure (Value.bool !r) : Sem Value).run Tryd.prog w = _
 have := tly_eq0 9998 a b c w
 generalize Op.equalIn (9998 + 1 + 1) 76 (.agg #[.string a, .int .i64 b, .int .i64 c]) (.agg #[.string a, .int .i64 b, .int .i64 c]) = s at *
 simp [this]
section
variable {Γ : Ctx} {env : Env} {cs : List Chunk} {x y : Operand} {T2 ty : TypeId}
theorem OpV.tly_ne_f {a : ByteArray} {b c : Int} (hx : ev env x = some (.agg ([.string a, .int .i64 b, .int .i64 c].map Tr.raw))) (hy : ev env y = some (.agg ([.string a, .int .i64 b, .int .i64 c].map Tr.raw))) : OpV Tryd.prog Γ (.binOp .neq 76 x y T2) ty env cs (.bool false) := by
 unfold OpV
 intro ac w d
 have h1 := agg_raw (l := [.string a, .int .i64 b, .int .i64 c]) (d.ev hx)
 have h2 := agg_raw (l := [.string a, .int .i64 b, .int .i64 c]) (d.ev hy)
 have h3 := tly_ne1 a b c w
 have h4 : (eqGuard .neq 76 x y (.agg #[.string a, .int .i64 b, .int .i64 c]) (.agg #[.string a, .int .i64 b, .int .i64 c])).run Tryd.prog w = .ok () w := by simp [eqGuard]
 exact ⟨.bool false, by simp [execOp, h1, h2, h3, h4], by unfold Tr.bool Tr.raw; rfl⟩
end
theorem equal_tly (xs : List Tally) (h : xs.length ≤ 1000000000) : PFn Tryd.prog 63 [.sl 3 (xs.map Tally.row), .sl 3 (xs.map Tally.row)] (· = .bool true) := by
 refine PFn.mk (Spec.body Tryd.func63 rfl rfl (Tryd.ntmps63) rfl fun w0 own0 M => ?_)
 have hL : (xs.map Tally.row).length = xs.length := List.length_map _
 repeat' (first | refine goH ?_ | refine goV ?_ | refine goI ?_ | (refine Cw.k_cond ?_; first | (refine Cw.cond_dec rfl ?_ ?_ <;> intro hc <;> try omega) | refine Cw.cond_bool rfl ?_ ?_ <;> intro hc) | refine goR ?_ | refine goP ?_ | apply PSeq.cons | apply PSeq.yes rfl rfl rfl | exact goW | fail)
 refine Cw.loop (ι := Nat) (fun k => k ≤ xs.length) (fun k => [(0, .sl 3 (xs.map Tally.row)), (1, .sl 3 (xs.map Tally.row)), (11, .sl 3 (xs.map Tally.row)), (12, .int (xs.map Tally.row).length), (13, .int k)]) (fun _ => []) (fun k => xs.length - k) ⟨0, by omega, (Ent.mk goSub goTk)⟩ ?_
 intro k hk
 by_cases hkl : k < xs.length
 ·obtain ⟨d, hd⟩ : ∃ x, xs[k]? = some x := ⟨_, List.getElem?_eq_getElem hkl⟩
  have hrow : (xs.map Tally.row)[k]? = some [.str d.key, .int d.many, .int d.val] := rows_at hd
  repeat' (first | refine goH ?_ | refine goV ?_ | refine goI ?_ | (refine Cw.k_cond ?_; first | (refine Cw.cond_dec rfl ?_ ?_ <;> intro hc <;> try omega) | refine Cw.cond_bool rfl ?_ ?_ <;> intro hc) | (apply OpV.w; apply OpV.tly_ne_f; exact rfl; exact rfl) | refine goR ?_ | refine goP ?_ | apply PSeq.cons | apply PSeq.yes rfl rfl rfl | exact goW | fail)
  exact ⟨k + 1, by omega, by omega, (Ent.mk goSub goTk)⟩
 ·repeat' (first | refine goH ?_ | refine goV ?_ | refine goI ?_ | (refine Cw.k_cond ?_; first | (refine Cw.cond_dec rfl ?_ ?_ <;> intro hc <;> try omega) | refine Cw.cond_bool rfl ?_ ?_ <;> intro hc) | refine goR ?_ | refine goP ?_ | apply PSeq.cons | apply PSeq.yes rfl rfl rfl | exact goW | fail)
  exact Fin.ret Ent.refl (Outs.one rfl rfl) ⟨rfl, rfl⟩

theorem tbe_eq0 (n : Nat) (a b c : Int) (w : World) : (Op.equalIn (n + 1 + 1) 65 (.agg #[.int .i64 a, .int .i64 b, .int .i64 c]) (.agg #[.int .i64 a, .int .i64 b, .int .i64 c])).run Tryd.prog w = .ok true w := by
 have hs : Tryd.prog.stoodInHeld 65 = false := by kernel_rfl
 simp [Op.equalIn, run_underlying Tryd.underlying65, run_underlying Tryd.underlying3, hs, part, Go.sizeOf, typeInfo]
theorem tbe_ne1 (a b c : Int) (w : World) : (binOp .neq 65 (.agg #[.int .i64 a, .int .i64 b, .int .i64 c]) (.agg #[.int .i64 a, .int .i64 b, .int .i64 c])).run Tryd.prog w = .ok (.bool false) w := by
 show (do let r ← Op.equalIn (9998 + 1 + 1) 65 _ _; pure (Value.bool !r) : Sem Value).run Tryd.prog w = _
 have := tbe_eq0 9998 a b c w
 generalize Op.equalIn (9998 + 1 + 1) 65 (.agg #[.int .i64 a, .int .i64 b, .int .i64 c]) (.agg #[.int .i64 a, .int .i64 b, .int .i64 c]) = s at *
 simp [this]
section
variable {Γ : Ctx} {env : Env} {cs : List Chunk} {x y : Operand} {T2 ty : TypeId}
theorem OpV.tbe_ne_f {a b c : Int} (hx : ev env x = some (.agg ([.int .i64 a, .int .i64 b, .int .i64 c].map Tr.raw))) (hy : ev env y = some (.agg ([.int .i64 a, .int .i64 b, .int .i64 c].map Tr.raw))) : OpV Tryd.prog Γ (.binOp .neq 65 x y T2) ty env cs (.bool false) := by
 unfold OpV
 intro ac w d
 have h1 := agg_raw (l := [.int .i64 a, .int .i64 b, .int .i64 c]) (d.ev hx)
 have h2 := agg_raw (l := [.int .i64 a, .int .i64 b, .int .i64 c]) (d.ev hy)
 have h3 := tbe_ne1 a b c w
 have h4 : (eqGuard .neq 65 x y (.agg #[.int .i64 a, .int .i64 b, .int .i64 c]) (.agg #[.int .i64 a, .int .i64 b, .int .i64 c])).run Tryd.prog w = .ok () w := by simp [eqGuard]
 exact ⟨.bool false, by simp [execOp, h1, h2, h3, h4], by unfold Tr.bool Tr.raw; rfl⟩
end
theorem equal_tbe (xs : List Tube) (h : xs.length ≤ 1000000000) : PFn Tryd.prog 64 [.sl 3 (xs.map Tube.row), .sl 3 (xs.map Tube.row)] (· = .bool true) := by
 refine PFn.mk (Spec.body Tryd.func64 rfl rfl (Tryd.ntmps64) rfl fun w0 own0 M => ?_)
 have hL : (xs.map Tube.row).length = xs.length := List.length_map _
 repeat' (first | refine goH ?_ | refine goV ?_ | refine goI ?_ | (refine Cw.k_cond ?_; first | (refine Cw.cond_dec rfl ?_ ?_ <;> intro hc <;> try omega) | refine Cw.cond_bool rfl ?_ ?_ <;> intro hc) | refine goR ?_ | refine goP ?_ | apply PSeq.cons | apply PSeq.yes rfl rfl rfl | exact goW | fail)
 refine Cw.loop (ι := Nat) (fun k => k ≤ xs.length) (fun k => [(0, .sl 3 (xs.map Tube.row)), (1, .sl 3 (xs.map Tube.row)), (11, .sl 3 (xs.map Tube.row)), (12, .int (xs.map Tube.row).length), (13, .int k)]) (fun _ => []) (fun k => xs.length - k) ⟨0, by omega, (Ent.mk goSub goTk)⟩ ?_
 intro k hk
 by_cases hkl : k < xs.length
 ·obtain ⟨d, hd⟩ : ∃ x, xs[k]? = some x := ⟨_, List.getElem?_eq_getElem hkl⟩
  have hrow : (xs.map Tube.row)[k]? = some [Tr.int d.val, Tr.int d.cnt, Tr.int d.most] := rows_at hd
  repeat' (first | refine goH ?_ | refine goV ?_ | refine goI ?_ | (refine Cw.k_cond ?_; first | (refine Cw.cond_dec rfl ?_ ?_ <;> intro hc <;> try omega) | refine Cw.cond_bool rfl ?_ ?_ <;> intro hc) | (apply OpV.w; apply OpV.tbe_ne_f; exact rfl; exact rfl) | refine goR ?_ | refine goP ?_ | apply PSeq.cons | apply PSeq.yes rfl rfl rfl | exact goW | fail)
  exact ⟨k + 1, by omega, by omega, (Ent.mk goSub goTk)⟩
 ·repeat' (first | refine goH ?_ | refine goV ?_ | refine goI ?_ | (refine Cw.k_cond ?_; first | (refine Cw.cond_dec rfl ?_ ?_ <;> intro hc <;> try omega) | refine Cw.cond_bool rfl ?_ ?_ <;> intro hc) | refine goR ?_ | refine goP ?_ | apply PSeq.cons | apply PSeq.yes rfl rfl rfl | exact goW | fail)
  exact Fin.ret Ent.refl (Outs.one rfl rfl) ⟨rfl, rfl⟩

theorem sameAudit_fn (Y : List Tally) (T : List Tube) (i o f c x r : Int) (hY : Y.length ≤ 1000) (hT : T.length ≤ 1000) : PFn Tryd.prog 33 [.agg [.sl 3 (Y.map Tally.row), .int i, .int o, .int f, .int c, .int x, .int r, .tubes T], .agg [.sl 3 (Y.map Tally.row), .int i, .int o, .int f, .int c, .int x, .int r, .tubes T]] (· = .bool true) := by
 have k1 := equal_tly Y (by omega)
 have k2 := equal_tbe T (by omega)
 refine PFn.mk (Spec.body Tryd.func33 rfl rfl (Tryd.ntmps33) rfl fun w0 own0 M => ?_)
 repeat' (first | refine goH ?_ | (refine Ops.k_b_eql ?_; first | (refine Ops.val' rfl (OpV.eql_t rfl rfl rfl) ?_)) | refine goV ?_ | refine goB (fun b => ?_) | refine goG ?_ | (refine Ops.k_guard ?_; first | (refine Ops.guard_dec rfl rfl ?_ ?_ <;> intro hc <;> try omega) | refine Ops.guard_split rfl rfl ?_ ?_ <;> intro hc) | refine goI ?_ | (refine Cw.k_cond ?_; first | (refine Cw.cond_dec rfl ?_ ?_ <;> intro hc <;> try omega) | refine Cw.cond_bool rfl ?_ ?_ <;> intro hc) | (refine Ops.k_calla ?_; first | (refine Ops.k_callf 63 ?_; refine Ops.callV k1 (Evs.cons rfl (Evs.cons rfl Evs.nil)) rfl ?_) | (refine Ops.k_callf 64 ?_; refine Ops.callV k2 (Evs.cons rfl (Evs.cons rfl Evs.nil)) rfl ?_)) | fail)
 all_goals exact Fin.ret (Ent.take goTk) (Outs.one rfl rfl) ⟨rfl, rfl⟩
theorem newR_fn (T : List Tube) (K : List Int) (L : List SlotM) (G : Int) (hTl : T.length ≤ 1000) (hKl : K.length ≤ 1000) (hSl : L.length ≤ 1000) :
  Spec Tryd.prog 9 [.cfg T K L G] [] (fun r cs => ∃ (b bj bs : Nat) (aT aS : Option Addr) (cT cS : Nat), r = .ptr b ∧ cs = [mR b aT T.length cT K aS L.length cS G bj none 0 0 0 bs none 0 0 none 0 0 none 0 0 none 0 0, ownT aT cT T, ownS aS cS L, Chunk.mp Value.string bj [], Chunk.mp Value.string bs (gkv []), Chunk.bun (gch [])]) := by
 have kT := clone_tube (T.map Tube.row) (by intro r hr; obtain ⟨d, _, rfl⟩ := List.mem_map.1 hr; rfl) (by rw [List.length_map]; omega)
 have kS := clone_slotM (L.map SlotM.row) (by intro r hr; obtain ⟨d, _, rfl⟩ := List.mem_map.1 hr; rfl) (by rw [List.length_map]; omega)
 have kK := (clone_intM (intRows K) (by intro r hr; obtain ⟨d, _, rfl⟩ := List.mem_map.1 hr; rfl) (by rw [intRows_len]; omega)).val
 have hT : (T.map Tube.row).length = T.length := List.length_map _
 have hS : (L.map SlotM.row).length = L.length := List.length_map _
 refine Spec.body Tryd.func9 rfl rfl (Tryd.ntmps9) rfl fun w0 own0 M => ?_
 repeat' (first | refine goH ?_ | refine goV ?_ | refine goB (fun b => ?_) | refine goI ?_ | (refine Cw.k_cond ?_; first | (refine Cw.cond_dec rfl ?_ ?_ <;> intro hc <;> try omega) | refine Cw.cond_bool rfl ?_ ?_ <;> intro hc) | fail)
 generalize b = b1 at *
 first | refine Cw.region_YP (fun ξ S => Chunk.box b1 29 [stg (S 10) (.tubes T) (slV (ξ 2) (T.map Tube.row).length), stg (S 12) (.ints K) (.ints K), stg (S 14) (.slots L) (slV (ξ 8) (L.map SlotM.row).length), .int G] :: (stg (S 2) [] [ownV (ξ 2) 3 65 (T.map Tube.row)] ++ (stg (S 8) [] [ownV (ξ 8) 5 63 (L.map SlotM.row)] ++ []))) rfl (by decide +kernel) rfl ((fun (ξ : Nat → Value) (S : Nat → Bool) => Chunk.box b1 29 [stg (S 10) (.tubes T) (slV (ξ 2) (T.map Tube.row).length), stg (S 12) (.ints K) (.ints K), stg (S 14) (.slots L) (slV (ξ 8) (L.map SlotM.row).length), .int G] :: (stg (S 2) [] [ownV (ξ 2) 3 65 (T.map Tube.row)] ++ (stg (S 8) [] [ownV (ξ 8) 5 63 (L.map SlotM.row)] ++ []))) (fun _ => undef) (fun _ => false)) (by simp only [upd_same, updD_same, upd_ne, updD_ne, ne_eq, Nat.reduceEqDiff, not_false_eq_true, stg_t, stg_f, vAd_s, vCap_s, blk_p, List.cons_append, List.nil_append, b2n_t, b2n_f]; exact goXm) (fun _ => rfl) ?_ | fail
 apply YSeq.w (by intro _ _ _; rfl)
 ·intro ξ S h1 h2 h3 h4
  have hN0_1 := closed_false h1 h3 (k := 1) rfl (by decide)
  have hN0_2 := closed_false hN0_1 h3 (k := 2) rfl (by decide)
  have hN0_5 := closed_false hN0_2 h3 (k := 5) rfl (by decide)
  have hN0_8 := closed_false hN0_5 h3 (k := 8) rfl (by decide)
  have hN0_10 := closed_false h1 h3 (k := 10) rfl (by decide)
  have hN0_12 := closed_false h1 h3 (k := 12) rfl (by decide)
  have hN0_14 := closed_false h1 h3 (k := 14) rfl (by decide)
  try simp only [upd_same, updD_same, upd_ne, updD_ne, ne_eq, Nat.reduceEqDiff, not_false_eq_true, stg_t, stg_f, vAd_s, vCap_s, blk_p, List.cons_append, List.nil_append, b2n_t, b2n_f, hN0_2, hN0_8, hN0_10, hN0_12, hN0_14]
  exact goW
 ·intro ξ v; rfl
 ·intro ξ k v S h3 hn hk
  first
  |rfl
 apply YSeq.w (by intro _ _ _; rfl)
 ·intro ξ S h1 h2 h3 h4
  have hN1_2 := closed_false h1 h3 (k := 2) rfl (by decide)
  have hN1_5 := closed_false hN1_2 h3 (k := 5) rfl (by decide)
  have hN1_8 := closed_false hN1_5 h3 (k := 8) rfl (by decide)
  have hN1_10 := closed_false h1 h3 (k := 10) rfl (by decide)
  have hN1_12 := closed_false h1 h3 (k := 12) rfl (by decide)
  have hN1_14 := closed_false h1 h3 (k := 14) rfl (by decide)
  try simp only [upd_same, updD_same, upd_ne, updD_ne, ne_eq, Nat.reduceEqDiff, not_false_eq_true, stg_t, stg_f, vAd_s, vCap_s, blk_p, List.cons_append, List.nil_append, b2n_t, b2n_f, hN1_2, hN1_8, hN1_10, hN1_12, hN1_14]
  exact goW
 ·intro ξ v; rfl
 ·intro ξ k v S h3 hn hk
  first
  |rfl
 apply YSeq.callO ((T.map Tube.row).length)
 ·intro ξ S h1 h2 h3 h4
  have hN2_5 := closed_false h1 h3 (k := 5) rfl (by decide)
  have hN2_8 := closed_false hN2_5 h3 (k := 8) rfl (by decide)
  have hN2_10 := closed_false h1 h3 (k := 10) rfl (by decide)
  have hN2_12 := closed_false h1 h3 (k := 12) rfl (by decide)
  have hN2_14 := closed_false h1 h3 (k := 14) rfl (by decide)
  refine ⟨_, _, kT, (Evs.cons rfl Evs.nil), (by first | rfl | simp | omega), fun ad cap => ?_⟩
  simp only [upd_same, updD_same, upd_ne, updD_ne, ne_eq, Nat.reduceEqDiff, not_false_eq_true, stg_t, stg_f, vAd_s, vCap_s, blk_p, List.cons_append, List.nil_append, b2n_t, b2n_f, h1, hN2_8, hN2_10, hN2_12, hN2_14]
  exact goXm
 apply YSeq.w (by intro _ _ _; rfl)
 ·intro ξ S h1 h2 h3 h4
  have hN3_4 := closed_false h1 h3 (k := 4) rfl (by decide)
  have hN3_5 := closed_false hN3_4 h3 (k := 5) rfl (by decide)
  have hN3_8 := closed_false hN3_5 h3 (k := 8) rfl (by decide)
  have hN3_10 := closed_false h1 h3 (k := 10) rfl (by decide)
  have hN3_12 := closed_false h1 h3 (k := 12) rfl (by decide)
  have hN3_14 := closed_false h1 h3 (k := 14) rfl (by decide)
  try simp only [upd_same, updD_same, upd_ne, updD_ne, ne_eq, Nat.reduceEqDiff, not_false_eq_true, stg_t, stg_f, vAd_s, vCap_s, blk_p, List.cons_append, List.nil_append, b2n_t, b2n_f, hN3_8, hN3_10, hN3_12, hN3_14]
  exact goW
 ·intro ξ v; rfl
 ·intro ξ k v S h3 hn hk
  first
  |rfl
 apply YSeq.w (by intro _ _ _; rfl)
 ·intro ξ S h1 h2 h3 h4
  have hN4_5 := closed_false h1 h3 (k := 5) rfl (by decide)
  have hN4_8 := closed_false hN4_5 h3 (k := 8) rfl (by decide)
  have hN4_10 := closed_false h1 h3 (k := 10) rfl (by decide)
  have hN4_12 := closed_false h1 h3 (k := 12) rfl (by decide)
  have hN4_14 := closed_false h1 h3 (k := 14) rfl (by decide)
  try simp only [upd_same, updD_same, upd_ne, updD_ne, ne_eq, Nat.reduceEqDiff, not_false_eq_true, stg_t, stg_f, vAd_s, vCap_s, blk_p, List.cons_append, List.nil_append, b2n_t, b2n_f, hN4_8, hN4_10, hN4_12, hN4_14]
  exact goW
 ·intro ξ v; rfl
 ·intro ξ k v S h3 hn hk
  first
  |rfl
 apply YSeq.callV (by intro _ _ _; rfl)
 ·intro ξ S h1 h2 h3 h4
  have hY5_2 : S 2 = true := h2 2 (by decide)
  have hN5_8 := closed_false h1 h3 (k := 8) rfl (by decide)
  have hN5_10 := closed_false hN5_8 h3 (k := 10) rfl (by decide)
  have hN5_12 := closed_false h1 h3 (k := 12) rfl (by decide)
  have hN5_14 := closed_false h1 h3 (k := 14) rfl (by decide)
  try simp only [upd_same, updD_same, upd_ne, updD_ne, ne_eq, Nat.reduceEqDiff, not_false_eq_true, stg_t, stg_f, vAd_s, vCap_s, blk_p, List.cons_append, List.nil_append, b2n_t, b2n_f, hY5_2, hN5_8, hN5_10, hN5_12, hN5_14]
  exact ⟨_, (Evs.cons rfl Evs.nil), kK⟩
 ·intro ξ v; rfl
 ·intro ξ k v S h3 hn hk
  first
  |rfl
  |skip
   have hY5_2 : S 2 = true := h3 5 _ rfl hn 2 (by decide)
   simp only [upd_S hY5_2 hk]
 apply YSeq.w (by intro _ _ _; rfl)
 ·intro ξ S h1 h2 h3 h4
  have hN6_7 := closed_false h1 h3 (k := 7) rfl (by decide)
  have hN6_8 := closed_false hN6_7 h3 (k := 8) rfl (by decide)
  have hN6_10 := closed_false h1 h3 (k := 10) rfl (by decide)
  have hN6_12 := closed_false h1 h3 (k := 12) rfl (by decide)
  have hN6_14 := closed_false h1 h3 (k := 14) rfl (by decide)
  try simp only [upd_same, updD_same, upd_ne, updD_ne, ne_eq, Nat.reduceEqDiff, not_false_eq_true, stg_t, stg_f, vAd_s, vCap_s, blk_p, List.cons_append, List.nil_append, b2n_t, b2n_f, hN6_8, hN6_10, hN6_12, hN6_14]
  exact goW
 ·intro ξ v; rfl
 ·intro ξ k v S h3 hn hk
  first
  |rfl
 apply YSeq.w (by intro _ _ _; rfl)
 ·intro ξ S h1 h2 h3 h4
  have hN7_8 := closed_false h1 h3 (k := 8) rfl (by decide)
  have hN7_10 := closed_false h1 h3 (k := 10) rfl (by decide)
  have hN7_12 := closed_false h1 h3 (k := 12) rfl (by decide)
  have hN7_14 := closed_false h1 h3 (k := 14) rfl (by decide)
  try simp only [upd_same, updD_same, upd_ne, updD_ne, ne_eq, Nat.reduceEqDiff, not_false_eq_true, stg_t, stg_f, vAd_s, vCap_s, blk_p, List.cons_append, List.nil_append, b2n_t, b2n_f, hN7_8, hN7_10, hN7_12, hN7_14]
  exact goW
 ·intro ξ v; rfl
 ·intro ξ k v S h3 hn hk
  first
  |rfl
 apply YSeq.callO ((L.map SlotM.row).length)
 ·intro ξ S h1 h2 h3 h4
  have hY8_5 : S 5 = true := h2 5 (by decide)
  have hY8_2 : S 2 = true := h3 5 _ rfl hY8_5 2 (by decide)
  have hN8_10 := closed_false h1 h3 (k := 10) rfl (by decide)
  have hN8_12 := closed_false hN8_10 h3 (k := 12) rfl (by decide)
  have hN8_14 := closed_false h1 h3 (k := 14) rfl (by decide)
  refine ⟨_, _, kS, (Evs.cons rfl Evs.nil), (by first | rfl | simp | omega), fun ad cap => ?_⟩
  simp only [upd_same, updD_same, upd_ne, updD_ne, ne_eq, Nat.reduceEqDiff, not_false_eq_true, stg_t, stg_f, vAd_s, vCap_s, blk_p, List.cons_append, List.nil_append, b2n_t, b2n_f, hY8_2, h1, hN8_10, hN8_12, hN8_14]
  exact goXm
 apply YSeq.w (by intro _ _ _; rfl)
 ·intro ξ S h1 h2 h3 h4
  have hY9_2 : S 2 = true := h2 2 (by decide)
  have hN9_10 := closed_false h1 h3 (k := 10) rfl (by decide)
  have hN9_12 := closed_false h1 h3 (k := 12) rfl (by decide)
  have hN9_14 := closed_false h1 h3 (k := 14) rfl (by decide)
  try simp only [upd_same, updD_same, upd_ne, updD_ne, ne_eq, Nat.reduceEqDiff, not_false_eq_true, stg_t, stg_f, vAd_s, vCap_s, blk_p, List.cons_append, List.nil_append, b2n_t, b2n_f, hY9_2, hN9_10, hN9_12, hN9_14]
  exact goW
 ·intro ξ v; rfl
 ·intro ξ k v S h3 hn hk
  first
  |rfl
  |skip
   have hY9_2 : S 2 = true := h3 9 _ rfl hn 2 (by decide)
   simp only [upd_S hY9_2 hk]
 apply YSeq.store
 ·intro ξ S h1 h2 h3 h4
  have hY10_2 : S 2 = true := h2 2 (by decide)
  have hY10_8 : S 8 = true := h2 8 (by decide)
  have hN10_12 := closed_false h1 h3 (k := 12) rfl (by decide)
  have hN10_14 := closed_false h1 h3 (k := 14) rfl (by decide)
  simp only [upd_same, updD_same, upd_ne, updD_ne, ne_eq, Nat.reduceEqDiff, not_false_eq_true, stg_t, stg_f, vAd_s, vCap_s, blk_p, List.cons_append, List.nil_append, b2n_t, b2n_f, hY10_2, hY10_8, h1, hN10_12, hN10_14]
  refine ⟨_, _, _, _, _, _, _, rfl, rfl, inferInstance, goXp, rfl, Nat.le_of_ble_eq_true rfl, ?_⟩
  exact goXm
 apply YSeq.w (by intro _ _ _; rfl)
 ·intro ξ S h1 h2 h3 h4
  have hY11_2 : S 2 = true := h2 2 (by decide)
  have hY11_10 : S 10 = true := h2 10 (by decide)
  have hY11_8 : S 8 = true := h3 10 _ rfl hY11_10 8 (by decide)
  have hN11_12 := closed_false h1 h3 (k := 12) rfl (by decide)
  have hN11_14 := closed_false h1 h3 (k := 14) rfl (by decide)
  try simp only [upd_same, updD_same, upd_ne, updD_ne, ne_eq, Nat.reduceEqDiff, not_false_eq_true, stg_t, stg_f, vAd_s, vCap_s, blk_p, List.cons_append, List.nil_append, b2n_t, b2n_f, hY11_2, hY11_8, hY11_10, hN11_12, hN11_14]
  exact goW
 ·intro ξ v; rfl
 ·intro ξ k v S h3 hn hk
  first
  |rfl
  |skip
   have hY11_2 : S 2 = true := h3 11 _ rfl hn 2 (by decide)
   have hY11_10 : S 10 = true := h3 11 _ rfl hn 10 (by decide)
   have hY11_8 : S 8 = true := h3 10 _ rfl hY11_10 8 (by decide)
   simp only [upd_S hY11_2 hk, upd_S hY11_8 hk]
 apply YSeq.store
 ·intro ξ S h1 h2 h3 h4
  have hY12_2 : S 2 = true := h2 2 (by decide)
  have hY12_10 : S 10 = true := h2 10 (by decide)
  have hY12_8 : S 8 = true := h3 10 _ rfl hY12_10 8 (by decide)
  have hN12_14 := closed_false h1 h3 (k := 14) rfl (by decide)
  simp only [upd_same, updD_same, upd_ne, updD_ne, ne_eq, Nat.reduceEqDiff, not_false_eq_true, stg_t, stg_f, vAd_s, vCap_s, blk_p, List.cons_append, List.nil_append, b2n_t, b2n_f, hY12_2, hY12_8, hY12_10, h1, hN12_14]
  refine ⟨_, _, _, _, _, _, _, rfl, rfl, inferInstance, goXp, rfl, Nat.le_of_ble_eq_true rfl, ?_⟩
  exact goXm
 apply YSeq.w (by intro _ _ _; rfl)
 ·intro ξ S h1 h2 h3 h4
  have hY13_2 : S 2 = true := h2 2 (by decide)
  have hY13_8 : S 8 = true := h2 8 (by decide)
  have hY13_10 : S 10 = true := h2 10 (by decide)
  have hY13_12 : S 12 = true := h2 12 (by decide)
  have hN13_14 := closed_false h1 h3 (k := 14) rfl (by decide)
  try simp only [upd_same, updD_same, upd_ne, updD_ne, ne_eq, Nat.reduceEqDiff, not_false_eq_true, stg_t, stg_f, vAd_s, vCap_s, blk_p, List.cons_append, List.nil_append, b2n_t, b2n_f, hY13_2, hY13_8, hY13_10, hY13_12, hN13_14]
  exact goW
 ·intro ξ v; rfl
 ·intro ξ k v S h3 hn hk
  first
  |rfl
  |skip
   have hY13_2 : S 2 = true := h3 13 _ rfl hn 2 (by decide)
   have hY13_8 : S 8 = true := h3 13 _ rfl hn 8 (by decide)
   simp only [upd_S hY13_2 hk, upd_S hY13_8 hk]
 apply YSeq.store
 ·intro ξ S h1 h2 h3 h4
  have hY14_2 : S 2 = true := h2 2 (by decide)
  have hY14_8 : S 8 = true := h2 8 (by decide)
  have hY14_10 : S 10 = true := h2 10 (by decide)
  have hY14_12 : S 12 = true := h2 12 (by decide)
  simp only [upd_same, updD_same, upd_ne, updD_ne, ne_eq, Nat.reduceEqDiff, not_false_eq_true, stg_t, stg_f, vAd_s, vCap_s, blk_p, List.cons_append, List.nil_append, b2n_t, b2n_f, hY14_2, hY14_8, hY14_10, hY14_12, h1]
  refine ⟨_, _, _, _, _, _, _, rfl, rfl, inferInstance, goXp, rfl, Nat.le_of_ble_eq_true rfl, ?_⟩
  exact goXm
 refine YSeq.nil fun ξ hf => ?_
 refine ⟨[(1, _)], _, Ent.trans (Ent.eqc rfl (by first | (simp only [upd_same, updD_same, upd_ne, updD_ne, ne_eq, Nat.reduceEqDiff, not_false_eq_true, stg_t, stg_f, vAd_s, vCap_s, blk_p, List.cons_append, List.nil_append, b2n_t, b2n_f, ownV, slV, ptV] <;> rfl) | rfl)) (Ent.sub goSub), ?_⟩
 clear hf
 generalize vAd (ξ 2) = ad5
 generalize vCap (ξ 2) = cap5
 generalize vAd (ξ 8) = ad11
 generalize vCap (ξ 8) = cap11
 refine Then.norm ?_
 rw [hT, hS]
 refine Cw.ent Ent.bun0 ?_
 repeat' (first | refine goH ?_ | (refine Ops.k_makeMap ?_; first | (refine Ops.makeMap Value.string rfl (fun bm => ?_))) | refine goV ?_ | refine goB (fun b => ?_) | refine goI ?_ | (refine Cw.k_cond ?_; first | (refine Cw.cond_dec rfl ?_ ?_ <;> intro hc <;> try omega) | refine Cw.cond_bool rfl ?_ ?_ <;> intro hc) | refine goR ?_ | refine goP ?_ | apply PSeq.cons | apply PSeq.yes rfl rfl rfl | exact goW | fail)
 exact Fin.ret (Ent.take goTk) (Outs.one rfl rfl) ⟨_, _, _, _, _, _, _, rfl, rfl⟩
end Lg
end
section
set_option linter.all false
set_option maxRecDepth 100000
set_option maxHeartbeats 4000000
namespace Lg
open Go Go.Proofs

theorem rightTubes_gen : GenO Tryd.prog 25 36 [] 15 3 65 (fun rows => ∃ l : List Tube, rows = l.map Tube.row ∧ l.length ≤ 5) := by
 unfold GenO
 intro b xs N hN
 refine Spec.body Tryd.func36 rfl rfl (Tryd.ntmps36) rfl fun w0 own0 M => ?_
 repeat' (first | refine goH ?_ | refine goV ?_ | refine goB (fun b => ?_) | refine goC (fun ad cap => ?_) | refine goG ?_ | (refine Ops.k_guard ?_; first | (refine Ops.guard_dec rfl rfl ?_ ?_ <;> intro hc <;> try omega) | refine Ops.guard_split rfl rfl ?_ ?_ <;> intro hc) | refine goI ?_ | (refine Cw.k_cond ?_; first | (refine Cw.cond_dec rfl ?_ ?_ <;> intro hc <;> try omega) | refine Cw.cond_bool rfl ?_ ?_ <;> intro hc) | refine goR ?_ | refine goP ?_ | apply PSeq.cons | apply PSeq.yes rfl rfl rfl | exact goW | fail)
 refine Cw.loop (ι := Nat × Option Addr × Nat × List (List Tr) × Nat) (fun s => s.1 ≤ 5 ∧ (∃ l : List Tube, s.2.2.2.1 = l.map Tube.row ∧ l.length ≤ s.1) ∧ s.2.2.2.2 ≤ N + 3 * s.1)
  (fun s => [(0, .ptr b), (7, .ints [5, 10, 25, 50, 100]), (8, .int 5), (3, Tr.raw (.slice s.2.1 s.2.2.2.1.length s.2.2.1)), (9, .int s.1)])
  (fun s => [Chunk.own s.2.1 s.2.2.1 3 65 s.2.2.2.1, Chunk.strm 25 b (intRows xs) s.2.2.2.2]) (fun s => 5 - s.1) ⟨(0, none, 0, [], N), ⟨by simp only; omega, ⟨[], rfl, by simp⟩, by simp only; omega⟩, Ent.trans (Ent.nil 3 65) (Ent.mk goSub goTk)⟩ ?_
 rintro ⟨k, ad, cap, rows, c⟩ ⟨hk, ⟨l, hrows, hlen⟩, h3⟩
 simp only at hk hrows hlen h3 ⊢
 have hrl : rows.length = l.length := by rw [hrows]; simp
 have key : ∀ a b c : Int, rows ++ [[Tr.int a, Tr.int b, Tr.int c]] = (l ++ [Tube.mk a b c]).map Tube.row := by intro a b c; rw [hrows, List.map_append]; rfl
 by_cases hkl : k < 5
 ·obtain ⟨y, hy⟩ := at_lt (l := ([5, 10, 25, 50, 100] : List Int)) (k := k) (by simpa using hkl)
  have hrow := intRows_at hy
  repeat' (first | refine goH ?_ | refine goV ?_ | refine goB (fun b => ?_) | refine goC (fun ad cap => ?_) | refine goG ?_ | (refine Ops.k_guard ?_; first | (refine Ops.guard_dec rfl rfl ?_ ?_ <;> intro hc <;> try omega) | refine Ops.guard_split rfl rfl ?_ ?_ <;> intro hc) | refine goI ?_ | (refine Cw.k_cond ?_; first | (refine Cw.cond_dec rfl ?_ ?_ <;> intro hc <;> try omega) | refine Cw.cond_bool rfl ?_ ?_ <;> intro hc) | (refine Ops.k_calla ?_; first | (refine Ops.k_callf 20 ?_; (refine Ops.callG (flip_gen _ (by omega)) (Evs.cons rfl (Evs.cons rfl Evs.nil)) goPk (by omega) rfl ?_; rintro r ⟨v, rfl⟩)) | (refine Ops.k_callf 12 ?_; (refine Ops.callG (pick_gen (by repeat' (first | exact IsInts.nil | apply IsInts.cons)) (by simp)) (Evs.cons rfl (Evs.cons rfl Evs.nil)) goPk (by omega) rfl ?_; rintro r ⟨u, rfl, hu⟩; have hub : 0 ≤ u ∧ u ≤ 20 := (by simp at hu; omega); clear hu)) | (refine Ops.k_callf 10 ?_; (refine Ops.callG (next_gen _ (by omega)) (Evs.cons rfl (Evs.cons rfl Evs.nil)) goPk (by omega) rfl ?_; rintro r ⟨w, rfl, hw⟩))) | refine goR ?_ | refine goP ?_ | apply PSeq.cons | apply PSeq.yes rfl rfl rfl | exact goW | fail)
  ·refine ⟨(k + 1, _, _, _, _), ?_, ?_, (Ent.mk goSub goTk)⟩
   ·exact ⟨by simp only; omega, ⟨l, hrows, by simp only; omega⟩, by simp only; omega⟩
   ·simp only; omega
  ·refine ⟨(k + 1, _, _, _, _), ?_, ?_, (Ent.mk goSub goTk)⟩
   ·exact ⟨by simp only; omega, ⟨_, key _ _ _, by simp only [List.length_append, List.length_cons, List.length_nil]; omega⟩, by simp only; omega⟩
   ·simp only; omega
 ·repeat' (first | refine goH ?_ | refine goV ?_ | refine goB (fun b => ?_) | refine goC (fun ad cap => ?_) | refine goG ?_ | (refine Ops.k_guard ?_; first | (refine Ops.guard_dec rfl rfl ?_ ?_ <;> intro hc <;> try omega) | refine Ops.guard_split rfl rfl ?_ ?_ <;> intro hc) | refine goI ?_ | (refine Cw.k_cond ?_; first | (refine Cw.cond_dec rfl ?_ ?_ <;> intro hc <;> try omega) | refine Cw.cond_bool rfl ?_ ?_ <;> intro hc) | refine goR ?_ | refine goP ?_ | apply PSeq.cons | apply PSeq.yes rfl rfl rfl | exact goW | fail)
  exact Fin.ret (Ent.own_strm goPk goPk (by omega)) (Outs.one rfl rfl) ⟨ad, cap, rows, rfl, rfl, l, hrows, by omega⟩

end Lg
end
section
set_option linter.all false
set_option maxRecDepth 100000
set_option maxHeartbeats 4000000
namespace Lg
open Go Go.Proofs

def strRows (l : List ByteArray) : List (List Tr) := l.map fun x => [Tr.str x]
abbrev Tr.strs (l : List ByteArray) : Tr := Tr.sl 1 (strRows l)
theorem strRows_len (l : List ByteArray) : (strRows l).length = l.length := by simp [strRows]
theorem strRows_at {l : List ByteArray} {j : Nat} {x : ByteArray} (h : l[j]? = some x) : (strRows l)[j]? = some [Tr.str x] := rows_at h
theorem strRows_get {l : List ByteArray} {j : Nat} (h : j < l.length) : (strRows l)[j]? = some [Tr.str l[j]] := strRows_at (List.getElem?_eq_getElem h)
inductive IsStrs : List (List Tr) → List ByteArray → Prop
 |nil : IsStrs [] []
 |cons {rows : List (List Tr)} {l : List ByteArray} {x : ByteArray} (h : IsStrs rows l) : IsStrs ([Tr.str x] :: rows) (x :: l)
theorem IsStrs.eq {rows : List (List Tr)} {l : List ByteArray} (h : IsStrs rows l) : rows = strRows l := by
 induction h with
 |nil => rfl
 |cons h ih => rw [ih]; rfl
/-- one of some strings -/
theorem one_gen {rows : List (List Tr)} {l : List ByteArray} (hr : IsStrs rows l) (h : 0 < l.length ∧ l.length ≤ 100000) :
  Gen Tryd.prog 25 37 [.sl 1 rows] 1 (fun r => ∃ v, r = .str v ∧ v ∈ l) := by
 have h := hr.eq
 subst h
 unfold Gen
 intro b xs N hN
 refine Spec.body Tryd.func37 rfl rfl (Tryd.ntmps37) rfl fun w0 own0 M => ?_
 have hl := strRows_len l
 repeat' (first | refine goH ?_ | refine goV ?_ | refine goB (fun b => ?_) | refine goC (fun ad cap => ?_) | refine goG ?_ | (refine Ops.k_guard ?_; first | (refine Ops.guard_dec rfl rfl ?_ ?_ <;> intro hc <;> try omega) | refine Ops.guard_split rfl rfl ?_ ?_ <;> intro hc) | refine goI ?_ | (refine Cw.k_cond ?_; first | (refine Cw.cond_dec rfl ?_ ?_ <;> intro hc <;> try omega) | refine Cw.cond_bool rfl ?_ ?_ <;> intro hc) | (refine Ops.k_calla ?_; first | (refine Ops.k_callf 10 ?_; (refine Ops.callG (next_gen _ (by omega)) (Evs.cons rfl (Evs.cons rfl Evs.nil)) goPk (by omega) rfl ?_; rintro r ⟨v, rfl, hv⟩; unfold InRange at hv; have hj : v.toNat < l.length := (by omega); have hj2 := strRows_get hj))) | refine goR ?_ | refine goP ?_ | apply PSeq.cons | apply PSeq.yes rfl rfl rfl | exact goW | fail)
 exact Fin.ret Ent.refl (Outs.one rfl rfl) ⟨rfl, _, rfl, List.getElem_mem hj⟩
end Lg
end
