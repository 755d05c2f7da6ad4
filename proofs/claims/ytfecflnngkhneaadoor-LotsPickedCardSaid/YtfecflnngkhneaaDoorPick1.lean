/- A part of the proof of a law of this seat: it adds no condition. By an AI agent. -/
import Derived.Test.YtfecflnngkhneaaDoorCoil
import Derived.Test.YtfecflnngkhneaaDoorOwn
set_option linter.all false
set_option maxRecDepth 100000
set_option maxHeartbeats 4000000
namespace Lg
open Go Go.Proofs

/-- a copy of its own -/
theorem clone_lot (rows : List (List Tr)) (hk : ∀ r ∈ rows, r.length = 4) (hl : rows.length ≤ 1000000) : PFnO Tryd.prog 59 [.sl 4 rows] 4 64 (· = rows) := by
  unfold PFnO
  refine Spec.body Tryd.func59 rfl rfl (Tryd.ntmps59) rfl fun w0 own0 M => ?_
  repeat' (first | refine goH ?_ | ((fail_if_success refine Ops.k_b_eql ?_); (fail_if_success refine Ops.k_buildSlice ?_); refine goV ?_) | ((fail_if_success refine Ops.k_b_eql ?_); (fail_if_success refine Ops.k_buildSlice ?_); refine goC (fun ad cap => ?_)) | refine goI ?_ | (refine Cw.k_cond ?_; first | (refine Cw.cond_dec rfl (fun hc => ?_) (fun hc => ?_) <;> try (exfalso; omega)) | refine Cw.cond_bool rfl (fun hc => ?_) (fun hc => ?_)) | fail)
  refine Ops.eql_nilS rfl rfl (fun b hb => ?_)
  cases b
  · repeat' (first | refine goH ?_ | ((fail_if_success refine Ops.k_buildSlice ?_); refine goV ?_) | ((fail_if_success refine Ops.k_buildSlice ?_); refine goC (fun ad cap => ?_)) | refine goI ?_ | (refine Cw.k_cond ?_; first | (refine Cw.cond_dec rfl (fun hc => ?_) (fun hc => ?_) <;> try (exfalso; omega)) | refine Cw.cond_bool rfl (fun hc => ?_) (fun hc => ?_)) | fail)
    refine Ops.buildSlice_own (by exact Parts.nil) rfl rfl rfl (fun ad cap => ?_)
    repeat' (first | refine goH ?_ | refine goV ?_ | refine goC (fun ad cap => ?_) | refine goI ?_ | (refine Cw.k_cond ?_; first | (refine Cw.cond_dec rfl (fun hc => ?_) (fun hc => ?_) <;> try (exfalso; omega)) | refine Cw.cond_bool rfl (fun hc => ?_) (fun hc => ?_)) | fail)
    exact Fin.ret (Ent.take (by repeat' (first | exact Take.nil | refine Take.cons (by first | exact pick0 | exact pickS pick0 | exact pickS (pickS pick0) | exact pickS (pickS (pickS pick0)) | exact pickS (pickS (pickS (pickS pick0)))) ?_))) (Outs.one rfl rfl) ⟨_, _, _, rfl, rfl, rfl⟩
  · have hr := hb rfl
    subst hr
    repeat' (first | refine goH ?_ | refine goV ?_ | refine goC (fun ad cap => ?_) | refine goI ?_ | (refine Cw.k_cond ?_; first | (refine Cw.cond_dec rfl (fun hc => ?_) (fun hc => ?_) <;> try (exfalso; omega)) | refine Cw.cond_bool rfl (fun hc => ?_) (fun hc => ?_)) | fail)
    exact Fin.ret (Ent.trans (Ent.nil 4 64) (Ent.take (by repeat' (first | exact Take.nil | refine Take.cons (by first | exact pick0 | exact pickS pick0 | exact pickS (pickS pick0) | exact pickS (pickS (pickS pick0)) | exact pickS (pickS (pickS (pickS pick0)))) ?_)))) (Outs.one rfl rfl) ⟨none, 0, [], rfl, rfl, rfl⟩

theorem lot_eq0 (n : Nat) (p q : ByteArray) (r s : Int) (w : World) : (Op.equalIn (n + 1 + 1) 64 (.agg #[.string p, .string q, .int .i64 r, .int .i64 s]) (.agg #[.string p, .string q, .int .i64 r, .int .i64 s])).run Tryd.prog w = .ok true w := by
  have hs : Tryd.prog.stoodInHeld 64 = false := by kernel_rfl
  simp [Op.equalIn, run_underlying Tryd.underlying64, run_underlying Tryd.underlying9, run_underlying Tryd.underlying3, ba_self, hs, part, Go.sizeOf, typeInfo]
theorem lot_eq1 (p q : ByteArray) (r s : Int) (w : World) : (binOp .eql 64 (.agg #[.string p, .string q, .int .i64 r, .int .i64 s]) (.agg #[.string p, .string q, .int .i64 r, .int .i64 s])).run Tryd.prog w = .ok (.bool true) w := by
  show (do let r ← Op.equalIn (9998 + 1 + 1) 64 _ _; pure (Value.bool r) : Sem Value).run Tryd.prog w = _
  have := lot_eq0 9998 p q r s w
  generalize Op.equalIn (9998 + 1 + 1) 64 (.agg #[.string p, .string q, .int .i64 r, .int .i64 s]) (.agg #[.string p, .string q, .int .i64 r, .int .i64 s]) = s at *
  simp [this]
theorem lot_ne1 (p q : ByteArray) (r s : Int) (w : World) : (binOp .neq 64 (.agg #[.string p, .string q, .int .i64 r, .int .i64 s]) (.agg #[.string p, .string q, .int .i64 r, .int .i64 s])).run Tryd.prog w = .ok (.bool false) w := by
  show (do let r ← Op.equalIn (9998 + 1 + 1) 64 _ _; pure (Value.bool !r) : Sem Value).run Tryd.prog w = _
  have := lot_eq0 9998 p q r s w
  generalize Op.equalIn (9998 + 1 + 1) 64 (.agg #[.string p, .string q, .int .i64 r, .int .i64 s]) (.agg #[.string p, .string q, .int .i64 r, .int .i64 s]) = s at *
  simp [this]
section
variable {Γ : Ctx} {env : Env} {cs : List Chunk} {x y : Operand} {T2 ty : TypeId}
theorem OpV.lot_t {p q : ByteArray} {r s : Int} (hx : ev env x = some (.agg ([.string p, .string q, .int .i64 r, .int .i64 s].map Tr.raw))) (hy : ev env y = some (.agg ([.string p, .string q, .int .i64 r, .int .i64 s].map Tr.raw))) : OpV Tryd.prog Γ (.binOp .eql 64 x y T2) ty env cs (.bool true) := by
  unfold OpV
  intro ac w d
  have h1 := agg_raw (l := [.string p, .string q, .int .i64 r, .int .i64 s]) (d.ev hx)
  have h2 := agg_raw (l := [.string p, .string q, .int .i64 r, .int .i64 s]) (d.ev hy)
  have h3 := lot_eq1 p q r s w
  have h4 : (eqGuard .eql 64 x y (.agg #[.string p, .string q, .int .i64 r, .int .i64 s]) (.agg #[.string p, .string q, .int .i64 r, .int .i64 s])).run Tryd.prog w = .ok () w := by simp [eqGuard]
  exact ⟨.bool true, by simp [execOp, h1, h2, h3, h4], by unfold Tr.bool Tr.raw; rfl⟩
theorem OpV.lot_ne_f {p q : ByteArray} {r s : Int} (hx : ev env x = some (.agg ([.string p, .string q, .int .i64 r, .int .i64 s].map Tr.raw))) (hy : ev env y = some (.agg ([.string p, .string q, .int .i64 r, .int .i64 s].map Tr.raw))) : OpV Tryd.prog Γ (.binOp .neq 64 x y T2) ty env cs (.bool false) := by
  unfold OpV
  intro ac w d
  have h1 := agg_raw (l := [.string p, .string q, .int .i64 r, .int .i64 s]) (d.ev hx)
  have h2 := agg_raw (l := [.string p, .string q, .int .i64 r, .int .i64 s]) (d.ev hy)
  have h3 := lot_ne1 p q r s w
  have h4 : (eqGuard .neq 64 x y (.agg #[.string p, .string q, .int .i64 r, .int .i64 s]) (.agg #[.string p, .string q, .int .i64 r, .int .i64 s])).run Tryd.prog w = .ok () w := by simp [eqGuard]
  exact ⟨.bool false, by simp [execOp, h1, h2, h3, h4], by unfold Tr.bool Tr.raw; rfl⟩
end
theorem equal_lot (xs : List Lot) (h : xs.length ≤ 1000000000) : PFn Tryd.prog 33 [.sl 4 (xs.map Lot.row), .sl 4 (xs.map Lot.row)] (· = .bool true) := by
  refine PFn.mk (Spec.body Tryd.func33 rfl rfl (Tryd.ntmps33) rfl fun w0 own0 M => ?_)
  have hL : (xs.map Lot.row).length = xs.length := List.length_map _
  repeat' (first | refine goH ?_ | refine goV ?_ | refine goI ?_ | (refine Cw.k_cond ?_; first | (refine Cw.cond_dec rfl (fun hc => ?_) (fun hc => ?_) <;> try (exfalso; omega)) | refine Cw.cond_bool rfl (fun hc => ?_) (fun hc => ?_)) | refine goR ?_ | refine goP ?_ | apply PSeq.cons | apply PSeq.yes rfl rfl rfl | exact goW | fail)
  refine Cw.loop (ι := Nat) (fun k => k ≤ xs.length) (fun k => [(0, .sl 4 (xs.map Lot.row)), (1, .sl 4 (xs.map Lot.row)), (11, .sl 4 (xs.map Lot.row)), (12, .int (xs.map Lot.row).length), (13, .int k)]) (fun _ => []) (fun k => xs.length - k) ⟨0, by omega, (Ent.mk (by repeat' (first | exact Sub.nil | refine Sub.cons rfl ?_)) (by repeat' (first | exact Take.nil | refine Take.cons (by first | exact pick0 | exact pickS pick0 | exact pickS (pickS pick0) | exact pickS (pickS (pickS pick0)) | exact pickS (pickS (pickS (pickS pick0)))) ?_)))⟩ ?_
  intro k hk
  by_cases hkl : k < xs.length
  · obtain ⟨d, hd⟩ : ∃ x, xs[k]? = some x := ⟨_, List.getElem?_eq_getElem hkl⟩
    have hrow : (xs.map Lot.row)[k]? = some [.str d.id, .str d.prod, .int d.exp, .int d.many] := rows_at hd
    repeat' (first | refine goH ?_ | refine goV ?_ | refine goI ?_ | (refine Cw.k_cond ?_; first | (refine Cw.cond_dec rfl (fun hc => ?_) (fun hc => ?_) <;> try (exfalso; omega)) | refine Cw.cond_bool rfl (fun hc => ?_) (fun hc => ?_)) | (apply OpV.w; apply OpV.lot_ne_f; exact rfl; exact rfl) | refine goR ?_ | refine goP ?_ | apply PSeq.cons | apply PSeq.yes rfl rfl rfl | exact goW | fail)
    exact ⟨k + 1, by omega, by omega, (Ent.mk (by repeat' (first | exact Sub.nil | refine Sub.cons rfl ?_)) (by repeat' (first | exact Take.nil | refine Take.cons (by first | exact pick0 | exact pickS pick0 | exact pickS (pickS pick0) | exact pickS (pickS (pickS pick0)) | exact pickS (pickS (pickS (pickS pick0)))) ?_)))⟩
  · repeat' (first | refine goH ?_ | refine goV ?_ | refine goI ?_ | (refine Cw.k_cond ?_; first | (refine Cw.cond_dec rfl (fun hc => ?_) (fun hc => ?_) <;> try (exfalso; omega)) | refine Cw.cond_bool rfl (fun hc => ?_) (fun hc => ?_)) | refine goR ?_ | refine goP ?_ | apply PSeq.cons | apply PSeq.yes rfl rfl rfl | exact goW | fail)
    exact Fin.ret Ent.refl (Outs.one rfl rfl) ⟨rfl, rfl⟩

theorem piece_eq0 (n : Nat) (a : ByteArray) (b : Int) (w : World) : (Op.equalIn (n + 1 + 1) 67 (.agg #[.string a, .int .i64 b]) (.agg #[.string a, .int .i64 b])).run Tryd.prog w = .ok true w := by
  have hs : Tryd.prog.stoodInHeld 67 = false := by kernel_rfl
  simp [Op.equalIn, run_underlying Tryd.underlying67, run_underlying Tryd.underlying9, run_underlying Tryd.underlying3, ba_self, hs, part, Go.sizeOf, typeInfo]
theorem piece_eq1 (a : ByteArray) (b : Int) (w : World) : (binOp .eql 67 (.agg #[.string a, .int .i64 b]) (.agg #[.string a, .int .i64 b])).run Tryd.prog w = .ok (.bool true) w := by
  show (do let r ← Op.equalIn (9998 + 1 + 1) 67 _ _; pure (Value.bool r) : Sem Value).run Tryd.prog w = _
  have := piece_eq0 9998 a b w
  generalize Op.equalIn (9998 + 1 + 1) 67 (.agg #[.string a, .int .i64 b]) (.agg #[.string a, .int .i64 b]) = s at *
  simp [this]
theorem piece_ne1 (a : ByteArray) (b : Int) (w : World) : (binOp .neq 67 (.agg #[.string a, .int .i64 b]) (.agg #[.string a, .int .i64 b])).run Tryd.prog w = .ok (.bool false) w := by
  show (do let r ← Op.equalIn (9998 + 1 + 1) 67 _ _; pure (Value.bool !r) : Sem Value).run Tryd.prog w = _
  have := piece_eq0 9998 a b w
  generalize Op.equalIn (9998 + 1 + 1) 67 (.agg #[.string a, .int .i64 b]) (.agg #[.string a, .int .i64 b]) = s at *
  simp [this]
section
variable {Γ : Ctx} {env : Env} {cs : List Chunk} {x y : Operand} {T2 ty : TypeId}
theorem OpV.piece_t {a : ByteArray} {b : Int} (hx : ev env x = some (.agg ([.string a, .int .i64 b].map Tr.raw))) (hy : ev env y = some (.agg ([.string a, .int .i64 b].map Tr.raw))) : OpV Tryd.prog Γ (.binOp .eql 67 x y T2) ty env cs (.bool true) := by
  unfold OpV
  intro ac w d
  have h1 := agg_raw (l := [.string a, .int .i64 b]) (d.ev hx)
  have h2 := agg_raw (l := [.string a, .int .i64 b]) (d.ev hy)
  have h3 := piece_eq1 a b w
  have h4 : (eqGuard .eql 67 x y (.agg #[.string a, .int .i64 b]) (.agg #[.string a, .int .i64 b])).run Tryd.prog w = .ok () w := by simp [eqGuard]
  exact ⟨.bool true, by simp [execOp, h1, h2, h3, h4], by unfold Tr.bool Tr.raw; rfl⟩
theorem OpV.piece_ne_f {a : ByteArray} {b : Int} (hx : ev env x = some (.agg ([.string a, .int .i64 b].map Tr.raw))) (hy : ev env y = some (.agg ([.string a, .int .i64 b].map Tr.raw))) : OpV Tryd.prog Γ (.binOp .neq 67 x y T2) ty env cs (.bool false) := by
  unfold OpV
  intro ac w d
  have h1 := agg_raw (l := [.string a, .int .i64 b]) (d.ev hx)
  have h2 := agg_raw (l := [.string a, .int .i64 b]) (d.ev hy)
  have h3 := piece_ne1 a b w
  have h4 : (eqGuard .neq 67 x y (.agg #[.string a, .int .i64 b]) (.agg #[.string a, .int .i64 b])).run Tryd.prog w = .ok () w := by simp [eqGuard]
  exact ⟨.bool false, by simp [execOp, h1, h2, h3, h4], by unfold Tr.bool Tr.raw; rfl⟩
end
theorem equal_piece (xs : List Piece) (h : xs.length ≤ 1000000000) : PFn Tryd.prog 34 [.sl 2 (xs.map Piece.row), .sl 2 (xs.map Piece.row)] (· = .bool true) := by
  refine PFn.mk (Spec.body Tryd.func34 rfl rfl (Tryd.ntmps34) rfl fun w0 own0 M => ?_)
  have hL : (xs.map Piece.row).length = xs.length := List.length_map _
  repeat' (first | refine goH ?_ | refine goV ?_ | refine goI ?_ | (refine Cw.k_cond ?_; first | (refine Cw.cond_dec rfl (fun hc => ?_) (fun hc => ?_) <;> try (exfalso; omega)) | refine Cw.cond_bool rfl (fun hc => ?_) (fun hc => ?_)) | refine goR ?_ | refine goP ?_ | apply PSeq.cons | apply PSeq.yes rfl rfl rfl | exact goW | fail)
  refine Cw.loop (ι := Nat) (fun k => k ≤ xs.length) (fun k => [(0, .sl 2 (xs.map Piece.row)), (1, .sl 2 (xs.map Piece.row)), (11, .sl 2 (xs.map Piece.row)), (12, .int (xs.map Piece.row).length), (13, .int k)]) (fun _ => []) (fun k => xs.length - k) ⟨0, by omega, (Ent.mk (by repeat' (first | exact Sub.nil | refine Sub.cons rfl ?_)) (by repeat' (first | exact Take.nil | refine Take.cons (by first | exact pick0 | exact pickS pick0 | exact pickS (pickS pick0) | exact pickS (pickS (pickS pick0)) | exact pickS (pickS (pickS (pickS pick0)))) ?_)))⟩ ?_
  intro k hk
  by_cases hkl : k < xs.length
  · obtain ⟨d, hd⟩ : ∃ x, xs[k]? = some x := ⟨_, List.getElem?_eq_getElem hkl⟩
    have hrow : (xs.map Piece.row)[k]? = some [.str d.lot, .int d.many] := rows_at hd
    repeat' (first | refine goH ?_ | refine goV ?_ | refine goI ?_ | (refine Cw.k_cond ?_; first | (refine Cw.cond_dec rfl (fun hc => ?_) (fun hc => ?_) <;> try (exfalso; omega)) | refine Cw.cond_bool rfl (fun hc => ?_) (fun hc => ?_)) | (apply OpV.w; apply OpV.piece_ne_f; exact rfl; exact rfl) | refine goR ?_ | refine goP ?_ | apply PSeq.cons | apply PSeq.yes rfl rfl rfl | exact goW | fail)
    exact ⟨k + 1, by omega, by omega, (Ent.mk (by repeat' (first | exact Sub.nil | refine Sub.cons rfl ?_)) (by repeat' (first | exact Take.nil | refine Take.cons (by first | exact pick0 | exact pickS pick0 | exact pickS (pickS pick0) | exact pickS (pickS (pickS pick0)) | exact pickS (pickS (pickS (pickS pick0)))) ?_)))⟩
  · repeat' (first | refine goH ?_ | refine goV ?_ | refine goI ?_ | (refine Cw.k_cond ?_; first | (refine Cw.cond_dec rfl (fun hc => ?_) (fun hc => ?_) <;> try (exfalso; omega)) | refine Cw.cond_bool rfl (fun hc => ?_) (fun hc => ?_)) | refine goR ?_ | refine goP ?_ | apply PSeq.cons | apply PSeq.yes rfl rfl rfl | exact goW | fail)
    exact Fin.ret Ent.refl (Outs.one rfl rfl) ⟨rfl, rfl⟩

end Lg
