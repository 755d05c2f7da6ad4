/- A part of the proof of a law of this seat: it adds no condition. By an AI agent. -/
import Derived.Test.YticfcbcmjkohmaaGreatDoorAge1
section
set_option linter.all false
set_option maxRecDepth 100000
set_option maxHeartbeats 4000000
namespace Lg
open Go Go.Proofs

def unitsU (ps : List Piece) : List ByteArray := ps.flatMap fun p => List.replicate p.many.toNat p.lot
theorem unitsU_cons (p : Piece) (ps : List Piece) : unitsU (p :: ps) = List.replicate p.many.toNat p.lot ++ unitsU ps := rfl
theorem unitsU_app (a b : List Piece) : unitsU (a ++ b) = unitsU a ++ unitsU b := by simp [unitsU]
theorem unitsU_len : ∀ {ps : List Piece}, (∀ p ∈ ps, 0 ≤ p.many) → ((unitsU ps).length : Int) = unitsI ps
  | [], _ => rfl
  | p :: ps, h => by
    have h1 := h p (by simp)
    have h2 := unitsU_len fun q hq => h q (List.mem_cons_of_mem p hq)
    rw [unitsU_cons, unitsI, sumF_cons, ← unitsI, List.length_append, List.length_replicate]
    omega
theorem take_snoc {α : Type} {l : List α} {k : Nat} {x : α} (h : l[k]? = some x) : l.take (k + 1) = l.take k ++ [x] := take_at h

/-- the lots of all units: it hands out a slice of its own -/
def expOf (l : List Lot) (id : ByteArray) : Int := (lotD l id).exp
def blockedI (l : List Lot) (day : Int) : List Piece → Int
  | [] => 0
  | p :: ps => if day ≤ expOf l p.lot then 0 else p.many + blockedI l day ps
def blockedU (l : List Lot) (day : Int) : List ByteArray → Int
  | [] => 0
  | s :: r => if day ≤ expOf l s then 0 else 1 + blockedU l day r
theorem blockedU_rep (l : List Lot) (day : Int) (s : ByteArray) (r : List ByteArray) : ∀ n, blockedU l day (List.replicate (n + 1) s ++ r) = if day ≤ expOf l s then 0 else ((n + 1 : Nat) : Int) + blockedU l day r
  | 0 => by simp [blockedU]
  | n + 1 => by
    rw [List.replicate_succ, List.cons_append, blockedU, blockedU_rep l day s r n]
    split <;> omega
theorem blockedU_units (l : List Lot) (day : Int) : ∀ {ps : List Piece}, (∀ p ∈ ps, 1 ≤ p.many) → blockedU l day (unitsU ps) = blockedI l day ps
  | [], _ => rfl
  | p :: ps, h => by
    have h1 := h p (by simp)
    obtain ⟨n, hn⟩ : ∃ n, p.many.toNat = n + 1 := ⟨p.many.toNat - 1, by omega⟩
    rw [unitsU_cons, hn, blockedU_rep, blockedU_units l day fun q hq => h q (List.mem_cons_of_mem p hq), blockedI]
    split <;> omega

theorem known_find {l : List Lot} {ps : List Piece} (h : strangeB l ps = false) : ∀ p ∈ ps, ∃ x, findL l p.lot = some x := by
  intro p hp
  unfold strangeB at h
  rw [List.any_eq_false] at h
  have := h p hp
  cases hf : findL l p.lot with
  | none => simp [hf] at this
  | some x => exact ⟨x, rfl⟩
theorem dayB_iff {n : Int} : dayB n = true ↔ 0 ≤ n ∧ n ≤ 4000 := by simp [dayB, outB]

theorem coilDay_ok {l : List Lot} {c : Coil} {day : Int} (h : coilDayErr l c day = 0) : lotsErr l = 0 ∧ coilErr c = 0 ∧ strangeB l c.ps = false ∧ dayB day = true := by
  unfold coilDayErr at h
  split at h
  · omega
  · split at h
    · omega
    · split at h
      · omega
      · rename_i h1 h2 h3
        split at h
        · rename_i h4
          exact ⟨by omega, by omega, by simpa using h3, h4⟩
        · omega
theorem coilErr_ok {c : Coil} (h : coilErr c = 0) : isKey c.prod = true ∧ 0 ≤ c.most ∧ c.most ≤ 1000 ∧ c.ps.length ≤ 1000 ∧ (∀ p ∈ c.ps, isKey p.lot = true ∧ 1 ≤ p.many ∧ p.many ≤ 1000) ∧ unitsI c.ps ≤ c.most := by
  unfold coilErr at h
  split at h
  · omega
  · split at h
    · omega
    · split at h
      · omega
      · split at h
        · rename_i h5; exact absurd h h5
        · rename_i h1 h2 h3 h4
          split at h
          · omega
          · exact ⟨by simpa using h1, by omega, by omega, by omega, pieces_ok (by simpa using h4), by omega⟩
theorem lotsErr_ok {l : List Lot} (h : lotsErr l = 0) : l.length ≤ 500 ∧ ∀ x ∈ l, isKey x.id = true ∧ isKey x.prod = true ∧ 0 ≤ x.exp ∧ x.exp ≤ 4000 ∧ 0 ≤ x.many ∧ x.many ≤ 100000 := by
  unfold lotsErr at h
  split at h
  · omega
  · refine ⟨by omega, fun x hx => ?_⟩
    obtain ⟨j, hj⟩ := List.getElem?_of_mem hx
    have hlt := (List.getElem?_eq_some_iff.1 hj).1
    have he := firstE_zero h j (by omega) (by omega)
    unfold lotE at he
    rw [hj] at he
    simp only at he
    split at he
    · omega
    · rename_i h1
      split at he
      · omega
      · unfold lotErr at he
        split at he
        · omega
        · rename_i h3
          split at he
          · omega
          · exact ⟨by simpa using h1, by simpa using h3, by omega, by omega, by omega, by omega⟩

end Lg
end
section
set_option linter.all false
set_option maxRecDepth 100000
set_option maxHeartbeats 4000000
namespace Lg
open Go Go.Proofs

def freshP (p : ByteArray) (fr : Int) (x : Lot) : Int := if x.prod = p ∧ fr ≤ x.exp then x.many else 0
def freshI (l : List Lot) (p : ByteArray) (fr : Int) : Int := sumF (freshP p fr) l
def countI (l : List Lot) (p : ByteArray) : Int := sumF (fun x => if x.prod = p then x.many else 0) l
def countErr (l : List Lot) (p : ByteArray) : Int := if lotsErr l ≠ 0 then lotsErr l else if isKey p = false then 5 else 0
theorem countI_fresh {l : List Lot} {p : ByteArray} (h : ∀ x ∈ l, 0 ≤ x.exp) : freshI l p 0 = countI l p :=
  sumF_ext fun x hx => by
    unfold freshP
    by_cases hp : x.prod = p
    · rw [if_pos ⟨hp, h x hx⟩, if_pos hp]
    · rw [if_neg (fun h => hp h.1), if_neg hp]

theorem count_fn (l : List Lot) (hl : l.length ≤ 1000000) (p : ByteArray) : PFn Tryz.prog 40 [.lots l, .str p] (· = .tup [.int (if countErr l p ≠ 0 then 0 else countI l p), .int (countErr l p)]) := by
  have h1 := checkLots_fn l hl
  have h2 := key_fn p
  refine PFn.mk (Spec.body Tryz.func40 rfl rfl (Tryz.ntmps40) rfl fun w0 own0 M => ?_)
  by_cases h0 : lotsErr l ≠ 0
  · rw [show countErr l p = lotsErr l by unfold countErr; rw [if_pos h0], if_pos h0]
    repeat' (first | refine goH ?_ | refine goV ?_ | refine goB (fun b => ?_) | refine goI ?_ | (refine Cw.k_cond ?_; first | (refine Cw.cond_dec rfl (fun hc => ?_) (fun hc => ?_) <;> try (exfalso; omega)) | refine Cw.cond_bool rfl (fun hc => ?_) (fun hc => ?_)) | (refine Ops.k_calla ?_; first | (refine Ops.k_callf 51 ?_; refine Ops.callV h1 (Evs.cons rfl Evs.nil) rfl ?_)) | fail)
    refine Fin.ret (Ent.take goTk) (Outs.many rfl (OutL.cons goOe (OutL.cons goOe OutL.nil)) rfl) ⟨rfl, rfl⟩
  have he : lotsErr l = 0 := by omega
  rw [he] at h1
  by_cases hk : isKey p = false
  · rw [show countErr l p = 5 by unfold countErr; rw [if_neg h0, if_pos hk]]
    rw [hk] at h2
    repeat' (first | refine goH ?_ | refine goV ?_ | refine goB (fun b => ?_) | refine goI ?_ | (refine Cw.k_cond ?_; first | (refine Cw.cond_dec rfl (fun hc => ?_) (fun hc => ?_) <;> try (exfalso; omega)) | refine Cw.cond_bool rfl (fun hc => ?_) (fun hc => ?_)) | (refine Ops.k_calla ?_; first | (refine Ops.k_callf 51 ?_; refine Ops.callV h1 (Evs.cons rfl Evs.nil) rfl ?_) | (refine Ops.k_callf 25 ?_; refine Ops.callV h2 (Evs.cons rfl Evs.nil) rfl ?_)) | fail)
    refine Fin.ret (Ent.take goTk) (Outs.many rfl (OutL.cons goOe (OutL.cons goOe OutL.nil)) rfl) ⟨rfl, rfl⟩
  rw [show countErr l p = 0 by unfold countErr; rw [if_neg h0, if_neg hk], if_neg (by decide)]
  replace hk : isKey p = true := by simpa using hk
  rw [hk] at h2
  obtain ⟨_, hx⟩ := lotsErr_ok he
  have hL : (l.map Lot.row).length = l.length := List.length_map _
  repeat' (first | refine goH ?_ | refine goV ?_ | refine goB (fun b => ?_) | refine goI ?_ | (refine Cw.k_cond ?_; first | (refine Cw.cond_dec rfl (fun hc => ?_) (fun hc => ?_) <;> try (exfalso; omega)) | refine Cw.cond_bool rfl (fun hc => ?_) (fun hc => ?_)) | (refine Ops.k_calla ?_; first | (refine Ops.k_callf 51 ?_; refine Ops.callV h1 (Evs.cons rfl Evs.nil) rfl ?_) | (refine Ops.k_callf 25 ?_; refine Ops.callV h2 (Evs.cons rfl Evs.nil) rfl ?_)) | fail)
  refine Cw.loopI [(1, _), (18, _), (19, _)] _ (fun n e c => ∃ (k : Nat) (s : Int), n = l.length - k ∧ (k ≤ l.length ∧ s + countI (l.drop k) p = countI l p ∧ 0 ≤ s ∧ s ≤ 100000 * (k : Int)) ∧ e = [(7, .int s), (20, .int k)] ∧ c = []) ⟨_, _, _, (Ent.mkP goSub goPm), 0, 0, rfl, ⟨by omega, by simp, by omega, by omega⟩, rfl, rfl⟩ ?_
  rintro _ _ _ ⟨k, s, rfl, ⟨hk, hV, b1, b2⟩, rfl, rfl⟩
  by_cases hkl : k < l.length
  · obtain ⟨x, hx'⟩ := at_lt hkl
    have hrow : (l.map Lot.row)[k]? = some [.str x.id, .str x.prod, .int x.exp, .int x.many] := rows_at hx'
    obtain ⟨_, _, _, _, m1, m2⟩ := hx x (List.mem_of_getElem? hx')
    rw [drop_at hx', countI, sumF_cons, ← countI] at hV
    by_cases hp : x.prod = p
    · rw [if_pos hp] at hV
      repeat' (first | refine goH ?_ | refine goV ?_ | refine goB (fun b => ?_) | refine goI ?_ | (refine Cw.k_cond ?_; first | (refine Cw.cond_dec rfl (fun hc => ?_) (fun hc => ?_) <;> try (exfalso; omega)) | refine Cw.cond_bool rfl (fun hc => ?_) (fun hc => ?_)) | fail)
      exact ⟨_, _, _, (Ent.mk goSub goTk), ⟨k + 1, _, rfl, ⟨by omega, by omega, by omega, by omega⟩, rfl, rfl⟩, by omega⟩
    · rw [if_neg hp] at hV
      repeat' (first | refine goH ?_ | refine goV ?_ | refine goB (fun b => ?_) | refine goI ?_ | (refine Cw.k_cond ?_; first | (refine Cw.cond_dec rfl (fun hc => ?_) (fun hc => ?_) <;> try (exfalso; omega)) | refine Cw.cond_bool rfl (fun hc => ?_) (fun hc => ?_)) | fail)
      exact ⟨_, _, _, (Ent.mk goSub goTk), ⟨k + 1, _, rfl, ⟨by omega, by omega, by omega, by omega⟩, rfl, rfl⟩, by omega⟩
  · rw [List.drop_eq_nil_of_le (by omega), countI, sumF] at hV
    repeat' (first | refine goH ?_ | refine goV ?_ | refine goB (fun b => ?_) | refine goI ?_ | (refine Cw.k_cond ?_; first | (refine Cw.cond_dec rfl (fun hc => ?_) (fun hc => ?_) <;> try (exfalso; omega)) | refine Cw.cond_bool rfl (fun hc => ?_) (fun hc => ?_)) | fail)
    refine Fin.ret (Ent.take goTk) (Outs.many rfl (OutL.cons goOe (OutL.cons goOe OutL.nil)) rfl) ⟨rfl, ?_⟩
    rw [show s = countI l p by omega]

theorem stocks_fn : PFn Tryz.prog 15 [] (· = .bool true) := by
  have h := count_fn [⟨⟨#[97]⟩, ⟨#[99, 97, 110]⟩, 0, 3⟩] (by simp) ⟨#[99, 97, 110]⟩
  have e1 : lotsErr [⟨⟨#[97]⟩, ⟨#[99, 97, 110]⟩, 0, 3⟩] = 0 := by decide +kernel
  have e2 : isKey ⟨#[99, 97, 110]⟩ = true := by decide +kernel
  have e3 : countI [⟨⟨#[97]⟩, ⟨#[99, 97, 110]⟩, 0, 3⟩] ⟨#[99, 97, 110]⟩ = 3 := by simp [countI, sumF]
  rw [show countErr [⟨⟨#[97]⟩, ⟨#[99, 97, 110]⟩, 0, 3⟩] ⟨#[99, 97, 110]⟩ = 0 by unfold countErr; rw [e1, e2]; rfl, e3] at h
  refine PFn.mk (Spec.body Tryz.func15 rfl rfl (Tryz.ntmps15) rfl fun w0 own0 M => ?_)
  repeat' (first | refine goH ?_ | refine goV ?_ | refine goG ?_ | (refine Ops.k_guard ?_; first | (refine Ops.guard_dec rfl rfl (fun hc => ?_) (fun hc => ?_) <;> try (exfalso; omega)) | refine Ops.guard_split rfl rfl (fun hc => ?_) (fun hc => ?_)) | refine goI ?_ | (refine Cw.k_cond ?_; first | (refine Cw.cond_dec rfl (fun hc => ?_) (fun hc => ?_) <;> try (exfalso; omega)) | refine Cw.cond_bool rfl (fun hc => ?_) (fun hc => ?_)) | (refine Ops.k_calla ?_; first | (refine Ops.k_callf 40 ?_; refine Ops.callV h (Evs.cons rfl (Evs.cons rfl Evs.nil)) rfl ?_)) | fail)
  exact Fin.ret (Ent.take goTk) (Outs.one rfl rfl) ⟨rfl, rfl⟩
end Lg
end
section
set_option linter.all false
set_option maxRecDepth 100000
set_option maxHeartbeats 4000000
namespace Lg
open Go Go.Proofs

/-- a copy of its own -/
theorem clone_lot (rows : List (List Tr)) (hk : ∀ r ∈ rows, r.length = 4) (hl : rows.length ≤ 1000000) : PFnO Tryz.prog 33 [.sl 4 rows] 4 49 (· = rows) := by
  unfold PFnO
  refine Spec.body Tryz.func33 rfl rfl (Tryz.ntmps33) rfl fun w0 own0 M => ?_
  repeat' (first | refine goH ?_ | ((fail_if_success refine Ops.k_b_eql ?_); (fail_if_success refine Ops.k_buildSlice ?_); refine goV ?_) | ((fail_if_success refine Ops.k_b_eql ?_); (fail_if_success refine Ops.k_buildSlice ?_); refine goC (fun ad cap => ?_)) | refine goI ?_ | (refine Cw.k_cond ?_; first | (refine Cw.cond_dec rfl (fun hc => ?_) (fun hc => ?_) <;> try (exfalso; omega)) | refine Cw.cond_bool rfl (fun hc => ?_) (fun hc => ?_)) | fail)
  refine Ops.eql_nilS rfl rfl (fun b hb => ?_)
  cases b
  · repeat' (first | refine goH ?_ | ((fail_if_success refine Ops.k_buildSlice ?_); refine goV ?_) | ((fail_if_success refine Ops.k_buildSlice ?_); refine goC (fun ad cap => ?_)) | refine goI ?_ | (refine Cw.k_cond ?_; first | (refine Cw.cond_dec rfl (fun hc => ?_) (fun hc => ?_) <;> try (exfalso; omega)) | refine Cw.cond_bool rfl (fun hc => ?_) (fun hc => ?_)) | fail)
    refine Ops.buildSlice_own (by exact Parts.nil) rfl rfl rfl (fun ad cap => ?_)
    repeat' (first | refine goH ?_ | refine goV ?_ | refine goC (fun ad cap => ?_) | refine goI ?_ | (refine Cw.k_cond ?_; first | (refine Cw.cond_dec rfl (fun hc => ?_) (fun hc => ?_) <;> try (exfalso; omega)) | refine Cw.cond_bool rfl (fun hc => ?_) (fun hc => ?_)) | fail)
    exact Fin.ret (Ent.take goTk) (Outs.one rfl rfl) ⟨_, _, _, rfl, rfl, rfl⟩
  · have hr := hb rfl
    subst hr
    repeat' (first | refine goH ?_ | refine goV ?_ | refine goC (fun ad cap => ?_) | refine goI ?_ | (refine Cw.k_cond ?_; first | (refine Cw.cond_dec rfl (fun hc => ?_) (fun hc => ?_) <;> try (exfalso; omega)) | refine Cw.cond_bool rfl (fun hc => ?_) (fun hc => ?_)) | fail)
    exact Fin.ret (Ent.trans (Ent.nil 4 49) (Ent.take goTk)) (Outs.one rfl rfl) ⟨none, 0, [], rfl, rfl, rfl⟩

theorem lot_eq0 (n : Nat) (p q : ByteArray) (r s : Int) (w : World) : (Op.equalIn (n + 1 + 1) 49 (.agg #[.string p, .string q, .int .i64 r, .int .i64 s]) (.agg #[.string p, .string q, .int .i64 r, .int .i64 s])).run Tryz.prog w = .ok true w := by
  have hs : Tryz.prog.stoodInHeld 49 = false := by kernel_rfl
  simp [Op.equalIn, run_underlying Tryz.underlying49, run_underlying Tryz.underlying9, run_underlying Tryz.underlying3, ba_self, hs, part, Go.sizeOf, typeInfo]
theorem lot_eq1 (p q : ByteArray) (r s : Int) (w : World) : (binOp .eql 49 (.agg #[.string p, .string q, .int .i64 r, .int .i64 s]) (.agg #[.string p, .string q, .int .i64 r, .int .i64 s])).run Tryz.prog w = .ok (.bool true) w := by
  show (do let r ← Op.equalIn (9998 + 1 + 1) 49 _ _; pure (Value.bool r) : Sem Value).run Tryz.prog w = _
  have := lot_eq0 9998 p q r s w
  generalize Op.equalIn (9998 + 1 + 1) 49 (.agg #[.string p, .string q, .int .i64 r, .int .i64 s]) (.agg #[.string p, .string q, .int .i64 r, .int .i64 s]) = s at *
  simp [this]
theorem lot_ne1 (p q : ByteArray) (r s : Int) (w : World) : (binOp .neq 49 (.agg #[.string p, .string q, .int .i64 r, .int .i64 s]) (.agg #[.string p, .string q, .int .i64 r, .int .i64 s])).run Tryz.prog w = .ok (.bool false) w := by
  show (do let r ← Op.equalIn (9998 + 1 + 1) 49 _ _; pure (Value.bool !r) : Sem Value).run Tryz.prog w = _
  have := lot_eq0 9998 p q r s w
  generalize Op.equalIn (9998 + 1 + 1) 49 (.agg #[.string p, .string q, .int .i64 r, .int .i64 s]) (.agg #[.string p, .string q, .int .i64 r, .int .i64 s]) = s at *
  simp [this]
section
variable {Γ : Ctx} {env : Env} {cs : List Chunk} {x y : Operand} {T2 ty : TypeId}
theorem OpV.lot_t {p q : ByteArray} {r s : Int} (hx : ev env x = some (.agg ([.string p, .string q, .int .i64 r, .int .i64 s].map Tr.raw))) (hy : ev env y = some (.agg ([.string p, .string q, .int .i64 r, .int .i64 s].map Tr.raw))) : OpV Tryz.prog Γ (.binOp .eql 49 x y T2) ty env cs (.bool true) := by
  unfold OpV
  intro ac w d
  have h1 := agg_raw (l := [.string p, .string q, .int .i64 r, .int .i64 s]) (d.ev hx)
  have h2 := agg_raw (l := [.string p, .string q, .int .i64 r, .int .i64 s]) (d.ev hy)
  have h3 := lot_eq1 p q r s w
  have h4 : (eqGuard .eql 49 x y (.agg #[.string p, .string q, .int .i64 r, .int .i64 s]) (.agg #[.string p, .string q, .int .i64 r, .int .i64 s])).run Tryz.prog w = .ok () w := by simp [eqGuard]
  exact ⟨.bool true, by simp [execOp, h1, h2, h3, h4], by unfold Tr.bool Tr.raw; rfl⟩
theorem OpV.lot_ne_f {p q : ByteArray} {r s : Int} (hx : ev env x = some (.agg ([.string p, .string q, .int .i64 r, .int .i64 s].map Tr.raw))) (hy : ev env y = some (.agg ([.string p, .string q, .int .i64 r, .int .i64 s].map Tr.raw))) : OpV Tryz.prog Γ (.binOp .neq 49 x y T2) ty env cs (.bool false) := by
  unfold OpV
  intro ac w d
  have h1 := agg_raw (l := [.string p, .string q, .int .i64 r, .int .i64 s]) (d.ev hx)
  have h2 := agg_raw (l := [.string p, .string q, .int .i64 r, .int .i64 s]) (d.ev hy)
  have h3 := lot_ne1 p q r s w
  have h4 : (eqGuard .neq 49 x y (.agg #[.string p, .string q, .int .i64 r, .int .i64 s]) (.agg #[.string p, .string q, .int .i64 r, .int .i64 s])).run Tryz.prog w = .ok () w := by simp [eqGuard]
  exact ⟨.bool false, by simp [execOp, h1, h2, h3, h4], by unfold Tr.bool Tr.raw; rfl⟩
end
theorem equal_lot (xs : List Lot) (h : xs.length ≤ 1000000000) : PFn Tryz.prog 18 [.sl 4 (xs.map Lot.row), .sl 4 (xs.map Lot.row)] (· = .bool true) := by
  refine PFn.mk (Spec.body Tryz.func18 rfl rfl (Tryz.ntmps18) rfl fun w0 own0 M => ?_)
  have hL : (xs.map Lot.row).length = xs.length := List.length_map _
  repeat' (first | refine goH ?_ | refine goV ?_ | refine goI ?_ | (refine Cw.k_cond ?_; first | (refine Cw.cond_dec rfl (fun hc => ?_) (fun hc => ?_) <;> try (exfalso; omega)) | refine Cw.cond_bool rfl (fun hc => ?_) (fun hc => ?_)) | refine goR ?_ | refine goP ?_ | apply PSeq.cons | apply PSeq.yes rfl rfl rfl | exact goW | fail)
  refine Cw.loop (ι := Nat) (fun k => k ≤ xs.length) (fun k => [(0, .sl 4 (xs.map Lot.row)), (1, .sl 4 (xs.map Lot.row)), (11, .sl 4 (xs.map Lot.row)), (12, .int (xs.map Lot.row).length), (13, .int k)]) (fun _ => []) (fun k => xs.length - k) ⟨0, by omega, (Ent.mk goSub goTk)⟩ ?_
  intro k hk
  by_cases hkl : k < xs.length
  · obtain ⟨d, hd⟩ : ∃ x, xs[k]? = some x := ⟨_, List.getElem?_eq_getElem hkl⟩
    have hrow : (xs.map Lot.row)[k]? = some [.str d.id, .str d.prod, .int d.exp, .int d.many] := rows_at hd
    repeat' (first | refine goH ?_ | refine goV ?_ | refine goI ?_ | (refine Cw.k_cond ?_; first | (refine Cw.cond_dec rfl (fun hc => ?_) (fun hc => ?_) <;> try (exfalso; omega)) | refine Cw.cond_bool rfl (fun hc => ?_) (fun hc => ?_)) | (apply OpV.w; apply OpV.lot_ne_f; exact rfl; exact rfl) | refine goR ?_ | refine goP ?_ | apply PSeq.cons | apply PSeq.yes rfl rfl rfl | exact goW | fail)
    exact ⟨k + 1, by omega, by omega, (Ent.mk goSub goTk)⟩
  · repeat' (first | refine goH ?_ | refine goV ?_ | refine goI ?_ | (refine Cw.k_cond ?_; first | (refine Cw.cond_dec rfl (fun hc => ?_) (fun hc => ?_) <;> try (exfalso; omega)) | refine Cw.cond_bool rfl (fun hc => ?_) (fun hc => ?_)) | refine goR ?_ | refine goP ?_ | apply PSeq.cons | apply PSeq.yes rfl rfl rfl | exact goW | fail)
    exact Fin.ret Ent.refl (Outs.one rfl rfl) ⟨rfl, rfl⟩

theorem piece_eq0 (n : Nat) (a : ByteArray) (b : Int) (w : World) : (Op.equalIn (n + 1 + 1) 90 (.agg #[.string a, .int .i64 b]) (.agg #[.string a, .int .i64 b])).run Tryz.prog w = .ok true w := by
  have hs : Tryz.prog.stoodInHeld 90 = false := by kernel_rfl
  simp [Op.equalIn, run_underlying Tryz.underlying90, run_underlying Tryz.underlying9, run_underlying Tryz.underlying3, ba_self, hs, part, Go.sizeOf, typeInfo]
theorem piece_eq1 (a : ByteArray) (b : Int) (w : World) : (binOp .eql 90 (.agg #[.string a, .int .i64 b]) (.agg #[.string a, .int .i64 b])).run Tryz.prog w = .ok (.bool true) w := by
  show (do let r ← Op.equalIn (9998 + 1 + 1) 90 _ _; pure (Value.bool r) : Sem Value).run Tryz.prog w = _
  have := piece_eq0 9998 a b w
  generalize Op.equalIn (9998 + 1 + 1) 90 (.agg #[.string a, .int .i64 b]) (.agg #[.string a, .int .i64 b]) = s at *
  simp [this]
theorem piece_ne1 (a : ByteArray) (b : Int) (w : World) : (binOp .neq 90 (.agg #[.string a, .int .i64 b]) (.agg #[.string a, .int .i64 b])).run Tryz.prog w = .ok (.bool false) w := by
  show (do let r ← Op.equalIn (9998 + 1 + 1) 90 _ _; pure (Value.bool !r) : Sem Value).run Tryz.prog w = _
  have := piece_eq0 9998 a b w
  generalize Op.equalIn (9998 + 1 + 1) 90 (.agg #[.string a, .int .i64 b]) (.agg #[.string a, .int .i64 b]) = s at *
  simp [this]
section
variable {Γ : Ctx} {env : Env} {cs : List Chunk} {x y : Operand} {T2 ty : TypeId}
theorem OpV.piece_t {a : ByteArray} {b : Int} (hx : ev env x = some (.agg ([.string a, .int .i64 b].map Tr.raw))) (hy : ev env y = some (.agg ([.string a, .int .i64 b].map Tr.raw))) : OpV Tryz.prog Γ (.binOp .eql 90 x y T2) ty env cs (.bool true) := by
  unfold OpV
  intro ac w d
  have h1 := agg_raw (l := [.string a, .int .i64 b]) (d.ev hx)
  have h2 := agg_raw (l := [.string a, .int .i64 b]) (d.ev hy)
  have h3 := piece_eq1 a b w
  have h4 : (eqGuard .eql 90 x y (.agg #[.string a, .int .i64 b]) (.agg #[.string a, .int .i64 b])).run Tryz.prog w = .ok () w := by simp [eqGuard]
  exact ⟨.bool true, by simp [execOp, h1, h2, h3, h4], by unfold Tr.bool Tr.raw; rfl⟩
theorem OpV.piece_ne_f {a : ByteArray} {b : Int} (hx : ev env x = some (.agg ([.string a, .int .i64 b].map Tr.raw))) (hy : ev env y = some (.agg ([.string a, .int .i64 b].map Tr.raw))) : OpV Tryz.prog Γ (.binOp .neq 90 x y T2) ty env cs (.bool false) := by
  unfold OpV
  intro ac w d
  have h1 := agg_raw (l := [.string a, .int .i64 b]) (d.ev hx)
  have h2 := agg_raw (l := [.string a, .int .i64 b]) (d.ev hy)
  have h3 := piece_ne1 a b w
  have h4 : (eqGuard .neq 90 x y (.agg #[.string a, .int .i64 b]) (.agg #[.string a, .int .i64 b])).run Tryz.prog w = .ok () w := by simp [eqGuard]
  exact ⟨.bool false, by simp [execOp, h1, h2, h3, h4], by unfold Tr.bool Tr.raw; rfl⟩
end
theorem equal_piece (xs : List Piece) (h : xs.length ≤ 1000000000) : PFn Tryz.prog 46 [.sl 2 (xs.map Piece.row), .sl 2 (xs.map Piece.row)] (· = .bool true) := by
  refine PFn.mk (Spec.body Tryz.func46 rfl rfl (Tryz.ntmps46) rfl fun w0 own0 M => ?_)
  have hL : (xs.map Piece.row).length = xs.length := List.length_map _
  repeat' (first | refine goH ?_ | refine goV ?_ | refine goI ?_ | (refine Cw.k_cond ?_; first | (refine Cw.cond_dec rfl (fun hc => ?_) (fun hc => ?_) <;> try (exfalso; omega)) | refine Cw.cond_bool rfl (fun hc => ?_) (fun hc => ?_)) | refine goR ?_ | refine goP ?_ | apply PSeq.cons | apply PSeq.yes rfl rfl rfl | exact goW | fail)
  refine Cw.loop (ι := Nat) (fun k => k ≤ xs.length) (fun k => [(0, .sl 2 (xs.map Piece.row)), (1, .sl 2 (xs.map Piece.row)), (11, .sl 2 (xs.map Piece.row)), (12, .int (xs.map Piece.row).length), (13, .int k)]) (fun _ => []) (fun k => xs.length - k) ⟨0, by omega, (Ent.mk goSub goTk)⟩ ?_
  intro k hk
  by_cases hkl : k < xs.length
  · obtain ⟨d, hd⟩ : ∃ x, xs[k]? = some x := ⟨_, List.getElem?_eq_getElem hkl⟩
    have hrow : (xs.map Piece.row)[k]? = some [.str d.lot, .int d.many] := rows_at hd
    repeat' (first | refine goH ?_ | refine goV ?_ | refine goI ?_ | (refine Cw.k_cond ?_; first | (refine Cw.cond_dec rfl (fun hc => ?_) (fun hc => ?_) <;> try (exfalso; omega)) | refine Cw.cond_bool rfl (fun hc => ?_) (fun hc => ?_)) | (apply OpV.w; apply OpV.piece_ne_f; exact rfl; exact rfl) | refine goR ?_ | refine goP ?_ | apply PSeq.cons | apply PSeq.yes rfl rfl rfl | exact goW | fail)
    exact ⟨k + 1, by omega, by omega, (Ent.mk goSub goTk)⟩
  · repeat' (first | refine goH ?_ | refine goV ?_ | refine goI ?_ | (refine Cw.k_cond ?_; first | (refine Cw.cond_dec rfl (fun hc => ?_) (fun hc => ?_) <;> try (exfalso; omega)) | refine Cw.cond_bool rfl (fun hc => ?_) (fun hc => ?_)) | refine goR ?_ | refine goP ?_ | apply PSeq.cons | apply PSeq.yes rfl rfl rfl | exact goW | fail)
    exact Fin.ret Ent.refl (Outs.one rfl rfl) ⟨rfl, rfl⟩

end Lg
end
