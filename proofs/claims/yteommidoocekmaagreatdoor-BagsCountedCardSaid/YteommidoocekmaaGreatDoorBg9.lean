/- A part of the proof of a law of this seat: it adds no condition. By an AI agent. -/
import Derived.ChangeKeysEq
import Derived.KernelRfl
import Derived.Test.YteommidoocekmaaGreatDoorFrame
import Derived.Test.YteommidoocekmaaGreatDoorBg8
import Derived.Test.YteommidoocekmaaGreatDoorFracNe
section
set_option linter.all false
namespace Lg
open Go Go.Proofs

theorem Ops.shut0 {P : Program} {Γ : Ctx} {env : Env} {cs : List Chunk} {Q : Post} {R : Array Oper} {l : List Oper} {ty b : Nat} {cells : List Tr} {rows : List (List Tr)} (h : cells = [Tr.sl 1 rows, Tr.int ((0 : Nat) : Int)]) (k : Ops P Γ R l env (Chunk.strm ty b rows 0 :: cs) Q) : Ops P Γ R l env (Chunk.box b ty cells :: cs) Q := by
  subst h
  exact Ops.ent (Ent.shut_strm (m := 0) (Nat.le_refl 0)) k
end Lg
end
section
set_option linter.all false
set_option maxRecDepth 100000
set_option maxHeartbeats 8000000
namespace Lg
open Go Go.Proofs

theorem nm_eq0 (n : Nat) (a : ByteArray) (b : Int) (w : World) : (Op.equalIn (n + 1 + 1) 51 (.agg #[.string a, .int .i64 b]) (.agg #[.string a, .int .i64 b])).run Tryz.prog w = .ok true w := by
  have hs : Tryz.prog.stoodInHeld 51 = false := by kernel_rfl
  simp [Op.equalIn, run_underlying Tryz.underlying51, run_underlying Tryz.underlying9, run_underlying Tryz.underlying3, ba_self, hs, part, Go.sizeOf, typeInfo]
theorem nm_ne1 (a : ByteArray) (b : Int) (w : World) : (binOp .neq 51 (.agg #[.string a, .int .i64 b]) (.agg #[.string a, .int .i64 b])).run Tryz.prog w = .ok (.bool false) w := by
  show (do let r ← Op.equalIn (9998 + 1 + 1) 51 _ _; pure (Value.bool !r) : Sem Value).run Tryz.prog w = _
  have := nm_eq0 9998 a b w
  generalize Op.equalIn (9998 + 1 + 1) 51 (.agg #[.string a, .int .i64 b]) (.agg #[.string a, .int .i64 b]) = s at *
  simp [this]
section
variable {Γ : Ctx} {env : Env} {cs : List Chunk} {x y : Operand} {T2 ty : TypeId}
theorem OpV.nm_ne_f {a : ByteArray} {b : Int} (hx : ev env x = some (.agg ([.string a, .int .i64 b].map Tr.raw))) (hy : ev env y = some (.agg ([.string a, .int .i64 b].map Tr.raw))) : OpV Tryz.prog Γ (.binOp .neq 51 x y T2) ty env cs (.bool false) := by
  unfold OpV
  intro ac w d
  have h1 := agg_raw (l := [.string a, .int .i64 b]) (d.ev hx)
  have h2 := agg_raw (l := [.string a, .int .i64 b]) (d.ev hy)
  have h3 := nm_ne1 a b w
  have h4 : (eqGuard .neq 51 x y (.agg #[.string a, .int .i64 b]) (.agg #[.string a, .int .i64 b])).run Tryz.prog w = .ok () w := by simp [eqGuard]
  exact ⟨.bool false, by simp [execOp, h1, h2, h3, h4], by unfold Tr.bool Tr.raw; rfl⟩
end
theorem equal_nm (xs : List Nm) (h : xs.length ≤ 1000000000) : PFn Tryz.prog 19 [.sl 2 (xs.map Nm.row), .sl 2 (xs.map Nm.row)] (· = .bool true) := by
  refine PFn.mk (Spec.body Tryz.func19 rfl rfl (Tryz.ntmps19) rfl fun w0 own0 M => ?_)
  have hL : (xs.map Nm.row).length = xs.length := List.length_map _
  repeat' (first | refine goH ?_ | refine goV ?_ | refine goI ?_ | (refine Cw.k_cond ?_; first | (refine Cw.cond_dec rfl (fun hc => ?_) (fun hc => ?_) <;> try (exfalso; omega)) | refine Cw.cond_bool rfl (fun hc => ?_) (fun hc => ?_)) | refine goR ?_ | refine goP ?_ | apply PSeq.cons | apply PSeq.yes rfl rfl rfl | exact goW | fail)
  refine Cw.loop (ι := Nat) (fun k => k ≤ xs.length) (fun k => [(0, .sl 2 (xs.map Nm.row)), (1, .sl 2 (xs.map Nm.row)), (11, .sl 2 (xs.map Nm.row)), (12, .int (xs.map Nm.row).length), (13, .int k)]) (fun _ => []) (fun k => xs.length - k) ⟨0, by omega, (Ent.mk goSub goTk)⟩ ?_
  intro k hk
  by_cases hkl : k < xs.length
  · obtain ⟨d, hd⟩ : ∃ x, xs[k]? = some x := ⟨_, List.getElem?_eq_getElem hkl⟩
    have hrow : (xs.map Nm.row)[k]? = some [.str d.key, .int d.many] := rows_at hd
    repeat' (first | refine goH ?_ | refine goV ?_ | refine goI ?_ | (refine Cw.k_cond ?_; first | (refine Cw.cond_dec rfl (fun hc => ?_) (fun hc => ?_) <;> try (exfalso; omega)) | refine Cw.cond_bool rfl (fun hc => ?_) (fun hc => ?_)) | (apply OpV.w; apply OpV.nm_ne_f; exact rfl; exact rfl) | refine goR ?_ | refine goP ?_ | apply PSeq.cons | apply PSeq.yes rfl rfl rfl | exact goW | fail)
    exact ⟨k + 1, by omega, by omega, (Ent.mk goSub goTk)⟩
  · repeat' (first | refine goH ?_ | refine goV ?_ | refine goI ?_ | (refine Cw.k_cond ?_; first | (refine Cw.cond_dec rfl (fun hc => ?_) (fun hc => ?_) <;> try (exfalso; omega)) | refine Cw.cond_bool rfl (fun hc => ?_) (fun hc => ?_)) | refine goR ?_ | refine goP ?_ | apply PSeq.cons | apply PSeq.yes rfl rfl rfl | exact goW | fail)
    exact Fin.ret Ent.refl (Outs.one rfl rfl) ⟨rfl, rfl⟩

theorem suspects_bad (l : List Bag) (hl : l.length ≤ 1000000) (least : Int) (h : bagsE l ≠ 0) : PFn Tryz.prog 14 [.bags l, .int least] (· = .tup [.nms [], .int (bagsE l)]) := by
  have k1 := checkBags_fn l hl
  generalize bagsE l = E at *
  refine PFn.mk (Spec.body Tryz.func14 rfl rfl (Tryz.ntmps14) rfl fun w0 own0 M => ?_)
  repeat' (first | refine goH ?_ | refine goV ?_ | refine goB (fun b => ?_) | refine goC (fun ad cap => ?_) | refine goG ?_ | (refine Ops.k_guard ?_; first | (refine Ops.guard_dec rfl rfl (fun hc => ?_) (fun hc => ?_) <;> try (exfalso; omega)) | refine Ops.guard_split rfl rfl (fun hc => ?_) (fun hc => ?_)) | refine goI ?_ | (refine Cw.k_cond ?_; first | (refine Cw.cond_dec rfl (fun hc => ?_) (fun hc => ?_) <;> try (exfalso; omega)) | refine Cw.cond_bool rfl (fun hc => ?_) (fun hc => ?_)) | (refine Ops.k_calla ?_; first | (refine Ops.k_callf 11 ?_; refine Ops.callV k1 (Evs.cons rfl Evs.nil) rfl ?_)) | (apply OpW.k_call; first | (apply OpW.k_callf 11; exact OpW.callV k1 (Evs.cons rfl Evs.nil))) | refine goR ?_ | refine goP ?_ | apply PSeq.cons | apply PSeq.yes rfl rfl rfl | exact goW | fail)
  refine Fin.ret (Ent.trans (Ent.nilsl 2 (s := 4) rfl) (Ent.take goTk)) (Outs.many rfl (OutL.cons goOe (OutL.cons goOe OutL.nil)) rfl) ⟨rfl, rfl⟩
theorem suspects_arg (l : List Bag) (hl : l.length ≤ 1000000) (least : Int) (h : bagsE l = 0) (ha : least < 1 ∨ 1000000 < least) : PFn Tryz.prog 14 [.bags l, .int least] (· = .tup [.nms [], .int 1]) := by
  have k1 := checkBags_fn l hl
  rw [h] at k1
  have k2 := out_fn least 1 1000000
  rw [show outB least 1 1000000 = true by simp [outB]; omega] at k2
  refine PFn.mk (Spec.body Tryz.func14 rfl rfl (Tryz.ntmps14) rfl fun w0 own0 M => ?_)
  repeat' (first | refine goH ?_ | refine goV ?_ | refine goB (fun b => ?_) | refine goC (fun ad cap => ?_) | refine goG ?_ | (refine Ops.k_guard ?_; first | (refine Ops.guard_dec rfl rfl (fun hc => ?_) (fun hc => ?_) <;> try (exfalso; omega)) | refine Ops.guard_split rfl rfl (fun hc => ?_) (fun hc => ?_)) | refine goI ?_ | (refine Cw.k_cond ?_; first | (refine Cw.cond_dec rfl (fun hc => ?_) (fun hc => ?_) <;> try (exfalso; omega)) | refine Cw.cond_bool rfl (fun hc => ?_) (fun hc => ?_)) | (refine Ops.k_calla ?_; first | (refine Ops.k_callf 11 ?_; refine Ops.callV k1 (Evs.cons rfl Evs.nil) rfl ?_) | (refine Ops.k_callf 24 ?_; refine Ops.callV k2 (Evs.cons rfl (Evs.cons rfl (Evs.cons rfl Evs.nil))) rfl ?_)) | (apply OpW.k_call; first | (apply OpW.k_callf 11; exact OpW.callV k1 (Evs.cons rfl Evs.nil)) | (apply OpW.k_callf 24; exact OpW.callV k2 (Evs.cons rfl (Evs.cons rfl (Evs.cons rfl Evs.nil))))) | refine goR ?_ | refine goP ?_ | apply PSeq.cons | apply PSeq.yes rfl rfl rfl | exact goW | fail)
  refine Fin.ret (Ent.trans (Ent.nilsl 2 (s := 4) rfl) (Ent.take goTk)) (Outs.many rfl (OutL.cons goOe (OutL.cons goOe OutL.nil)) rfl) ⟨rfl, rfl⟩
theorem chT_two (n k : Int) : ∃ a b e : Int, chT n k = .tup [.agg [.int a, .int b], .int e] := by
  unfold chT
  split
  · exact ⟨_, _, _, rfl⟩
  · exact ⟨_, _, _, rfl⟩
theorem key_who {w : ByteArray} (h : w ∈ ([⟨#[97, 110, 110]⟩, ⟨#[98, 111]⟩, ⟨#[100, 101, 101]⟩, ⟨#[65]⟩] : List ByteArray)) : (w = ⟨#[65]⟩ ∧ isKey w = false) ∨ (w ≠ ⟨#[65]⟩ ∧ isKey w = true) := by
  simp only [List.mem_cons, List.mem_nil_iff, or_false] at h
  rcases h with rfl | rfl | rfl | rfl
  · exact .inr ⟨by decide, by decide +kernel⟩
  · exact .inr ⟨by decide, by decide +kernel⟩
  · exact .inr ⟨by decide, by decide +kernel⟩
  · exact .inl ⟨rfl, by decide +kernel⟩
attribute [local irreducible] chT drT bagsE intRows susB
theorem bagsCounted_law (xs : List Int) : Spec Tryz.prog 3 [Tr.ints xs] [] (fun r _ => r = Tr.bool true) := by
  refine Spec.body Tryz.func3 rfl rfl (Tryz.ntmps3) rfl fun w0 own0 M => ?_
  repeat' (first | refine goH ?_ | ((fail_if_success refine Ops.k_c_call ?_); refine goV ?_) | ((fail_if_success refine Ops.k_c_call ?_); refine goB (fun b => ?_)) | refine goG ?_ | (refine Ops.k_guard ?_; first | (refine Ops.guard_dec rfl rfl (fun hc => ?_) (fun hc => ?_) <;> try (exfalso; omega)) | refine Ops.guard_split rfl rfl (fun hc => ?_) (fun hc => ?_)) | refine goI ?_ | (refine Cw.k_cond ?_; first | (refine Cw.cond_dec rfl (fun hc => ?_) (fun hc => ?_) <;> try (exfalso; omega)) | refine Cw.cond_bool rfl (fun hc => ?_) (fun hc => ?_)) | refine Ops.shut0 (ty := 25) rfl ?_ | (refine Ops.k_calla ?_; first | (refine Ops.k_callf 4 ?_; (refine Ops.callG bags_gen (Evs.cons rfl Evs.nil) goPk (by omega) rfl ?_; rintro r ⟨x, rfl, hxl⟩)) | (refine Ops.k_callf 5 ?_; (refine Ops.callG (oneU_gen (by repeat' (first | exact IsStrs.nil | apply IsStrs.cons)) (by simp)) (Evs.cons rfl (Evs.cons rfl Evs.nil)) goPk (by omega) rfl ?_; rintro r ⟨who, rfl, hw⟩)) | (refine Ops.k_callf 6 ?_; (refine Ops.callG (pick_gen (by repeat' (first | exact IsInts.nil | apply IsInts.cons)) (by simp)) (Evs.cons rfl (Evs.cons rfl Evs.nil)) goPk (by omega) rfl ?_; rintro r ⟨n, rfl, hn⟩; simp only [List.mem_cons, List.mem_nil_iff, or_false] at hn)) | (refine Ops.k_callf 7 ?_; (refine Ops.callG (range_gen _ _ (by omega)) (Evs.cons rfl (Evs.cons rfl (Evs.cons rfl Evs.nil))) goPk (by omega) rfl ?_; rintro r ⟨k, rfl, hk⟩; clear hk))) | fail)
  rename_i least hle
  have c1 := chance_fn n k
  have c2 := chanceOf_fn n k
  obtain ⟨fa, fb, fe, hch⟩ := chT_two n k
  rw [hch] at c1 c2
  have k1 := bagsFault_fn x (by omega)
  have k2 := checkBags_fn x (by omega)
  have k3 := off_ok_fn x (by omega)
  have k4 := drift_fn x (by omega) who
  clear hch hle hn
  by_cases hE : bagsE x ≠ 0
  · have k5 := suspects_bad x (by omega) least hE
    rw [show drT x who = .tup [.int 0, .int 0, .int (bagsE x)] by unfold drT; rw [if_pos hE]] at k4
    rw [if_pos hE] at k3
    generalize bagsE x = E at *
    repeat' (first | refine goH ?_ | (refine Ops.k_b_neq ?_; first | (first | refine Ops.val' rfl (OpV.frac_ne_f rfl rfl) ?_ | refine Ops.val' rfl (OpV.neq_f rfl rfl rfl) ?_ | refine Ops.val' rfl (OpV.neq_t rfl rfl (by omega)) ?_)) | (refine Ops.k_b_eql ?_; first | (refine Ops.val' rfl (OpV.eql_t rfl rfl rfl) ?_)) | refine goV ?_ | refine goB (fun b => ?_) | refine goG ?_ | (refine Ops.k_guard ?_; first | (refine Ops.guard_dec rfl rfl (fun hc => ?_) (fun hc => ?_) <;> try (exfalso; omega)) | refine Ops.guard_split rfl rfl (fun hc => ?_) (fun hc => ?_)) | refine goI ?_ | (refine Cw.k_cond ?_; first | (refine Cw.cond_dec rfl (fun hc => ?_) (fun hc => ?_) <;> try (exfalso; omega)) | refine Cw.cond_bool rfl (fun hc => ?_) (fun hc => ?_)) | (refine Ops.k_calla ?_; first | (refine Ops.k_callf 8 ?_; refine Ops.callV c1 (Evs.cons rfl (Evs.cons rfl Evs.nil)) rfl ?_) | (refine Ops.k_callf 9 ?_; refine Ops.callV c2 (Evs.cons rfl (Evs.cons rfl Evs.nil)) rfl ?_) | (refine Ops.k_callf 10 ?_; refine Ops.callV k1 (Evs.cons rfl Evs.nil) rfl ?_) | (refine Ops.k_callf 11 ?_; refine Ops.callV k2 (Evs.cons rfl Evs.nil) rfl ?_) | (refine Ops.k_callf 12 ?_; refine Ops.callV k3 (Evs.cons rfl Evs.nil) rfl ?_) | (refine Ops.k_callf 13 ?_; refine Ops.callV k4 (Evs.cons rfl (Evs.cons rfl Evs.nil)) rfl ?_) | (refine Ops.k_callf 14 ?_; refine Ops.callV k5 (Evs.cons rfl (Evs.cons rfl Evs.nil)) rfl ?_) | (refine Ops.k_callf 15 ?_; refine Ops.callV tills_fn Evs.nil rfl ?_)) | fail)
    all_goals exact Fin.ret Ent.refl (Outs.one rfl rfl) rfl
  have hE0 : bagsE x = 0 := by omega
  have hb := bgB hE0
  have hnl : (offL x).length ≤ 1000000 := by rw [List.length_map]; omega
  rw [if_neg hE] at k3
  have kO := offOf_fn x hb
  have kE := equalInts_fn (offL x) (offL x) hnl hnl
  rw [decide_eq_true rfl] at kE
  rw [hE0] at k1 k2 k3
  have hS : ∃ (Z : List Nm) (e : Int), PFn Tryz.prog 14 [.bags x, .int least] (· = .tup [.nms Z, .int e]) ∧ ((1 ≤ least ∧ least ≤ 1000000) → e = 0 ∧ Z.length ≤ 500 ∧ PFn Tryz.prog 20 [.bags x, .int least] (· = .nms Z)) ∧ (¬ (1 ≤ least ∧ least ≤ 1000000) → e = 1) := by
    by_cases h : 1 ≤ least ∧ least ≤ 1000000
    · obtain ⟨Z, z1, z2, z3, z4⟩ := suspectsOf_fn x hb least h.1 h.2
      exact ⟨Z, 0, suspects_ok x hE0 least h.1 h.2 Z z1 z2, fun _ => ⟨rfl, z3, z4⟩, fun h2 => absurd h h2⟩
    · exact ⟨[], 1, suspects_arg x (by omega) least hE0 (by omega), fun h2 => absurd h2 h, fun _ => rfl⟩
  obtain ⟨Z, se, k5, hs1, hs2⟩ := hS
  have hD : ∃ (p q r : Int), drT x who = .tup [.int p, .int q, .int r] ∧ ((who = ⟨#[65]⟩ ∧ r = 5) ∨ (who ≠ ⟨#[65]⟩ ∧ r = 0 ∧ PFn Tryz.prog 18 [.bags x, .str who] (· = .tup [.int p, .int q]))) := by
    rcases key_who hw with ⟨h1, h2⟩ | ⟨h1, h2⟩
    · exact ⟨0, 0, 5, by unfold drT; rw [if_neg hE, if_pos h2], .inl ⟨h1, rfl⟩⟩
    · exact ⟨_, _, 0, by unfold drT; rw [if_neg hE, if_neg (by simp [h2])], .inr ⟨h1, rfl, driftOf_fn x hb who⟩⟩
  obtain ⟨p, q, r, hd, hD⟩ := hD
  rw [hd] at k4
  clear hd hE hE0 hb hw
  generalize offL x = ol at *
  rcases hD with ⟨rfl, rfl⟩ | ⟨hA, rfl, k6⟩
  · by_cases hl : 1 ≤ least ∧ least ≤ 1000000
    · obtain ⟨rfl, z3, k7⟩ := hs1 hl
      have k8 := equal_nm Z (by omega)
      clear hs1 hs2
      repeat' (first | refine goH ?_ | (refine Ops.k_b_neq ?_; first | (first | refine Ops.val' rfl (OpV.frac_ne_f rfl rfl) ?_ | refine Ops.val' rfl (OpV.neq_f rfl rfl rfl) ?_ | refine Ops.val' rfl (OpV.neq_t rfl rfl (by omega)) ?_)) | (refine Ops.k_b_eql ?_; first | (first | refine Ops.val' rfl (OpV.eql_t rfl rfl rfl) ?_ | refine Ops.val' rfl (OpV.eqlS_t rfl rfl rfl) ?_)) | refine goV ?_ | refine goB (fun b => ?_) | refine goG ?_ | (refine Ops.k_guard ?_; first | (refine Ops.guard_dec rfl rfl (fun hc => ?_) (fun hc => ?_) <;> try (exfalso; omega)) | refine Ops.guard_split rfl rfl (fun hc => ?_) (fun hc => ?_)) | refine goI ?_ | (refine Cw.k_cond ?_; first | (refine Cw.cond_dec rfl (fun hc => ?_) (fun hc => ?_) <;> try (exfalso; omega)) | refine Cw.cond_bool rfl (fun hc => ?_) (fun hc => ?_)) | (refine Ops.k_calla ?_; first | (refine Ops.k_callf 8 ?_; refine Ops.callV c1 (Evs.cons rfl (Evs.cons rfl Evs.nil)) rfl ?_) | (refine Ops.k_callf 9 ?_; refine Ops.callV c2 (Evs.cons rfl (Evs.cons rfl Evs.nil)) rfl ?_) | (refine Ops.k_callf 10 ?_; refine Ops.callV k1 (Evs.cons rfl Evs.nil) rfl ?_) | (refine Ops.k_callf 11 ?_; refine Ops.callV k2 (Evs.cons rfl Evs.nil) rfl ?_) | (refine Ops.k_callf 12 ?_; refine Ops.callV k3 (Evs.cons rfl Evs.nil) rfl ?_) | (refine Ops.k_callf 13 ?_; refine Ops.callV k4 (Evs.cons rfl (Evs.cons rfl Evs.nil)) rfl ?_) | (refine Ops.k_callf 14 ?_; refine Ops.callV k5 (Evs.cons rfl (Evs.cons rfl Evs.nil)) rfl ?_) | (refine Ops.k_callf 17 ?_; refine Ops.callV kO (Evs.cons rfl Evs.nil) rfl ?_) | (refine Ops.k_callf 16 ?_; refine Ops.callV kE (Evs.cons rfl (Evs.cons rfl Evs.nil)) rfl ?_) | refine Ops.callV k7 (Evs.cons rfl (Evs.cons rfl Evs.nil)) rfl ?_ | (refine Ops.k_callf 19 ?_; refine Ops.callV k8 (Evs.cons rfl (Evs.cons rfl Evs.nil)) rfl ?_) | (refine Ops.k_callf 15 ?_; refine Ops.callV tills_fn Evs.nil rfl ?_)) | fail)
      all_goals first | (exfalso; omega) | exact Fin.ret Ent.refl (Outs.one rfl rfl) rfl
    · have hse := hs2 hl
      subst hse
      clear hs1 hs2
      repeat' (first | refine goH ?_ | (refine Ops.k_b_neq ?_; first | (first | refine Ops.val' rfl (OpV.frac_ne_f rfl rfl) ?_ | refine Ops.val' rfl (OpV.neq_f rfl rfl rfl) ?_ | refine Ops.val' rfl (OpV.neq_t rfl rfl (by omega)) ?_)) | (refine Ops.k_b_eql ?_; first | (first | refine Ops.val' rfl (OpV.eql_t rfl rfl rfl) ?_ | refine Ops.val' rfl (OpV.eqlS_t rfl rfl rfl) ?_)) | refine goV ?_ | refine goB (fun b => ?_) | refine goG ?_ | (refine Ops.k_guard ?_; first | (refine Ops.guard_dec rfl rfl (fun hc => ?_) (fun hc => ?_) <;> try (exfalso; omega)) | refine Ops.guard_split rfl rfl (fun hc => ?_) (fun hc => ?_)) | refine goI ?_ | (refine Cw.k_cond ?_; first | (refine Cw.cond_dec rfl (fun hc => ?_) (fun hc => ?_) <;> try (exfalso; omega)) | refine Cw.cond_bool rfl (fun hc => ?_) (fun hc => ?_)) | (refine Ops.k_calla ?_; first | (refine Ops.k_callf 8 ?_; refine Ops.callV c1 (Evs.cons rfl (Evs.cons rfl Evs.nil)) rfl ?_) | (refine Ops.k_callf 9 ?_; refine Ops.callV c2 (Evs.cons rfl (Evs.cons rfl Evs.nil)) rfl ?_) | (refine Ops.k_callf 10 ?_; refine Ops.callV k1 (Evs.cons rfl Evs.nil) rfl ?_) | (refine Ops.k_callf 11 ?_; refine Ops.callV k2 (Evs.cons rfl Evs.nil) rfl ?_) | (refine Ops.k_callf 12 ?_; refine Ops.callV k3 (Evs.cons rfl Evs.nil) rfl ?_) | (refine Ops.k_callf 13 ?_; refine Ops.callV k4 (Evs.cons rfl (Evs.cons rfl Evs.nil)) rfl ?_) | (refine Ops.k_callf 14 ?_; refine Ops.callV k5 (Evs.cons rfl (Evs.cons rfl Evs.nil)) rfl ?_) | (refine Ops.k_callf 17 ?_; refine Ops.callV kO (Evs.cons rfl Evs.nil) rfl ?_) | (refine Ops.k_callf 16 ?_; refine Ops.callV kE (Evs.cons rfl (Evs.cons rfl Evs.nil)) rfl ?_) | (refine Ops.k_callf 15 ?_; refine Ops.callV tills_fn Evs.nil rfl ?_)) | fail)
      all_goals first | (exfalso; omega) | exact Fin.ret Ent.refl (Outs.one rfl rfl) rfl
  · by_cases hl : 1 ≤ least ∧ least ≤ 1000000
    · obtain ⟨rfl, z3, k7⟩ := hs1 hl
      have k8 := equal_nm Z (by omega)
      clear hs1 hs2
      repeat' (first | refine goH ?_ | (refine Ops.k_b_neq ?_; first | (first | refine Ops.val' rfl (OpV.frac_ne_f rfl rfl) ?_ | refine Ops.val' rfl (OpV.neq_f rfl rfl rfl) ?_ | refine Ops.val' rfl (OpV.neq_t rfl rfl (by omega)) ?_)) | (refine Ops.k_b_eql ?_; first | (first | refine Ops.val' rfl (OpV.eql_t rfl rfl rfl) ?_ | refine Ops.val' rfl (OpV.eqlS_f rfl rfl hA) ?_)) | refine goV ?_ | refine goB (fun b => ?_) | refine goG ?_ | (refine Ops.k_guard ?_; first | (refine Ops.guard_dec rfl rfl (fun hc => ?_) (fun hc => ?_) <;> try (exfalso; omega)) | refine Ops.guard_split rfl rfl (fun hc => ?_) (fun hc => ?_)) | refine goI ?_ | (refine Cw.k_cond ?_; first | (refine Cw.cond_dec rfl (fun hc => ?_) (fun hc => ?_) <;> try (exfalso; omega)) | refine Cw.cond_bool rfl (fun hc => ?_) (fun hc => ?_)) | (refine Ops.k_calla ?_; first | (refine Ops.k_callf 8 ?_; refine Ops.callV c1 (Evs.cons rfl (Evs.cons rfl Evs.nil)) rfl ?_) | (refine Ops.k_callf 9 ?_; refine Ops.callV c2 (Evs.cons rfl (Evs.cons rfl Evs.nil)) rfl ?_) | (refine Ops.k_callf 10 ?_; refine Ops.callV k1 (Evs.cons rfl Evs.nil) rfl ?_) | (refine Ops.k_callf 11 ?_; refine Ops.callV k2 (Evs.cons rfl Evs.nil) rfl ?_) | (refine Ops.k_callf 12 ?_; refine Ops.callV k3 (Evs.cons rfl Evs.nil) rfl ?_) | (refine Ops.k_callf 13 ?_; refine Ops.callV k4 (Evs.cons rfl (Evs.cons rfl Evs.nil)) rfl ?_) | (refine Ops.k_callf 14 ?_; refine Ops.callV k5 (Evs.cons rfl (Evs.cons rfl Evs.nil)) rfl ?_) | (refine Ops.k_callf 17 ?_; refine Ops.callV kO (Evs.cons rfl Evs.nil) rfl ?_) | (refine Ops.k_callf 16 ?_; refine Ops.callV kE (Evs.cons rfl (Evs.cons rfl Evs.nil)) rfl ?_) | refine Ops.callV k6 (Evs.cons rfl (Evs.cons rfl Evs.nil)) rfl ?_ | refine Ops.callV k7 (Evs.cons rfl (Evs.cons rfl Evs.nil)) rfl ?_ | (refine Ops.k_callf 19 ?_; refine Ops.callV k8 (Evs.cons rfl (Evs.cons rfl Evs.nil)) rfl ?_) | (refine Ops.k_callf 15 ?_; refine Ops.callV tills_fn Evs.nil rfl ?_)) | fail)
      all_goals first | (exfalso; omega) | exact Fin.ret Ent.refl (Outs.one rfl rfl) rfl
    · have hse := hs2 hl
      subst hse
      clear hs1 hs2
      repeat' (first | refine goH ?_ | (refine Ops.k_b_neq ?_; first | (first | refine Ops.val' rfl (OpV.frac_ne_f rfl rfl) ?_ | refine Ops.val' rfl (OpV.neq_f rfl rfl rfl) ?_ | refine Ops.val' rfl (OpV.neq_t rfl rfl (by omega)) ?_)) | (refine Ops.k_b_eql ?_; first | (first | refine Ops.val' rfl (OpV.eql_t rfl rfl rfl) ?_ | refine Ops.val' rfl (OpV.eqlS_f rfl rfl hA) ?_)) | refine goV ?_ | refine goB (fun b => ?_) | refine goG ?_ | (refine Ops.k_guard ?_; first | (refine Ops.guard_dec rfl rfl (fun hc => ?_) (fun hc => ?_) <;> try (exfalso; omega)) | refine Ops.guard_split rfl rfl (fun hc => ?_) (fun hc => ?_)) | refine goI ?_ | (refine Cw.k_cond ?_; first | (refine Cw.cond_dec rfl (fun hc => ?_) (fun hc => ?_) <;> try (exfalso; omega)) | refine Cw.cond_bool rfl (fun hc => ?_) (fun hc => ?_)) | (refine Ops.k_calla ?_; first | (refine Ops.k_callf 8 ?_; refine Ops.callV c1 (Evs.cons rfl (Evs.cons rfl Evs.nil)) rfl ?_) | (refine Ops.k_callf 9 ?_; refine Ops.callV c2 (Evs.cons rfl (Evs.cons rfl Evs.nil)) rfl ?_) | (refine Ops.k_callf 10 ?_; refine Ops.callV k1 (Evs.cons rfl Evs.nil) rfl ?_) | (refine Ops.k_callf 11 ?_; refine Ops.callV k2 (Evs.cons rfl Evs.nil) rfl ?_) | (refine Ops.k_callf 12 ?_; refine Ops.callV k3 (Evs.cons rfl Evs.nil) rfl ?_) | (refine Ops.k_callf 13 ?_; refine Ops.callV k4 (Evs.cons rfl (Evs.cons rfl Evs.nil)) rfl ?_) | (refine Ops.k_callf 14 ?_; refine Ops.callV k5 (Evs.cons rfl (Evs.cons rfl Evs.nil)) rfl ?_) | (refine Ops.k_callf 17 ?_; refine Ops.callV kO (Evs.cons rfl Evs.nil) rfl ?_) | (refine Ops.k_callf 16 ?_; refine Ops.callV kE (Evs.cons rfl (Evs.cons rfl Evs.nil)) rfl ?_) | refine Ops.callV k6 (Evs.cons rfl (Evs.cons rfl Evs.nil)) rfl ?_ | (refine Ops.k_callf 15 ?_; refine Ops.callV tills_fn Evs.nil rfl ?_)) | fail)
      all_goals first | (exfalso; omega) | exact Fin.ret Ent.refl (Outs.one rfl rfl) rfl
end Lg
end
