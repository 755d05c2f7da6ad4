/- A part of the proof of a law of this seat: it adds no condition. By an AI agent. -/
import Derived.Test.YticfcbcmjkohmaaGreatDoorKi4
section
set_option linter.all false
set_option maxRecDepth 100000
set_option maxHeartbeats 8000000
namespace Lg
open Go Go.Proofs

/-! ### what is missing -/
def shortF (x : List Lot) (fr : Int) (q : ByteArray × Int) : Option Nm := if 0 < q.2 - freshI x q.1 fr then some ⟨q.1, q.2 - freshI x q.1 fr⟩ else none
def shortL (x : List Lot) (l : List Need) (fr : Int) : List Nm := isort nmLt ((ndM l).filterMap (shortF x fr))
theorem short_sub (x : List Lot) (fr : Int) : ∀ m : List (ByteArray × Int), ((m.filterMap (shortF x fr)).map Nm.key).Sublist (m.map Prod.fst)
  | [] => List.Sublist.slnil
  | q :: m => by
    rw [List.filterMap_cons]
    unfold shortF
    by_cases h : 0 < q.2 - freshI x q.1 fr
    · simp only [if_pos h]
      exact (short_sub x fr m).cons₂ _
    · simp only [if_neg h]
      exact (short_sub x fr m).cons _
theorem short_uniq (x : List Lot) (fr : Int) {l : List Need} {g : List (ByteArray × Int)} (hp : (ndM l).Perm g) : isort nmLt (g.filterMap (shortF x fr)) = shortL x l fr := by
  unfold shortL
  show isort (fun a b => strLt (Nm.key a) (Nm.key b)) _ = isort (fun a b => strLt (Nm.key a) (Nm.key b)) _
  refine isortS_uniq (key := Nm.key) ((hp.symm).filterMap _) ?_
  exact (short_sub x fr g).nodup ((hp.map Prod.fst).nodup_iff.1 (ndM_nodup l))
theorem short_snoc (x : List Lot) (fr : Int) (g : List (ByteArray × Int)) (q : ByteArray × Int) : ((g ++ [q]).filterMap (shortF x fr)).map Nm.row = (g.filterMap (shortF x fr)).map Nm.row ++ (if 0 < q.2 - freshI x q.1 fr then [[Tr.str q.1, Tr.int (q.2 - freshI x q.1 fr)]] else []) := by
  rw [List.filterMap_append, List.map_append]
  congr 1
  rw [List.filterMap_cons, List.filterMap_nil]
  unfold shortF
  by_cases h : 0 < q.2 - freshI x q.1 fr
  · simp only [if_pos h]; rfl
  · simp only [if_neg h]; rfl
theorem short_len (x : List Lot) (fr : Int) (g : List (ByteArray × Int)) : (g.filterMap (shortF x fr)).length ≤ g.length := List.length_filterMap_le _ _
theorem nmLtS_fn (x y : Nm) : PFn Tryz.prog 36 [.agg x.row, .agg y.row] (· = .int (cmpS x.key y.key)) := by
  have k1 := compareS_fn x.key y.key
  unfold Nm.row
  refine PFn.mk (Spec.body Tryz.func36 rfl rfl (Tryz.ntmps36) rfl fun w0 own0 M => ?_)
  repeat' (first | refine goH ?_ | refine goV ?_ | refine goB (fun b => ?_) | refine goI ?_ | (refine Cw.k_cond ?_; first | (refine Cw.cond_dec rfl (fun hc => ?_) (fun hc => ?_) <;> try (exfalso; omega)) | refine Cw.cond_bool rfl (fun hc => ?_) (fun hc => ?_)) | (refine Ops.k_calla ?_; first | (refine Ops.k_callf 27 ?_; refine Ops.callV k1 (Evs.cons rfl (Evs.cons rfl Evs.nil)) rfl ?_)) | fail)
  exact Fin.ret (Ent.take goTk) (Outs.one rfl rfl) ⟨rfl, rfl⟩
theorem nmLtS_fnS {n : Nat} {xs : List Nm} {ad : Option Addr} {cap : Nat} (hl : xs.length ≤ 12) (hn : n = xs.length) : Spec Tryz.prog 35 [Tr.raw (.slice ad n cap), Tr.raw (.func (.func 36) #[] #[])] [Chunk.own ad cap 2 52 (xs.map Nm.row)] (fun r cs => r = Tr.tup [] ∧ cs = [Chunk.own ad cap 2 52 ((isort nmLt xs).map Nm.row)]) :=
  sortFunc_nm (lt := nmLt) (cf := fun a b => cmpS a.key b.key) (caps := []) (cin := []) nmLt_c hl hn (fun a b _ _ => (nmLtS_fn a b).lend)
def shortT (x : List Lot) (l : List Need) (day dl : Int) : Tr := .tup [.nms (if wantE x l day dl ≠ 0 then [] else shortL x l (day + dl)), .int (wantE x l day dl)]
theorem dayB_f {n : Int} (h : dayB n = true) : 0 ≤ n ∧ n ≤ 4000 := dayB_iff.1 h
theorem short_fn (x : List Lot) (hx : x.length ≤ 10) (l : List Need) (hl : l.length ≤ 10) (day dl : Int) : PFn Tryz.prog 11 [.lots x, .needs l, .int day, .int dl] (· = shortT x l day dl) := by
  unfold shortT
  by_cases h : wantE x l day dl = 0
  rotate_left
  · rw [if_pos h]
    have k1 := wantedE_fn x (by omega) l (by omega) day dl h
    refine PFn.mk (Spec.body Tryz.func11 rfl rfl (Tryz.ntmps11) rfl fun w0 own0 M => ?_)
    repeat' (first | refine goH ?_ | refine goV ?_ | refine goC (fun ad cap => ?_) | refine goI ?_ | (refine Cw.k_cond ?_; first | (refine Cw.cond_dec rfl (fun hc => ?_) (fun hc => ?_) <;> try (exfalso; omega)) | refine Cw.cond_bool rfl (fun hc => ?_) (fun hc => ?_)) | (refine Ops.k_calla ?_; first | (refine Ops.k_callf 30 ?_; refine Ops.callV k1 (Evs.cons rfl (Evs.cons rfl (Evs.cons rfl (Evs.cons rfl Evs.nil)))) rfl ?_)) | fail)
    refine Fin.ret (Ent.trans (Ent.nilsl 2 (s := 8) rfl) (Ent.take goTk)) (Outs.many rfl (OutL.cons goOe (OutL.cons goOe OutL.nil)) rfl) ⟨rfl, rfl⟩
  rw [if_neg (by omega), h]
  have k1 := wanted_fn x (by omega) l hl day dl h
  obtain ⟨w1, w2, w3, w4⟩ := wantE_ok h
  have hn : NOk l := ⟨hl, needsErr_ok w2⟩
  have ho := lotsErr_LOk w1
  have hd := dayB_f w3
  have hle := dayB_f w4
  have hbd := @ndM_bd l hn
  have hml := ndM_len l
  refine PFn.mk (Spec.body Tryz.func11 rfl rfl (Tryz.ntmps11) rfl fun w0 own0 M => ?_)
  repeat' (first | refine goH ?_ | (refine Ops.k_range ?_; first | (refine Ops.range rfl goPk rfl (fun r => ?_))) | refine goV ?_ | refine goC (fun ad cap => ?_) | refine goI ?_ | (refine Cw.k_cond ?_; first | (refine Cw.cond_dec rfl (fun hc => ?_) (fun hc => ?_) <;> try (exfalso; omega)) | refine Cw.cond_bool rfl (fun hc => ?_) (fun hc => ?_)) | (refine Ops.k_calla ?_; first | (refine Ops.k_callf 30 ?_; (refine Ops.call k1 (Evs.cons rfl (Evs.cons rfl (Evs.cons rfl (Evs.cons rfl Evs.nil)))) goPm rfl ?_; rintro r cs' ⟨b, rfl, rfl⟩))) | fail)
  refine Cw.loopI [(0, _), (2, _), (3, _), (28, _)] _ (fun q e c => ∃ (g left : List (ByteArray × Int)) (ad : Option Addr) (cap : Nat) (rows : List (List Tr)), q = left.length ∧ ((ndM l).Perm (g ++ left) ∧ rows = (g.filterMap (shortF x (day + dl))).map Nm.row ∧ rows.length ≤ g.length) ∧ e = [(12, Tr.raw (.slice ad rows.length cap))] ∧ c = [Chunk.rg Value.string b r (tkv (ndM l)) (tkv left), Chunk.own ad cap 2 52 rows])
    ⟨_, _, _, Ent.trans (Ent.nil 2 52) (Ent.mkP goSub goPm), [], ndM l, none, 0, [], rfl, ⟨List.Perm.refl _, rfl, Nat.le_refl _⟩, rfl, rfl⟩ ?_
  rintro _ _ _ ⟨g, lf, ad, cap, rows, rfl, ⟨hp, hrows, hrl⟩, rfl, rfl⟩
  have hgl : g.length ≤ 10 := by have := hp.length_eq; simp at this; omega
  repeat' (first | refine goH ?_ | ((fail_if_success refine Ops.k_next ?_); refine goV ?_) | ((fail_if_success refine Ops.k_next ?_); refine goC (fun ad cap => ?_)) | refine goI ?_ | (refine Cw.k_cond ?_; first | (refine Cw.cond_dec rfl (fun hc => ?_) (fun hc => ?_) <;> try (exfalso; omega)) | refine Cw.cond_bool rfl (fun hc => ?_) (fun hc => ?_)) | fail)
  refine Ops.k_next ?_
  refine Ops.nextC rfl goPk rfl (fun hl0 => ?_) (fun j a t hj => ?_)
  · have hl0 := tkv_nil hl0
    subst hl0
    rw [List.append_nil] at hp
    have hfl := short_len x (day + dl) g
    have kS := fun ad cap => nmLtS_fnS (n := rows.length) (xs := g.filterMap (shortF x (day + dl))) (ad := ad) (cap := cap) (by omega) (by rw [hrows, List.length_map])
    rw [short_uniq x (day + dl) hp] at kS
    subst hrows
    repeat' (first | refine goH ?_ | refine goV ?_ | refine goC (fun ad cap => ?_) | refine goI ?_ | (refine Cw.k_cond ?_; first | (refine Cw.cond_dec rfl (fun hc => ?_) (fun hc => ?_) <;> try (exfalso; omega)) | refine Cw.cond_bool rfl (fun hc => ?_) (fun hc => ?_)) | (refine Ops.k_calla ?_; first | (refine Ops.k_callf 35 ?_; (refine Ops.call (kS _ _) (Evs.cons rfl (Evs.cons rfl Evs.nil)) goPm rfl ?_; rintro r cs' ⟨rfl, rfl⟩))) | fail)
    have hlen : ((g.filterMap (shortF x (day + dl))).map Nm.row).length = ((shortL x l (day + dl)).map Nm.row).length := by rw [← short_uniq x (day + dl) hp]; simp [isort_len]
    rw [hlen]
    refine Fin.ret (Ent.trans (Ent.settle (s := 8) rfl goPk rfl) (Ent.take goTk)) (Outs.many rfl (OutL.cons goOe (OutL.cons goOe OutL.nil)) rfl) ⟨rfl, rfl⟩
  · obtain ⟨v, hjv, rfl⟩ := tkv_at hj
    rw [tkv_erase]
    have hp2 := eraseIdx_snoc hp hjv
    have hlen := eraseIdx_len hjv
    have hmem := hbd (hp.mem_iff.2 (List.mem_append.2 (.inr (List.mem_of_getElem? hjv))))
    simp only at hmem
    have k2 := fresh_fn x ho a (day + dl)
    have hfb := freshI_bd ho a (day + dl)
    have hrow := short_snoc x (day + dl) g (a, v)
    rw [← hrows] at hrow
    simp only at hrow
    generalize freshI x a (day + dl) = ff at *
    repeat' (first | refine goH ?_ | (refine Ops.k_entry ?_; first | (refine Ops.entry rfl goPk rfl ?_)) | refine goV ?_ | refine goC (fun ad cap => ?_) | refine goI ?_ | (refine Cw.k_cond ?_; first | (refine Cw.cond_dec rfl (fun hc => ?_) (fun hc => ?_) <;> try (exfalso; omega)) | refine Cw.cond_bool rfl (fun hc => ?_) (fun hc => ?_)) | (refine Ops.k_calla ?_; first | (refine Ops.k_callf 31 ?_; refine Ops.callV k2 (Evs.cons rfl (Evs.cons rfl (Evs.cons rfl Evs.nil))) rfl ?_)) | fail)
    all_goals (first | rw [if_pos (by omega)] at hrow | rw [if_neg (by omega), List.append_nil] at hrow)
    · exact ⟨_, _, _, (Ent.mk goSub goTk), ⟨g ++ [(a, v)], _, _, _, _, rfl, ⟨hp2, hrow.symm, by simp; omega⟩, rfl, rfl⟩, by omega⟩
    · exact ⟨_, _, _, (Ent.mk goSub goTk), ⟨g ++ [(a, v)], _, _, _, _, rfl, ⟨hp2, hrow.symm, by simp; omega⟩, rfl, rfl⟩, by omega⟩
end Lg
end
section
set_option linter.all false
set_option maxRecDepth 100000
set_option maxHeartbeats 8000000
namespace Lg
open Go Go.Proofs

theorem nm_eq0 (n : Nat) (a : ByteArray) (b : Int) (w : World) : (Op.equalIn (n + 1 + 1) 52 (.agg #[.string a, .int .i64 b]) (.agg #[.string a, .int .i64 b])).run Tryz.prog w = .ok true w := by
  have hs : Tryz.prog.stoodInHeld 52 = false := by kernel_rfl
  simp [Op.equalIn, run_underlying Tryz.underlying52, run_underlying Tryz.underlying9, run_underlying Tryz.underlying3, ba_self, hs, part, Go.sizeOf, typeInfo]
theorem nm_eq1 (a : ByteArray) (b : Int) (w : World) : (binOp .eql 52 (.agg #[.string a, .int .i64 b]) (.agg #[.string a, .int .i64 b])).run Tryz.prog w = .ok (.bool true) w := by
  show (do let r ← Op.equalIn (9998 + 1 + 1) 52 _ _; pure (Value.bool r) : Sem Value).run Tryz.prog w = _
  have := nm_eq0 9998 a b w
  generalize Op.equalIn (9998 + 1 + 1) 52 (.agg #[.string a, .int .i64 b]) (.agg #[.string a, .int .i64 b]) = s at *
  simp [this]
theorem nm_ne1 (a : ByteArray) (b : Int) (w : World) : (binOp .neq 52 (.agg #[.string a, .int .i64 b]) (.agg #[.string a, .int .i64 b])).run Tryz.prog w = .ok (.bool false) w := by
  show (do let r ← Op.equalIn (9998 + 1 + 1) 52 _ _; pure (Value.bool !r) : Sem Value).run Tryz.prog w = _
  have := nm_eq0 9998 a b w
  generalize Op.equalIn (9998 + 1 + 1) 52 (.agg #[.string a, .int .i64 b]) (.agg #[.string a, .int .i64 b]) = s at *
  simp [this]
section
variable {Γ : Ctx} {env : Env} {cs : List Chunk} {x y : Operand} {T2 ty : TypeId}
theorem OpV.nm_t {a : ByteArray} {b : Int} (hx : ev env x = some (.agg ([.string a, .int .i64 b].map Tr.raw))) (hy : ev env y = some (.agg ([.string a, .int .i64 b].map Tr.raw))) : OpV Tryz.prog Γ (.binOp .eql 52 x y T2) ty env cs (.bool true) := by
  unfold OpV
  intro ac w d
  have h1 := agg_raw (l := [.string a, .int .i64 b]) (d.ev hx)
  have h2 := agg_raw (l := [.string a, .int .i64 b]) (d.ev hy)
  have h3 := nm_eq1 a b w
  have h4 : (eqGuard .eql 52 x y (.agg #[.string a, .int .i64 b]) (.agg #[.string a, .int .i64 b])).run Tryz.prog w = .ok () w := by simp [eqGuard]
  exact ⟨.bool true, by simp [execOp, h1, h2, h3, h4], by unfold Tr.bool Tr.raw; rfl⟩
theorem OpV.nm_ne_f {a : ByteArray} {b : Int} (hx : ev env x = some (.agg ([.string a, .int .i64 b].map Tr.raw))) (hy : ev env y = some (.agg ([.string a, .int .i64 b].map Tr.raw))) : OpV Tryz.prog Γ (.binOp .neq 52 x y T2) ty env cs (.bool false) := by
  unfold OpV
  intro ac w d
  have h1 := agg_raw (l := [.string a, .int .i64 b]) (d.ev hx)
  have h2 := agg_raw (l := [.string a, .int .i64 b]) (d.ev hy)
  have h3 := nm_ne1 a b w
  have h4 : (eqGuard .neq 52 x y (.agg #[.string a, .int .i64 b]) (.agg #[.string a, .int .i64 b])).run Tryz.prog w = .ok () w := by simp [eqGuard]
  exact ⟨.bool false, by simp [execOp, h1, h2, h3, h4], by unfold Tr.bool Tr.raw; rfl⟩
end
theorem equal_nm (xs : List Nm) (h : xs.length ≤ 1000000000) : PFn Tryz.prog 19 [.sl 2 (xs.map Nm.row), .sl 2 (xs.map Nm.row)] (· = .bool true) := by
  refine PFn.mk (Spec.body Tryz.func19 rfl rfl (Tryz.ntmps19) rfl fun w0 own0 M => ?_)
  have hL : (xs.map Nm.row).length = xs.length := List.length_map _
  repeat' (first | refine goH ?_ | refine goV ?_ | refine goI ?_ | (refine Cw.k_cond ?_; first | (refine Cw.cond_dec rfl (fun hc => ?_) (fun hc => ?_) <;> try (exfalso; omega)) | refine Cw.cond_bool rfl (fun hc => ?_) (fun hc => ?_)) | refine goR ?_ | refine goP ?_ | apply PSeq.cons | apply PSeq.yes rfl rfl rfl | exact goW | fail)
  refine Cw.loop (ι := Nat) (fun k => k ≤ xs.length) (fun k => [(0, .sl 2 (xs.map Nm.row)), (1, .sl 2 (xs.map Nm.row)), (11, .sl 2 (xs.map Nm.row)), (12, .int (xs.map Nm.row).length), (13, .int k)]) (fun _ => []) (fun k => xs.length - k) ⟨0, by omega, (Ent.mk goSub goTk)⟩ ?_
  intro k hk
  by_cases hkl : k < xs.length
  · obtain ⟨d, hd⟩ : ∃ x, xs[k]? = some x := ⟨_, List.getElem?_eq_getElem hkl⟩
    have hrow : (xs.map Nm.row)[k]? = some [.str d.key, .int d.many] := rows_at hd
    repeat' (first | refine goH ?_ | refine goV ?_ | refine goI ?_ | (refine Cw.k_cond ?_; first | (refine Cw.cond_dec rfl (fun hc => ?_) (fun hc => ?_) <;> try (exfalso; omega)) | refine Cw.cond_bool rfl (fun hc => ?_) (fun hc => ?_)) | (apply OpV.w; apply OpV.nm_ne_f; exact rfl; exact rfl) | refine goR ?_ | refine goP ?_ | apply PSeq.cons | apply PSeq.yes rfl rfl rfl | exact goW | fail)
    exact ⟨k + 1, by omega, by omega, (Ent.mk goSub goTk)⟩
  · repeat' (first | refine goH ?_ | refine goV ?_ | refine goI ?_ | (refine Cw.k_cond ?_; first | (refine Cw.cond_dec rfl (fun hc => ?_) (fun hc => ?_) <;> try (exfalso; omega)) | refine Cw.cond_bool rfl (fun hc => ?_) (fun hc => ?_)) | refine goR ?_ | refine goP ?_ | apply PSeq.cons | apply PSeq.yes rfl rfl rfl | exact goW | fail)
    exact Fin.ret Ent.refl (Outs.one rfl rfl) ⟨rfl, rfl⟩

theorem shortOf_fn (x : List Lot) (ho : LOk x) (l : List Need) (hn : NOk l) (hx : x.length ≤ 10) (day dl : Int) (hd : 0 ≤ day ∧ day ≤ 4000) (hle : 0 ≤ dl ∧ dl ≤ 4000) : PFn Tryz.prog 20 [.lots x, .needs l, .int day, .int dl] (· = .nms (shortL x l (day + dl))) := by
  have k1 := needed_fn l hn
  have hbd := @ndM_bd l hn
  have hml := ndM_len l
  have h10 := hn.len
  refine PFn.mk (Spec.body Tryz.func20 rfl rfl (Tryz.ntmps20) rfl fun w0 own0 M => ?_)
  repeat' (first | refine goH ?_ | (refine Ops.k_range ?_; first | (refine Ops.range rfl goPk rfl (fun r => ?_))) | refine goV ?_ | refine goC (fun ad cap => ?_) | refine goI ?_ | (refine Cw.k_cond ?_; first | (refine Cw.cond_dec rfl (fun hc => ?_) (fun hc => ?_) <;> try (exfalso; omega)) | refine Cw.cond_bool rfl (fun hc => ?_) (fun hc => ?_)) | (refine Ops.k_calla ?_; first | (refine Ops.k_callf 39 ?_; (refine Ops.call k1 (Evs.cons rfl Evs.nil) goPm rfl ?_; rintro r cs' ⟨b, rfl, rfl⟩))) | fail)
  refine Cw.loopI [(0, _), (2, _), (3, _), (15, _)] _ (fun q e c => ∃ (g left : List (ByteArray × Int)) (ad : Option Addr) (cap : Nat) (rows : List (List Tr)), q = left.length ∧ ((ndM l).Perm (g ++ left) ∧ rows = (g.filterMap (shortF x (day + dl))).map Nm.row ∧ rows.length ≤ g.length) ∧ e = [(9, Tr.raw (.slice ad rows.length cap))] ∧ c = [Chunk.rg Value.string b r (tkv (ndM l)) (tkv left), Chunk.own ad cap 2 52 rows])
    ⟨_, _, _, Ent.trans (Ent.nil 2 52) (Ent.mkP goSub goPm), [], ndM l, none, 0, [], rfl, ⟨List.Perm.refl _, rfl, Nat.le_refl _⟩, rfl, rfl⟩ ?_
  rintro _ _ _ ⟨g, lf, ad, cap, rows, rfl, ⟨hp, hrows, hrl⟩, rfl, rfl⟩
  have hgl : g.length ≤ 10 := by have := hp.length_eq; simp at this; omega
  repeat' (first | refine goH ?_ | ((fail_if_success refine Ops.k_next ?_); refine goV ?_) | ((fail_if_success refine Ops.k_next ?_); refine goC (fun ad cap => ?_)) | refine goI ?_ | (refine Cw.k_cond ?_; first | (refine Cw.cond_dec rfl (fun hc => ?_) (fun hc => ?_) <;> try (exfalso; omega)) | refine Cw.cond_bool rfl (fun hc => ?_) (fun hc => ?_)) | fail)
  refine Ops.k_next ?_
  refine Ops.nextC rfl goPk rfl (fun hl0 => ?_) (fun j a t hj => ?_)
  · have hl0 := tkv_nil hl0
    subst hl0
    rw [List.append_nil] at hp
    have hfl := short_len x (day + dl) g
    have kS := fun ad cap => sortedNamed_fn (n := rows.length) (xs := g.filterMap (shortF x (day + dl))) (ad := ad) (cap := cap) (by omega) (by rw [hrows, List.length_map])
    rw [short_uniq x (day + dl) hp] at kS
    subst hrows
    repeat' (first | refine goH ?_ | refine goV ?_ | refine goC (fun ad cap => ?_) | refine goI ?_ | (refine Cw.k_cond ?_; first | (refine Cw.cond_dec rfl (fun hc => ?_) (fun hc => ?_) <;> try (exfalso; omega)) | refine Cw.cond_bool rfl (fun hc => ?_) (fun hc => ?_)) | (refine Ops.k_calla ?_; first | (refine Ops.k_callf 47 ?_; (refine Ops.call (kS _ _) (Evs.cons rfl Evs.nil) goPm rfl ?_; rintro r cs' ⟨rfl, rfl⟩))) | fail)
    have hlen : ((g.filterMap (shortF x (day + dl))).map Nm.row).length = ((shortL x l (day + dl)).map Nm.row).length := by rw [← short_uniq x (day + dl) hp]; simp [isort_len]
    rw [hlen]
    refine Fin.ret (Ent.trans (Ent.settle (s := 8) rfl goPk rfl) (Ent.take goTk)) (Outs.sole rfl goOe) ⟨rfl, rfl⟩
  · obtain ⟨v, hjv, rfl⟩ := tkv_at hj
    rw [tkv_erase]
    have hp2 := eraseIdx_snoc hp hjv
    have hlen := eraseIdx_len hjv
    have hmem := hbd (hp.mem_iff.2 (List.mem_append.2 (.inr (List.mem_of_getElem? hjv))))
    simp only at hmem
    have k2 := freshOf_fn x ho a day dl (by omega) (by omega)
    have hfb := freshI_bd ho a (day + dl)
    have hrow := short_snoc x (day + dl) g (a, v)
    rw [← hrows] at hrow
    simp only at hrow
    generalize freshI x a (day + dl) = ff at *
    repeat' (first | refine goH ?_ | (refine Ops.k_entry ?_; first | (refine Ops.entry rfl goPk rfl ?_)) | refine goV ?_ | refine goC (fun ad cap => ?_) | refine goI ?_ | (refine Cw.k_cond ?_; first | (refine Cw.cond_dec rfl (fun hc => ?_) (fun hc => ?_) <;> try (exfalso; omega)) | refine Cw.cond_bool rfl (fun hc => ?_) (fun hc => ?_)) | (refine Ops.k_calla ?_; first | (refine Ops.k_callf 41 ?_; refine Ops.callV k2 (Evs.cons rfl (Evs.cons rfl (Evs.cons rfl (Evs.cons rfl Evs.nil)))) rfl ?_)) | fail)
    all_goals (first | rw [if_pos (by omega)] at hrow | rw [if_neg (by omega), List.append_nil] at hrow)
    · exact ⟨_, _, _, (Ent.mk goSub goTk), ⟨g ++ [(a, v)], _, _, _, _, rfl, ⟨hp2, hrow.symm, by simp; omega⟩, rfl, rfl⟩, by omega⟩
    · exact ⟨_, _, _, (Ent.mk goSub goTk), ⟨g ++ [(a, v)], _, _, _, _, rfl, ⟨hp2, hrow.symm, by simp; omega⟩, rfl, rfl⟩, by omega⟩

/-! ### kits compared with themselves -/
theorem sameKit_fn (x : Kt) (h : x.ps.length ≤ 1000) : PFn Tryz.prog 45 [.agg x.row, .agg x.row] (· = .bool true) := by
  have k1 := equal_piece x.ps (by omega)
  unfold Kt.row
  refine PFn.mk (Spec.body Tryz.func45 rfl rfl (Tryz.ntmps45) rfl fun w0 own0 M => ?_)
  repeat' (first | refine goH ?_ | refine goV ?_ | refine goB (fun b => ?_) | refine goG ?_ | (refine Ops.k_guard ?_; first | (refine Ops.guard_dec rfl rfl (fun hc => ?_) (fun hc => ?_) <;> try (exfalso; omega)) | refine Ops.guard_split rfl rfl (fun hc => ?_) (fun hc => ?_)) | refine goI ?_ | (refine Cw.k_cond ?_; first | (refine Cw.cond_dec rfl (fun hc => ?_) (fun hc => ?_) <;> try (exfalso; omega)) | refine Cw.cond_bool rfl (fun hc => ?_) (fun hc => ?_)) | (refine Ops.k_calla ?_; first | (refine Ops.k_callf 46 ?_; refine Ops.callV k1 (Evs.cons rfl (Evs.cons rfl Evs.nil)) rfl ?_)) | fail)
  all_goals first | (exfalso; simp_all; done) | exact Fin.ret (Ent.take goTk) (Outs.one rfl rfl) ⟨rfl, rfl⟩
theorem eqfK_fn (l : List Kt) (hl : l.length ≤ 1000) (hv : ∀ r ∈ l, r.ps.length ≤ 1000) : PFn Tryz.prog 44 [.sl 3 (l.map Kt.row), .sl 3 (l.map Kt.row), Tr.raw (.func (.func 45) #[] #[])] (· = .bool true) := by
  refine PFn.mk (Spec.body Tryz.func44 rfl rfl (Tryz.ntmps44) rfl fun w0 own0 M => ?_)
  have hR : (l.map Kt.row).length = l.length := List.length_map _
  repeat' (first | refine goH ?_ | refine goV ?_ | refine goB (fun b => ?_) | refine goI ?_ | (refine Cw.k_cond ?_; first | (refine Cw.cond_dec rfl (fun hc => ?_) (fun hc => ?_) <;> try (exfalso; omega)) | refine Cw.cond_bool rfl (fun hc => ?_) (fun hc => ?_)) | fail)
  refine Cw.loopI [(1, _), (2, _), (15, _), (16, _)] _ (fun q e cc => ∃ (k : Nat), q = l.length - k ∧ (k ≤ l.length) ∧ e = [(17, .int k)] ∧ cc = []) ⟨_, _, _, (Ent.mkP goSub goPm), 0, rfl, by omega, rfl, rfl⟩ ?_
  rintro _ _ _ ⟨k, rfl, hk, rfl, rfl⟩
  by_cases hkl : k < l.length
  · obtain ⟨r, hx⟩ := at_lt hkl
    have hr1 : (l.map Kt.row)[k]? = some [.str r.pl, .str r.pr, .pieces r.ps] := rows_at hx
    have kE := (sameKit_fn r (hv r (List.mem_of_getElem? hx))).lend
    unfold Kt.row at kE
    repeat' (first | refine goH ?_ | refine goV ?_ | refine goB (fun b => ?_) | refine goI ?_ | (refine Cw.k_cond ?_; first | (refine Cw.cond_dec rfl (fun hc => ?_) (fun hc => ?_) <;> try (exfalso; omega)) | refine Cw.cond_bool rfl (fun hc => ?_) (fun hc => ?_)) | (refine Ops.k_calla ?_; first | refine Ops.callS_fn (caps := []) (args := [.agg [.str r.pl, .str r.pr, .pieces r.ps], .agg [.str r.pl, .str r.pr, .pieces r.ps]]) rfl kE (Evs.cons rfl (Evs.cons rfl Evs.nil)) (List.Perm.refl _) rfl ?_) | fail)
    exact ⟨_, _, _, (Ent.mk goSub goTk), ⟨k + 1, rfl, by omega, rfl, rfl⟩, by omega⟩
  · repeat' (first | refine goH ?_ | refine goV ?_ | refine goB (fun b => ?_) | refine goI ?_ | (refine Cw.k_cond ?_; first | (refine Cw.cond_dec rfl (fun hc => ?_) (fun hc => ?_) <;> try (exfalso; omega)) | refine Cw.cond_bool rfl (fun hc => ?_) (fun hc => ?_)) | fail)
    exact Fin.ret (Ent.take goTk) (Outs.one rfl rfl) ⟨rfl, rfl⟩
theorem sameKits_fn (l : List Kt) (hl : l.length ≤ 1000) (hv : ∀ r ∈ l, r.ps.length ≤ 1000) : PFn Tryz.prog 17 [.sl 3 (l.map Kt.row), .sl 3 (l.map Kt.row)] (· = .bool true) := by
  have k3 := eqfK_fn l hl hv
  refine PFn.mk (Spec.body Tryz.func17 rfl rfl (Tryz.ntmps17) rfl fun w0 own0 M => ?_)
  repeat' (first | refine goH ?_ | refine goV ?_ | refine goI ?_ | (refine Cw.k_cond ?_; first | (refine Cw.cond_dec rfl (fun hc => ?_) (fun hc => ?_) <;> try (exfalso; omega)) | refine Cw.cond_bool rfl (fun hc => ?_) (fun hc => ?_)) | (refine Ops.k_calla ?_; first | (refine Ops.k_callf 44 ?_; refine Ops.callV k3 (Evs.cons rfl (Evs.cons rfl (Evs.cons rfl Evs.nil))) rfl ?_)) | fail)
  exact Fin.ret (Ent.take goTk) (Outs.one rfl rfl) ⟨rfl, rfl⟩
end Lg
end
section
set_option linter.all false
set_option maxRecDepth 100000
set_option maxHeartbeats 4000000
namespace Lg
open Go Go.Proofs

/-! ### what the needs get, product by product -/
def idxN (p : ByteArray) (l : List Need) : Nat → List Int
  | 0 => []
  | k + 1 => idxN p l k ++ (match l[k]? with
    | none => []
    | some z => if z.pr = p then [(k : Int)] else [])
theorem idxN_succ {p : ByteArray} {l : List Need} {k : Nat} {z : Need} (h : l[k]? = some z) : idxN p l (k + 1) = idxN p l k ++ if z.pr = p then [(k : Int)] else [] := by
  rw [idxN, h]
theorem cntP_succ {p : ByteArray} {l : List Need} {k : Nat} {z : Need} (h : l[k]? = some z) : cntP p (l.take (k + 1)) = cntP p (l.take k) + if z.pr = p then 1 else 0 := by
  unfold cntP
  rw [wts_take p h, List.length_append]
  split <;> rfl
theorem idxN_len (p : ByteArray) (l : List Need) : ∀ k, k ≤ l.length → (idxN p l k).length = cntP p (l.take k)
  | 0, _ => rfl
  | k + 1, h => by
    obtain ⟨z, hz⟩ := at_lt (l := l) (k := k) (by omega)
    rw [idxN_succ hz, cntP_succ hz, List.length_append, idxN_len p l k (by omega)]
    split <;> rfl
theorem idxN_at (p : ByteArray) (l : List Need) : ∀ k, k ≤ l.length → ∀ {j : Nat} {v : Int}, (idxN p l k)[j]? = some v → ∃ (i : Nat) (z : Need), v = i ∧ l[i]? = some z ∧ z.pr = p ∧ cntP p (l.take i) = j
  | 0, _, j, v, h => by simp [idxN] at h
  | k + 1, hk, j, v, h => by
    obtain ⟨z, hz⟩ := at_lt (l := l) (k := k) (by omega)
    rw [idxN_succ hz] at h
    have hlen := idxN_len p l k (by omega)
    by_cases hj : j < (idxN p l k).length
    · rw [List.getElem?_append_left hj] at h
      exact idxN_at p l k (by omega) h
    · rw [List.getElem?_append_right (by omega)] at h
      by_cases e : z.pr = p
      · rw [if_pos e] at h
        have hlt := (List.getElem?_eq_some_iff.1 h).1
        simp only [List.length_singleton] at hlt
        rw [show j - (idxN p l k).length = 0 by omega] at h
        simp only [List.getElem?_cons_zero, Option.some.injEq] at h
        exact ⟨k, z, h.symm, hz, e, by omega⟩
      · rw [if_neg e] at h
        simp at h
theorem cntP_lt {p : ByteArray} {l : List Need} {i j : Nat} {z : Need} (h : l[i]? = some z) (e : z.pr = p) (hij : i < j) : cntP p (l.take i) < cntP p (l.take j) := by
  have h1 := cntP_succ (p := p) h
  rw [if_pos e] at h1
  have h2 : l.take j = l.take (i + 1) ++ (l.take j).drop (i + 1) := by
    have := List.take_append_drop (i + 1) (l.take j)
    rw [List.take_take, Nat.min_eq_left (by omega)] at this
    exact this.symm
  have h3 : cntP p (l.take (i + 1)) ≤ cntP p (l.take j) := by
    rw [h2]
    unfold cntP
    rw [wts_app, List.length_append]
    omega
  omega
theorem cntP_all {p : ByteArray} {l : List Need} {i : Nat} {z : Need} (h : l[i]? = some z) (e : z.pr = p) : cntP p (l.take i) < cntP p l := by
  have := cntP_lt h e (j := l.length) (List.getElem?_eq_some_iff.1 h).1
  rwa [List.take_of_length_le (Nat.le_refl _)] at this
noncomputable instance decMemBA (a : ByteArray) (l : List ByteArray) : Decidable (a ∈ l) := Classical.propDecidable _
noncomputable def gvI (x : List Lot) (fr : Int) (l : List Need) (S : List ByteArray) (p : ByteArray) (k i : Nat) (z : Need) : Int :=
  if z.pr ∈ S ∨ (z.pr = p ∧ cntP p (l.take i) < k) then (shP x fr l z.pr).getD (cntP z.pr (l.take i)) 0 else z.many
noncomputable def gvK (x : List Lot) (fr : Int) (l : List Need) (S : List ByteArray) (p : ByteArray) (k : Nat) : List Int := (List.range l.length).map fun i => match l[i]? with
  | none => 0
  | some z => gvI x fr l S p k i z
theorem gvK_len (x : List Lot) (fr : Int) (l : List Need) (S : List ByteArray) (p : ByteArray) (k : Nat) : (gvK x fr l S p k).length = l.length := by simp [gvK]
theorem gvK_at {x : List Lot} {fr : Int} {l : List Need} {S : List ByteArray} {p : ByteArray} {k i : Nat} {z : Need} (h : l[i]? = some z) : (gvK x fr l S p k)[i]? = some (gvI x fr l S p k i z) := by
  unfold gvK
  rw [List.getElem?_map, List.getElem?_range (List.getElem?_eq_some_iff.1 h).1, Option.map_some, h]
theorem ext_needs {l : List Need} {a b : List Int} (ha : a.length = l.length) (hb : b.length = l.length) (h : ∀ (i : Nat) z, l[i]? = some z → a[i]? = b[i]?) : a = b := by
  apply List.ext_getElem?
  intro i
  by_cases hi : i < l.length
  · obtain ⟨z, hz⟩ := at_lt hi
    exact h i z hz
  · rw [List.getElem?_eq_none (by omega), List.getElem?_eq_none (by omega)]
theorem gvK_nil (x : List Lot) (fr : Int) (l : List Need) (p : ByteArray) : gvK x fr l [] p 0 = l.map Need.many := by
  refine ext_needs (gvK_len _ _ _ _ _ _) (List.length_map _) fun i z hz => ?_
  rw [gvK_at hz, List.getElem?_map, hz]
  unfold gvI
  rw [if_neg (by simp)]
  rfl
theorem gvK_next (x : List Lot) (fr : Int) (l : List Need) (S : List ByteArray) (p p' : ByteArray) : gvK x fr l S p (cntP p l) = gvK x fr l (S ++ [p]) p' 0 := by
  refine ext_needs (gvK_len _ _ _ _ _ _) (gvK_len _ _ _ _ _ _) fun i z hz => ?_
  rw [gvK_at hz, gvK_at hz]
  unfold gvI
  congr 1
  have h : (z.pr ∈ S ∨ (z.pr = p ∧ cntP p (l.take i) < cntP p l)) ↔ (z.pr ∈ S ++ [p] ∨ (z.pr = p' ∧ cntP p' (l.take i) < 0)) := by
    rw [List.mem_append, List.mem_singleton]
    constructor
    · rintro (h | ⟨h, _⟩)
      · exact .inl (.inl h)
      · exact .inl (.inr h)
    · rintro ((h | h) | ⟨_, h⟩)
      · exact .inl h
      · exact .inr ⟨h, cntP_all hz h⟩
      · omega
  simp only [h]
theorem gvK_p0 (x : List Lot) (fr : Int) (l : List Need) (S : List ByteArray) (p p' : ByteArray) : gvK x fr l S p 0 = gvK x fr l S p' 0 := by
  refine ext_needs (gvK_len _ _ _ _ _ _) (gvK_len _ _ _ _ _ _) fun i z hz => ?_
  rw [gvK_at hz, gvK_at hz]
  unfold gvI
  simp
theorem gvK_full {x : List Lot} {fr : Int} {l : List Need} {S : List ByteArray} {p : ByteArray} (h : ¬ freshI x p fr < sumL (wts p l)) : gvK x fr l S p (cntP p l) = gvK x fr l S p 0 := by
  refine ext_needs (gvK_len _ _ _ _ _ _) (gvK_len _ _ _ _ _ _) fun i z hz => ?_
  rw [gvK_at hz, gvK_at hz]
  unfold gvI
  by_cases h1 : z.pr ∈ S
  · rw [if_pos (.inl h1), if_pos (.inl h1)]
  · by_cases h2 : z.pr = p
    · rw [if_pos (.inr ⟨h2, cntP_all hz h2⟩), if_neg (by rintro (h | ⟨_, h⟩); exact h1 h; omega)]
      subst h2
      unfold shP
      rw [if_neg h, List.getD_eq_getElem?_getD, wts_at hz]
      rfl
    · rw [if_neg (by rintro (h | ⟨h, _⟩); exact h1 h; exact h2 h), if_neg (by rintro (h | ⟨h, _⟩); exact h1 h; exact h2 h)]
theorem gvK_end {x : List Lot} {fr : Int} {l : List Need} {S : List ByteArray} (p : ByteArray) (h : ∀ z ∈ l, z.pr ∈ S) : gvK x fr l S p 0 = kgets x fr l := by
  refine ext_needs (gvK_len _ _ _ _ _ _) (kgets_len _ _ _) fun i z hz => ?_
  rw [gvK_at hz]
  unfold gvI kgets
  rw [if_pos (.inl (h z (List.mem_of_getElem? hz))), List.getElem?_map, List.getElem?_range (List.getElem?_eq_some_iff.1 hz).1, Option.map_some, hz]
theorem gvK_set {x : List Lot} {fr : Int} {l : List Need} {S : List ByteArray} {p : ByteArray} {k i : Nat} {z : Need} (hz : l[i]? = some z) (e : z.pr = p) (hk : cntP p (l.take i) = k) (hS : p ∉ S) :
    gvK x fr l S p (k + 1) = (gvK x fr l S p k).set i ((shP x fr l p).getD k 0) := by
  refine ext_needs (gvK_len _ _ _ _ _ _) (by rw [List.length_set, gvK_len]) fun j y hy => ?_
  by_cases hij : i = j
  · subst hij
    rw [hz] at hy
    cases hy
    rw [gvK_at hz, List.getElem?_set_self (by rw [gvK_len]; exact (List.getElem?_eq_some_iff.1 hz).1)]
    unfold gvI
    rw [if_pos (.inr ⟨e, by omega⟩), e, hk]
  · rw [gvK_at hy, List.getElem?_set_ne hij, gvK_at hy]
    unfold gvI
    have h : (y.pr ∈ S ∨ (y.pr = p ∧ cntP p (l.take j) < k + 1)) ↔ (y.pr ∈ S ∨ (y.pr = p ∧ cntP p (l.take j) < k)) := by
      constructor
      · rintro (h | ⟨h1, h2⟩)
        · exact .inl h
        · refine .inr ⟨h1, ?_⟩
          rcases Nat.lt_or_gt_of_ne hij with h3 | h3
          · have := cntP_lt hz e h3
            omega
          · have := cntP_lt hy h1 h3
            omega
      · rintro (h | ⟨h1, h2⟩)
        · exact .inl h
        · exact .inr ⟨h1, by omega⟩
    simp only [h]
theorem kitSh_ok {x : List Lot} (ho : LOk x) (hx : x.length ≤ 10) {l : List Need} (hn : NOk l) {p : ByteArray} {fr : Int} (h : freshI x p fr < sumL (wts p l)) : shT (freshI x p fr) (wts p l) = .tup [.ints (shP x fr l p), .int 0] := by
  obtain ⟨w1, w2, w3, w4⟩ := hn.wts p
  have hf := freshI_bd ho p fr
  have hne : (wts p l).length ≠ 0 := by
    intro e
    rw [List.length_eq_zero_iff] at e
    rw [e, sumL_nil] at h
    omega
  have hE : shE (freshI x p fr) (wts p l) = 0 := by
    unfold shE
    rw [if_neg (by omega), if_neg hne, if_neg (by omega), if_neg]
    rintro (hb | hb)
    · obtain ⟨w, hw, hb⟩ := List.any_eq_true.1 hb
      have := w1 w hw
      unfold wtBad at hb
      have := of_decide_eq_true hb
      omega
    · omega
  unfold shT shP
  rw [if_neg (by omega), if_pos h]
def kitsOf (x : List Lot) (fr : Int) (l : List Need) : List Kt := (kitSt x fr l l.length).1
def restOf (x : List Lot) (fr : Int) (l : List Need) : List Lot := (kitSt x fr l l.length).2
theorem kits_ps {x : List Lot} (ho : LOk x) {l : List Need} (hn : NOk l) (fr : Int) : ∀ k, k ≤ l.length → ∀ r ∈ (kitSt x fr l k).1, r.ps.length ≤ x.length
  | 0, _, r, hr => by simp [kitSt] at hr
  | k + 1, hk, r, hr => by
    obtain ⟨z, hz⟩ := at_lt (l := l) (k := k) (by omega)
    obtain ⟨h1, h2, h3, h4, h5, h6⟩ := kit_step ho hn (fr := fr) hz
    rw [kitSt_succ hz] at hr
    unfold kitS at hr
    rcases List.mem_append.1 hr with hr | hr
    · exact kits_ps ho hn fr k (by omega) r hr
    · rw [List.mem_singleton] at hr
      subst hr
      simp only
      obtain ⟨_, _, _, s4⟩ := fold_same (l0 := (kitSt x fr l k).2) (ordL (kitSt x fr l k).2 z.pr fr) (st := ((kitSt x fr l k).2, (kgets x fr l).getD k 0, [])) (Same.refl h1) h4
      have := ordL_len (kitSt x fr l k).2 z.pr fr
      unfold pickR
      simp only [List.length_nil] at s4
      omega
/-- the slice that a call hands out is settled at once -/
theorem Spec.settled1 {P : Program} {f : FuncId} {args : List Tr} {cin cx : List Chunk} {k E : Nat} {rows : List (List Tr)} (hs : Spec P f args cin (fun r cs => ∃ ad cap, r = Tr.raw (.slice ad rows.length cap) ∧ cs = Chunk.own ad cap k E rows :: cx)) : Spec P f args cin (fun r cs => r = Tr.sl k rows ∧ cs = cx) := by
  unfold Spec at hs ⊢
  refine ⟨hs.1, fun M w vs h1 h2 h3 h4 h5 => (hs.2 M w vs h1 h2 h3 h4 h5).mono ?_⟩
  rintro e w' ⟨v, r, cs', he, ⟨ad, cap, rfl, rfl⟩, hr, hc, hn, hf, hfr⟩
  have hv := rd_raw hr
  subst hv
  have hA : ∀ b', av M (Chunk.own ad cap k E rows :: cx) b' → av M cx b' := fun b' hb => ⟨hb.1, fun hm => hb.2 (by simp only [fps, List.flatMap_cons, List.mem_append] at hm ⊢; exact .inr hm)⟩
  have hsame : SameOn w' w' (av M (Chunk.own ad cap k E rows :: cx)) (av M cx) := fun b' _ h => ⟨hA b' h, rfl⟩
  simp only [fps, List.flatMap_cons] at hn
  refine ⟨_, _, _, he, ⟨rfl, rfl⟩, ?_, ?_, ?_, ?_, hfr⟩
  · refine own_reads (hc (Chunk.own ad cap k E rows) (by simp)) hA fun g hg => ⟨(hf g (by simp only [fps, List.flatMap_cons, List.mem_append]; exact .inl hg)).2.1, fun hm => ?_⟩
    exact (List.nodup_append.1 hn).2.2 g hg g (by simpa only [fps, List.flatMap_cons] using hm) rfl
  · intro x hx
    exact x.mono (fun _ _ _ => rfl) hsame (hc _ (by simp [hx]))
  · exact (List.nodup_append.1 hn).2.1
  · intro b' hb'
    exact hf b' (by simp only [fps, List.flatMap_cons, List.mem_append] at hb' ⊢; exact .inr hb')
theorem picked_val {l : List Lot} (ho : LOk l) (hl : l.length < 20) {p : ByteArray} {many fr : Int} (hm : 0 ≤ many ∧ many ≤ 10000000) {ad : Option Addr} {cap n : Nat} (hn : n = l.length) :
    Spec Tryz.prog 34 [Tr.raw (.slice ad n cap), .str p, .int many, .int fr] [Chunk.own ad cap 4 49 (l.map Lot.row)] (fun r cs => r = .pieces (pickR l p many fr).2.2 ∧ cs = [Chunk.own ad cap 4 49 ((pickR l p many fr).1.map Lot.row)]) :=
  Spec.settled1 (picked_fn l ho hl p many fr hm ad cap n hn)
theorem taken_val {l : List Lot} (ho : LOk l) (hl : l.length < 1000) {p : ByteArray} {many day left : Int} (hm : 0 ≤ many ∧ many ≤ 10000000) (hd : -10000 ≤ day ∧ day ≤ 10000) (hle : -10000 ≤ left ∧ left ≤ 10000) (hf : many ≤ freshI l p (day + left)) {ad : Option Addr} {cap n : Nat} (hn : n = l.length) :
    Spec Tryz.prog 43 [Tr.raw (.slice ad n cap), .str p, .int many, .int day, .int left] [Chunk.own ad cap 4 49 (l.map Lot.row)] (fun r cs => r = .pieces (pickR l p many (day + left)).2.2 ∧ cs = [Chunk.own ad cap 4 49 ((pickR l p many (day + left)).1.map Lot.row)]) :=
  Spec.settled1 (taken_fn l ho hl p many day left hm hd hle hf ad cap n hn)
end Lg
end
