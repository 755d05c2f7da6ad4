/- A part of the proof of a law of this seat: it adds no condition. By an AI agent. -/
import Derived.Test.YtmncgklajohcbaaGreatDoorSomeO
section
set_option linter.all false
set_option maxRecDepth 100000
set_option maxHeartbeats 8000000
namespace Lg
open Go Go.Proofs

/-! ### the generators of codes, keys, a window -/
theorem open_boolS : ∀ w A v, Tr.boolS.rd w A v → ∃ x : Bool, True ∧ (Tr.bool x).rd w A v := by
  rintro w A v ⟨b, rfl⟩
  exact ⟨b, trivial, raw_self _⟩
theorem OpV.gtrS_b {P : Program} {Γ : Ctx} {env : Env} {cs : List Chunk} {x y : Operand} {T T2 ty : TypeId} {s u : ByteArray} {r : Bool} (hr : (!(strLt s u || decide (s = u))) = r) (hx : ev env x = some (.str s)) (hy : ev env y = some (.str u)) : OpV P Γ (.binOp .gtr T x y T2) ty env cs (.bool r) := hr ▸ OpV.gtrS hx hy
theorem OpV.notS {P : Program} {Γ : Ctx} {env : Env} {cs : List Chunk} {ty T : TypeId} {s : Nat} (hl : look env s = some Tr.boolS) : OpV P Γ (.unOp .not T (.tmp s)) ty env cs Tr.boolS :=
  OpV.openS hl open_boolS fun x _ => OpV.imp (OpV.not (by show look ((s, Tr.bool x) :: env) s = _; rw [look_cons_same])) (fun w A v h => ⟨!x, rd_raw h⟩)
def lastC (gs : List Cd) (n : Nat) : Prop := (n = 0 ∧ gs.length = 0) ∨ ∃ y : Cd, 0 < n ∧ (gs.map Cd.row)[((n : Int) - 1).toNat]? = some [.int y.at_, .str y.key, .bool y.on]
theorem lastC_of (gs : List Cd) : lastC gs gs.length := by
  by_cases h : gs.length = 0
  · exact .inl ⟨h, h⟩
  · obtain ⟨y, hy⟩ := at_lt (l := gs) (k := gs.length - 1) (by omega)
    refine .inr ⟨y, by omega, ?_⟩
    rw [show ((gs.length : Int) - 1).toNat = gs.length - 1 by omega]
    exact rows_at hy
theorem codes_gen : Gen Tryz.prog 25 4 [] 400 (fun r => ∃ l : List Cd, r = .cds l ∧ l.length ≤ 11) := by
  unfold Gen
  intro b xs N hN
  refine Spec.body Tryz.func4 rfl rfl (Tryz.ntmps4) rfl fun w0 own0 M => ?_
  repeat' (first | refine goH ?_ | refine goV ?_ | refine goB (fun b => ?_) | refine goC (fun ad cap => ?_) | refine goG ?_ | (refine Ops.k_guard ?_; first | (refine Ops.guard_dec rfl rfl (fun hc => ?_) (fun hc => ?_) <;> try (exfalso; omega)) | refine Ops.guard_split rfl rfl (fun hc => ?_) (fun hc => ?_)) | refine goI ?_ | (refine Cw.k_cond ?_; first | (refine Cw.cond_dec rfl (fun hc => ?_) (fun hc => ?_) <;> try (exfalso; omega)) | refine Cw.cond_bool rfl (fun hc => ?_) (fun hc => ?_)) | (refine Ops.k_calla ?_; first | (refine Ops.k_callf 24 ?_; (refine Ops.callG (next_gen _ (by omega)) (Evs.cons rfl (Evs.cons rfl Evs.nil)) goPk (by omega) rfl ?_; rintro r ⟨nn, rfl, hn⟩; unfold InRange at hn))) | refine goR ?_ | refine goP ?_ | apply PSeq.cons | apply PSeq.yes rfl rfl rfl | exact goW | fail)
  have hn2 : 0 ≤ nn ∧ nn < 10 := by omega
  refine Cw.loopI [(0, _), (8, _)] _ (fun q e cc => ∃ (k : Nat) (ad : Option Addr) (cap m : Nat) (gs : List Cd) (at_ : Int) (c : Nat), q = 10 - k ∧ (k ≤ 9 ∧ gs.length = k ∧ m = k ∧ c ≤ N + 1 + 31 * k ∧ 0 ≤ at_ ∧ at_ ≤ 100 * k) ∧ e = [(3, Tr.raw (.slice ad m cap)), (4, .int at_), (9, .int k)] ∧ cc = [Chunk.own ad cap 3 62 (gs.map Cd.row), Chunk.strm 25 b (intRows xs) c])
    ⟨_, _, _, Ent.trans (Ent.nil 3 62) (Ent.mkP goSub goPm), 0, none, 0, 0, [], 0, N + 1, rfl, ⟨by omega, rfl, rfl, by omega, by omega, by omega⟩, rfl, rfl⟩ ?_
  rintro _ _ _ ⟨k, ad, cap, m, gs, at_, c, rfl, ⟨hk, hg, rfl, hc, ha, ha2⟩, rfl, rfl⟩
  have hrl : (gs.map Cd.row).length = m := by rw [List.length_map, hg]
  have key : ∀ (a : Int) (s : ByteArray) (o : Bool), gs.map Cd.row ++ [[Tr.int a, Tr.str s, Tr.bool o]] = (gs ++ [Cd.mk a s o]).map Cd.row := by intro a s o; rw [List.map_append]; rfl
  have hlast := lastC_of gs
  rw [hg] at hlast
  unfold lastC at hlast
  have hlen : ∀ x : Cd, (gs ++ [x]).length = m + 1 := fun x => by rw [List.length_append, hg]; rfl
  generalize hrows : gs.map Cd.row = rows at *
  by_cases hkl : (m : Int) < nn
  · repeat' (first | refine goH ?_ | refine goV ?_ | refine goB (fun b => ?_) | refine goC (fun ad cap => ?_) | refine goG ?_ | (refine Ops.k_guard ?_; first | (refine Ops.guard_dec rfl rfl (fun hc => ?_) (fun hc => ?_) <;> try (exfalso; omega)) | refine Ops.guard_split rfl rfl (fun hc => ?_) (fun hc => ?_)) | refine goI ?_ | (refine Cw.k_cond ?_; first | (refine Cw.cond_dec rfl (fun hc => ?_) (fun hc => ?_) <;> try (exfalso; omega)) | refine Cw.cond_bool rfl (fun hc => ?_) (fun hc => ?_)) | (refine Ops.k_calla ?_; first | (refine Ops.k_callf 25 ?_; (refine Ops.callG (pick_gen (by repeat' (first | exact IsInts.nil | apply IsInts.cons)) (by simp)) (Evs.cons rfl (Evs.cons rfl Evs.nil)) goPk (by omega) rfl ?_; rintro r ⟨v, rfl, hv⟩; simp only [List.mem_cons, List.mem_nil_iff, or_false] at hv; have hv2 : 0 ≤ v ∧ v ≤ 30 := (by omega); clear hv)) | (refine Ops.k_callf 26 ?_; (refine Ops.callG (one_gen (by repeat' (first | exact IsStrs.nil | apply IsStrs.cons)) (by simp)) (Evs.cons rfl (Evs.cons rfl Evs.nil)) goPk (by omega) rfl ?_; rintro r ⟨w, rfl, hw⟩; clear hw)) | (refine Ops.k_callf 27 ?_; (refine Ops.callG (flip_gen _ (by omega)) (Evs.cons rfl (Evs.cons rfl Evs.nil)) goPk (by omega) rfl ?_; rintro r ⟨fl, rfl⟩))) | fail)
    refine Cw.region_strm (m := 28) 1 goPk rfl (by decide +kernel) rfl ?_
    have g1 : ∀ r : Tr, (∃ v, r = .bool v) → ∀ w A v, r.rd w A v → Tr.boolS.rd w A v := by
      rintro r ⟨v, rfl⟩ w A u hu
      exact ⟨v, rd_raw hu⟩
    rcases hlast with ⟨hm0, hg0⟩ | ⟨y, hm1, hrow⟩
    · repeat' (first | refine PSeqH.nil ?_ | apply PSeqH.cons | apply PSeqH.yes rfl rfl rfl | refine PSeqH.no rfl rfl rfl ?_ | refine PSeqH.pass rfl rfl rfl ?_ | exact goX | fail)
      repeat' (first | refine goH ?_ | refine goV ?_ | refine goB (fun b => ?_) | refine goC (fun ad cap => ?_) | refine goG ?_ | (refine Ops.k_guard ?_; first | (refine Ops.guard_dec rfl rfl (fun hc => ?_) (fun hc => ?_) <;> try (exfalso; omega)) | refine Ops.guard_split rfl rfl (fun hc => ?_) (fun hc => ?_)) | refine goI ?_ | (refine Cw.k_cond ?_; first | (refine Cw.cond_dec rfl (fun hc => ?_) (fun hc => ?_) <;> try (exfalso; omega)) | refine Cw.cond_bool rfl (fun hc => ?_) (fun hc => ?_)) | refine goR ?_ | refine goP ?_ | apply PSeq.cons | apply PSeq.yes rfl rfl rfl | exact goW | fail)
      rw [key]
      exact ⟨_, _, _, (Ent.mk goSub goTk), ⟨m + 1, _, _, _, _, _, _, rfl, ⟨by omega, hlen _, by rw [List.length_map]; exact hlen _, by omega, by omega, by omega⟩, rfl, rfl⟩, by omega⟩
    by_cases h1 : y.at_ = at_ + v
    · cases h2 : (!(strLt y.key w || decide (y.key = w))) with
      | false =>
        repeat' (first | refine PSeqH.nil ?_ | apply PSeqH.cons | apply PSeqH.yes rfl rfl rfl | refine PSeqH.no rfl rfl rfl ?_ | refine PSeqH.pass rfl rfl rfl ?_ | (apply OpW.h Row.strm; intro kk; apply OpV.w; exact OpV.gtrS_b h2 rfl rfl) | exact goX | fail)
        repeat' (first | refine goH ?_ | refine goV ?_ | refine goB (fun b => ?_) | refine goC (fun ad cap => ?_) | refine goG ?_ | (refine Ops.k_guard ?_; first | (refine Ops.guard_dec rfl rfl (fun hc => ?_) (fun hc => ?_) <;> try (exfalso; omega)) | refine Ops.guard_split rfl rfl (fun hc => ?_) (fun hc => ?_)) | refine goI ?_ | (refine Cw.k_cond ?_; first | (refine Cw.cond_dec rfl (fun hc => ?_) (fun hc => ?_) <;> try (exfalso; omega)) | refine Cw.cond_bool rfl (fun hc => ?_) (fun hc => ?_)) | refine goR ?_ | refine goP ?_ | apply PSeq.cons | apply PSeq.yes rfl rfl rfl | exact goW | fail)
        rw [key]
        exact ⟨_, _, _, (Ent.mk goSub goTk), ⟨m + 1, _, _, _, _, _, _, rfl, ⟨by omega, hlen _, by rw [List.length_map]; exact hlen _, by omega, by omega, by omega⟩, rfl, rfl⟩, by omega⟩
      | true =>
        repeat' (first | refine PSeqH.nil ?_ | apply PSeqH.cons | apply PSeqH.yes rfl rfl rfl | refine PSeqH.no rfl rfl rfl ?_ | refine PSeqH.pass rfl rfl rfl ?_ | (apply OpW.h Row.strm; intro kk; apply OpV.w; exact OpV.gtrS_b h2 rfl rfl) | exact OpH.callG (flip_gen _ (by omega)) (Nat.le_refl _) (by simp only [List.length_cons, List.length_nil]; omega) (Evs.cons rfl (Evs.cons rfl Evs.nil)) g1 | (apply OpW.h Row.strm; intro kk; apply OpV.w; exact OpV.notS rfl) | exact goX | fail)
        refine Ops.open_slot (i := 53) rfl open_boolS ?_
        rintro q _
        repeat' (first | refine goH ?_ | refine goV ?_ | refine goB (fun b => ?_) | refine goC (fun ad cap => ?_) | refine goG ?_ | (refine Ops.k_guard ?_; first | (refine Ops.guard_dec rfl rfl (fun hc => ?_) (fun hc => ?_) <;> try (exfalso; omega)) | refine Ops.guard_split rfl rfl (fun hc => ?_) (fun hc => ?_)) | refine goI ?_ | (refine Cw.k_cond ?_; first | (refine Cw.cond_dec rfl (fun hc => ?_) (fun hc => ?_) <;> try (exfalso; omega)) | refine Cw.cond_bool rfl (fun hc => ?_) (fun hc => ?_)) | refine goR ?_ | refine goP ?_ | apply PSeq.cons | apply PSeq.yes rfl rfl rfl | exact goW | fail)
        all_goals (rw [key]; exact ⟨_, _, _, (Ent.mk goSub goTk), ⟨m + 1, _, _, _, _, _, _, rfl, ⟨by omega, hlen _, by rw [List.length_map]; exact hlen _, by omega, by omega, by omega⟩, rfl, rfl⟩, by omega⟩)
    · repeat' (first | refine PSeqH.nil ?_ | apply PSeqH.cons | apply PSeqH.yes rfl rfl rfl | refine PSeqH.no rfl rfl rfl ?_ | refine PSeqH.pass rfl rfl rfl ?_ | exact goX | fail)
      repeat' (first | refine goH ?_ | refine goV ?_ | refine goB (fun b => ?_) | refine goC (fun ad cap => ?_) | refine goG ?_ | (refine Ops.k_guard ?_; first | (refine Ops.guard_dec rfl rfl (fun hc => ?_) (fun hc => ?_) <;> try (exfalso; omega)) | refine Ops.guard_split rfl rfl (fun hc => ?_) (fun hc => ?_)) | refine goI ?_ | (refine Cw.k_cond ?_; first | (refine Cw.cond_dec rfl (fun hc => ?_) (fun hc => ?_) <;> try (exfalso; omega)) | refine Cw.cond_bool rfl (fun hc => ?_) (fun hc => ?_)) | refine goR ?_ | refine goP ?_ | apply PSeq.cons | apply PSeq.yes rfl rfl rfl | exact goW | fail)
      rw [key]
      exact ⟨_, _, _, (Ent.mk goSub goTk), ⟨m + 1, _, _, _, _, _, _, rfl, ⟨by omega, hlen _, by rw [List.length_map]; exact hlen _, by omega, by omega, by omega⟩, rfl, rfl⟩, by omega⟩
  · repeat' (first | refine goH ?_ | refine goV ?_ | refine goB (fun b => ?_) | refine goC (fun ad cap => ?_) | refine goG ?_ | (refine Ops.k_guard ?_; first | (refine Ops.guard_dec rfl rfl (fun hc => ?_) (fun hc => ?_) <;> try (exfalso; omega)) | refine Ops.guard_split rfl rfl (fun hc => ?_) (fun hc => ?_)) | refine goI ?_ | (refine Cw.k_cond ?_; first | (refine Cw.cond_dec rfl (fun hc => ?_) (fun hc => ?_) <;> try (exfalso; omega)) | refine Cw.cond_bool rfl (fun hc => ?_) (fun hc => ?_)) | (refine Ops.k_calla ?_; first | (refine Ops.k_callf 25 ?_; (refine Ops.callG (pick_gen (by repeat' (first | exact IsInts.nil | apply IsInts.cons)) (by simp)) (Evs.cons rfl (Evs.cons rfl Evs.nil)) goPk (by omega) rfl ?_; rintro r ⟨v, rfl, hv⟩; clear hv)) | (refine Ops.k_callf 26 ?_; (refine Ops.callG (one_gen (by repeat' (first | exact IsStrs.nil | apply IsStrs.cons)) (by simp)) (Evs.cons rfl (Evs.cons rfl Evs.nil)) goPk (by omega) rfl ?_; rintro r ⟨w, rfl, hw⟩; clear hw)) | (refine Ops.k_callf 27 ?_; (refine Ops.callG (flip_gen _ (by omega)) (Evs.cons rfl (Evs.cons rfl Evs.nil)) goPk (by omega) rfl ?_; rintro r ⟨v, rfl⟩))) | refine goR ?_ | refine goP ?_ | apply PSeq.cons | apply PSeq.yes rfl rfl rfl | exact goW | fail)
    · refine Fin.ret (Ent.trans (Ent.settle (s := 2) rfl goPk rfl) (Ent.strm_only goPk (by omega))) (Outs.one rfl rfl) ⟨rfl, _, congrArg (Tr.sl 3) (key _ _ _), ?_⟩
      rw [hlen]; omega
    · exact Fin.ret (Ent.trans (Ent.settle (s := 2) rfl goPk hrl.symm) (Ent.strm_only goPk (by omega))) (Outs.one rfl rfl) ⟨rfl, gs, congrArg (Tr.sl 3) hrows.symm, by omega⟩
theorem codeKeys_gen : Gen Tryz.prog 25 6 [] 20 (fun r => ∃ l : List ByteArray, r = .strs l ∧ l.length ≤ 11) := by
  unfold Gen
  intro b xs N hN
  refine Spec.body Tryz.func6 rfl rfl (Tryz.ntmps6) rfl fun w0 own0 M => ?_
  repeat' (first | refine goH ?_ | refine goV ?_ | refine goC (fun ad cap => ?_) | refine goI ?_ | (refine Cw.k_cond ?_; first | (refine Cw.cond_dec rfl (fun hc => ?_) (fun hc => ?_) <;> try (exfalso; omega)) | refine Cw.cond_bool rfl (fun hc => ?_) (fun hc => ?_)) | (refine Ops.k_calla ?_; first | (refine Ops.k_callf 28 ?_; (refine Ops.callGO (someO_gen 2 (by omega) [⟨#[100, 111, 111, 114]⟩, ⟨#[104, 101, 97, 116]⟩, ⟨#[106, 97, 109]⟩, ⟨#[110, 111, 110, 101]⟩] (by simp)) (Evs.cons rfl (Evs.cons rfl (Evs.cons rfl Evs.nil))) goPk (by omega) rfl (fun ad cap rows hr => ?_); obtain ⟨l, hrows, hl⟩ := hr; subst hrows; have hrl := strRows_len l)) | (refine Ops.k_callf 26 ?_; (refine Ops.callG (one_gen (by repeat' (first | exact IsStrs.nil | apply IsStrs.cons)) (by simp)) (Evs.cons rfl (Evs.cons rfl Evs.nil)) goPk (by omega) rfl ?_; rintro r ⟨w, rfl, hw⟩; clear hw)) | (refine Ops.k_callf 27 ?_; (refine Ops.callG (flip_gen _ (by omega)) (Evs.cons rfl (Evs.cons rfl Evs.nil)) goPk (by omega) rfl ?_; rintro r ⟨v, rfl⟩))) | fail)
  all_goals (have key : ∀ x : ByteArray, strRows l ++ [[Tr.str x]] = strRows (l ++ [x]) := by intro x; rw [strRows_app]; rfl)
  · refine Fin.ret (Ent.trans (Ent.settle (s := 2) rfl goPk rfl) (Ent.strm_only goPk (by omega))) (Outs.one rfl rfl) ⟨rfl, _, congrArg (Tr.sl 1) (key _), ?_⟩
    rw [List.length_append]; simp; omega
  · refine Fin.ret (Ent.trans (Ent.settle (s := 2) rfl goPk rfl) (Ent.strm_only goPk (by omega))) (Outs.one rfl rfl) ⟨rfl, _, rfl, ?_⟩
    omega
theorem window_gen : Gen Tryz.prog 25 7 [] 6 (fun r => ∃ w : Wn, r = .agg w.row ∧ -1 ≤ w.fr ∧ w.fr ≤ 20 ∧ 8 ≤ w.to ∧ w.to ≤ 5761441) := by
  unfold Gen
  intro b xs N hN
  refine Spec.body Tryz.func7 rfl rfl (Tryz.ntmps7) rfl fun w0 own0 M => ?_
  repeat' (first | refine goH ?_ | refine goV ?_ | refine goB (fun b => ?_) | refine goI ?_ | (refine Cw.k_cond ?_; first | (refine Cw.cond_dec rfl (fun hc => ?_) (fun hc => ?_) <;> try (exfalso; omega)) | refine Cw.cond_bool rfl (fun hc => ?_) (fun hc => ?_)) | (refine Ops.k_calla ?_; first | (refine Ops.k_callf 25 ?_; (refine Ops.callG (pick_gen (by repeat' (first | exact IsInts.nil | apply IsInts.cons)) (by simp)) (Evs.cons rfl (Evs.cons rfl Evs.nil)) goPk (by omega) rfl ?_; rintro r ⟨v, rfl, hv⟩; simp only [List.mem_cons, List.mem_nil_iff, or_false] at hv)) | (refine Ops.k_callf 27 ?_; (refine Ops.callG (flip_gen _ (by omega)) (Evs.cons rfl (Evs.cons rfl Evs.nil)) goPk (by omega) rfl ?_; rintro r ⟨v, rfl⟩))) | fail)
  all_goals (refine Fin.ret (Ent.trans (Ent.setbox (s := 2) rfl goPk) (Ent.strm_only goPk (by omega))) (Outs.sole rfl (by exact OutE.agg inferInstance rfl rfl)) ⟨rfl, ⟨_, _⟩, rfl, by simp only; omega, by simp only; omega, by simp only; omega, by simp only; omega⟩)
end Lg
end
section
set_option linter.all false
set_option maxRecDepth 100000
set_option maxHeartbeats 8000000
namespace Lg
open Go Go.Proofs

/-! ### the generator of rules -/
def RuG (x : Ru) : Prop := (x.nds.length ≤ 10 ∧ x.wo.length ≤ 10) ∧ -1000000000 ≤ x.lng ∧ x.lng ≤ 1000000000
theorem rules_gen : Gen Tryz.prog 25 8 [] 200 (fun r => ∃ l : List Ru, r = .rus l ∧ l.length ≤ 4 ∧ ∀ x ∈ l, RuG x) := by
  unfold Gen
  intro b xs N hN
  refine Spec.body Tryz.func8 rfl rfl (Tryz.ntmps8) rfl fun w0 own0 M => ?_
  repeat' (first | refine goH ?_ | refine goV ?_ | refine goB (fun b => ?_) | refine goC (fun ad cap => ?_) | refine goG ?_ | (refine Ops.k_guard ?_; first | (refine Ops.guard_dec rfl rfl (fun hc => ?_) (fun hc => ?_) <;> try (exfalso; omega)) | refine Ops.guard_split rfl rfl (fun hc => ?_) (fun hc => ?_)) | refine goI ?_ | (refine Cw.k_cond ?_; first | (refine Cw.cond_dec rfl (fun hc => ?_) (fun hc => ?_) <;> try (exfalso; omega)) | refine Cw.cond_bool rfl (fun hc => ?_) (fun hc => ?_)) | (refine Ops.k_calla ?_; first | (refine Ops.k_callf 24 ?_; (refine Ops.callG (next_gen _ (by omega)) (Evs.cons rfl (Evs.cons rfl Evs.nil)) goPk (by omega) rfl ?_; rintro r ⟨nn, rfl, hn⟩; unfold InRange at hn))) | fail)
  have hn2 : 0 ≤ nn ∧ nn < 4 := by omega
  refine Cw.loopI [(0, _), (6, _)] _ (fun q e cc => ∃ (k : Nat) (ad : Option Addr) (cap m : Nat) (gs : List Ru) (c : Nat), q = 4 - k ∧ (k ≤ 3 ∧ gs.length = k ∧ m = k ∧ c ≤ N + 1 + 40 * k ∧ ∀ x ∈ gs, RuG x) ∧ e = [(3, Tr.raw (.slice ad m cap)), (7, .int k)] ∧ cc = [Chunk.own ad cap 4 65 (gs.map Ru.row), Chunk.strm 25 b (intRows xs) c])
    ⟨_, _, _, Ent.trans (Ent.nil 4 65) (Ent.mkP goSub goPm), 0, none, 0, 0, [], N + 1, rfl, ⟨by omega, rfl, rfl, by omega, fun x h => by cases h⟩, rfl, rfl⟩ ?_
  rintro _ _ _ ⟨k, ad, cap, m, gs, c, rfl, ⟨hk, hg, rfl, hc, hB⟩, rfl, rfl⟩
  have hrl : (gs.map Ru.row).length = m := by rw [List.length_map, hg]
  have key1 : ∀ (a : ByteArray) (n w : List ByteArray) (v : Int), gs.map Ru.row ++ [[Tr.str a, Tr.strs n, Tr.strs w, Tr.int v]] = (gs ++ [Ru.mk a n w v]).map Ru.row := by intro a n w v; rw [List.map_append]; rfl
  have key2 : ∀ (a : ByteArray) (w : List ByteArray) (v : Int), gs.map Ru.row ++ [[Tr.str a, Tr.sl 1 [[Tr.raw (Value.string ⟨#[104, 101, 97, 116]⟩)]], Tr.strs w, Tr.int v]] = (gs ++ [Ru.mk a [⟨#[104, 101, 97, 116]⟩] w v]).map Ru.row := by intro a w v; rw [List.map_append]; rfl
  have hlen : ∀ x : Ru, (gs ++ [x]).length = m + 1 := fun x => by rw [List.length_append, hg]; rfl
  have hB2 : ∀ x : Ru, RuG x → ∀ y ∈ gs ++ [x], RuG y := fun x hx y hy => by
    rcases List.mem_append.1 hy with h | h
    · exact hB y h
    · rw [List.mem_singleton.1 h]; exact hx
  by_cases hkl : (m : Int) < nn
  · clear hB
    generalize hrows : gs.map Ru.row = rows at *
    repeat' (first | refine goH ?_ | refine goV ?_ | refine goB (fun b => ?_) | refine goC (fun ad cap => ?_) | refine goG ?_ | (refine Ops.k_guard ?_; first | (refine Ops.guard_dec rfl rfl (fun hc => ?_) (fun hc => ?_) <;> try (exfalso; omega)) | refine Ops.guard_split rfl rfl (fun hc => ?_) (fun hc => ?_)) | refine goI ?_ | (refine Cw.k_cond ?_; first | (refine Cw.cond_dec rfl (fun hc => ?_) (fun hc => ?_) <;> try (exfalso; omega)) | refine Cw.cond_bool rfl (fun hc => ?_) (fun hc => ?_)) | (refine Ops.k_calla ?_; first | (refine Ops.k_callf 25 ?_; (refine Ops.callG (pick_gen (by repeat' (first | exact IsInts.nil | apply IsInts.cons)) (by simp)) (Evs.cons rfl (Evs.cons rfl Evs.nil)) goPk (by omega) rfl ?_; rintro r ⟨v, rfl, hv⟩; simp only [List.mem_cons, List.mem_nil_iff, or_false] at hv; have hv2 : -1000000000 ≤ v ∧ v ≤ 1000000000 := (by omega); clear hv)) | (refine Ops.k_callf 26 ?_; (refine Ops.callG (one_gen (by repeat' (first | exact IsStrs.nil | apply IsStrs.cons)) (by simp)) (Evs.cons rfl (Evs.cons rfl Evs.nil)) goPk (by omega) rfl ?_; rintro r ⟨w, rfl, hw⟩; clear hw)) | (refine Ops.k_callf 27 ?_; (refine Ops.callG (flip_gen _ (by omega)) (Evs.cons rfl (Evs.cons rfl Evs.nil)) goPk (by omega) rfl ?_; rintro r ⟨fl, rfl⟩)) | (refine Ops.k_callf 28 ?_; (refine Ops.callG (someV_gen 2 (by omega) [⟨#[100, 111, 111, 114]⟩, ⟨#[104, 101, 97, 116]⟩] (by simp)) (Evs.cons rfl (Evs.cons rfl (Evs.cons rfl Evs.nil))) goPk (by omega) rfl ?_; rintro r ⟨m1, rfl, hm1⟩)) | (refine Ops.k_callf 28 ?_; (refine Ops.callG (someV_gen 3 (by omega) [⟨#[100, 111, 111, 114]⟩, ⟨#[106, 97, 109]⟩] (by simp)) (Evs.cons rfl (Evs.cons rfl (Evs.cons rfl Evs.nil))) goPk (by omega) rfl ?_; rintro r ⟨m2, rfl, hm2⟩))) | fail)
    all_goals first
      | (rw [key2]; exact ⟨_, _, _, (Ent.mk goSub goTk), ⟨m + 1, _, _, _, _, _, rfl, ⟨by omega, hlen _, by rw [List.length_map]; exact hlen _, by omega, hB2 _ ⟨⟨by simp, hm2⟩, by simp only; omega, by simp only; omega⟩⟩, rfl, rfl⟩, by omega⟩)
      | (rw [key1]; exact ⟨_, _, _, (Ent.mk goSub goTk), ⟨m + 1, _, _, _, _, _, rfl, ⟨by omega, hlen _, by rw [List.length_map]; exact hlen _, by omega, hB2 _ ⟨⟨hm1, hm2⟩, by simp only; omega, by simp only; omega⟩⟩, rfl, rfl⟩, by omega⟩)
  · repeat' (first | refine goH ?_ | refine goV ?_ | refine goB (fun b => ?_) | refine goC (fun ad cap => ?_) | refine goG ?_ | (refine Ops.k_guard ?_; first | (refine Ops.guard_dec rfl rfl (fun hc => ?_) (fun hc => ?_) <;> try (exfalso; omega)) | refine Ops.guard_split rfl rfl (fun hc => ?_) (fun hc => ?_)) | refine goI ?_ | (refine Cw.k_cond ?_; first | (refine Cw.cond_dec rfl (fun hc => ?_) (fun hc => ?_) <;> try (exfalso; omega)) | refine Cw.cond_bool rfl (fun hc => ?_) (fun hc => ?_)) | fail)
    exact Fin.ret (Ent.trans (Ent.settle (s := 2) rfl goPk hrl.symm) (Ent.strm_only goPk (by omega))) (Outs.one rfl rfl) ⟨rfl, gs, rfl, by omega, hB⟩
end Lg
end
section
set_option linter.all false
set_option maxRecDepth 100000
set_option maxHeartbeats 8000000
namespace Lg
open Go Go.Proofs
theorem dropI_ne {a b : List Int} {k : Nat} {x y : Int} (h1 : a[k]? = some x) (h2 : b[k]? = some y) (h : x ≠ y) : a ≠ b := by
  rintro rfl
  rw [h1] at h2
  exact h (Option.some.inj h2)
theorem equalInts_fn (a b : List Int) (ha : a.length ≤ 1000000) (hb : b.length ≤ 1000000) : PFn Tryz.prog 52 [.ints a, .ints b] (· = .bool (decide (a = b))) := by
  refine PFn.mk (Spec.body Tryz.func52 rfl rfl (Tryz.ntmps52) rfl fun w0 own0 M => ?_)
  have hA := intRows_len a
  have hB := intRows_len b
  by_cases hl : a.length = b.length
  rotate_left
  · have e : decide (a = b) = false := decide_eq_false (fun e => hl (by rw [e]))
    repeat' (first | refine goH ?_ | refine goV ?_ | refine goI ?_ | (refine Cw.k_cond ?_; first | (refine Cw.cond_dec rfl (fun hc => ?_) (fun hc => ?_) <;> try (exfalso; omega)) | refine Cw.cond_bool rfl (fun hc => ?_) (fun hc => ?_)) | refine goR ?_ | refine goP ?_ | apply PSeq.cons | apply PSeq.yes rfl rfl rfl | exact goW | fail)
    exact Fin.ret (Ent.take goTk) (Outs.one rfl rfl) ⟨rfl, congrArg Tr.bool e.symm⟩
  repeat' (first | refine goH ?_ | refine goV ?_ | refine goI ?_ | (refine Cw.k_cond ?_; first | (refine Cw.cond_dec rfl (fun hc => ?_) (fun hc => ?_) <;> try (exfalso; omega)) | refine Cw.cond_bool rfl (fun hc => ?_) (fun hc => ?_)) | refine goR ?_ | refine goP ?_ | apply PSeq.cons | apply PSeq.yes rfl rfl rfl | exact goW | fail)
  refine Cw.loopI [(0, _), (1, _), (11, _), (12, _)] _ (fun q e cc => ∃ (k : Nat), q = a.length - k ∧ (k ≤ a.length ∧ ∀ j, j < k → a[j]? = b[j]?) ∧ e = [(13, .int k)] ∧ cc = []) ⟨_, _, _, (Ent.mkP goSub goPm), 0, rfl, ⟨by omega, fun j h => absurd h (by omega)⟩, rfl, rfl⟩ ?_
  rintro _ _ _ ⟨k, rfl, ⟨hk, hV⟩, rfl, rfl⟩
  by_cases hkl : k < a.length
  · obtain ⟨x, hx⟩ := at_lt hkl
    obtain ⟨y, hy⟩ := at_lt (l := b) (k := k) (by omega)
    have hr1 := intRows_at hx
    have hr2 := intRows_at hy
    by_cases hxy : x = y
    · have nx : ∀ j, j < k + 1 → a[j]? = b[j]? := by
        intro j hj
        by_cases e : j = k
        · subst e; rw [hx, hy, hxy]
        · exact hV j (by omega)
      clear hV
      repeat' (first | refine goH ?_ | refine goV ?_ | refine goI ?_ | (refine Cw.k_cond ?_; first | (refine Cw.cond_dec rfl (fun hc => ?_) (fun hc => ?_) <;> try (exfalso; omega)) | refine Cw.cond_bool rfl (fun hc => ?_) (fun hc => ?_)) | refine goR ?_ | refine goP ?_ | apply PSeq.cons | apply PSeq.yes rfl rfl rfl | exact goW | fail)
      all_goals first | exact ⟨_, _, _, (Ent.mk goSub goTk), ⟨k + 1, rfl, ⟨by omega, nx⟩, rfl, rfl⟩, by omega⟩ | (exfalso; omega)
    · have e : decide (a = b) = false := decide_eq_false (dropI_ne hx hy hxy)
      clear hV
      repeat' (first | refine goH ?_ | refine goV ?_ | refine goI ?_ | (refine Cw.k_cond ?_; first | (refine Cw.cond_dec rfl (fun hc => ?_) (fun hc => ?_) <;> try (exfalso; omega)) | refine Cw.cond_bool rfl (fun hc => ?_) (fun hc => ?_)) | refine goR ?_ | refine goP ?_ | apply PSeq.cons | apply PSeq.yes rfl rfl rfl | exact goW | fail)
      all_goals first | exact Fin.ret (Ent.take goTk) (Outs.one rfl rfl) ⟨rfl, congrArg Tr.bool e.symm⟩ | (exfalso; omega)
  · have e : decide (a = b) = true := by
      refine decide_eq_true (List.ext_getElem? fun j => ?_)
      by_cases hj : j < k
      · exact hV j hj
      · rw [List.getElem?_eq_none (by omega), List.getElem?_eq_none (by omega)]
    clear hV
    repeat' (first | refine goH ?_ | refine goV ?_ | refine goI ?_ | (refine Cw.k_cond ?_; first | (refine Cw.cond_dec rfl (fun hc => ?_) (fun hc => ?_) <;> try (exfalso; omega)) | refine Cw.cond_bool rfl (fun hc => ?_) (fun hc => ?_)) | refine goR ?_ | refine goP ?_ | apply PSeq.cons | apply PSeq.yes rfl rfl rfl | exact goW | fail)
    exact Fin.ret (Ent.take goTk) (Outs.one rfl rfl) ⟨rfl, congrArg Tr.bool e.symm⟩
end Lg
end
