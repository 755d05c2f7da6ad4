/- A part of the proof of a law of this seat: it adds no condition. By an AI agent. -/
import Derived.Shelf.SlSortCmp.WholeK
import Derived.Test.YtmfjjdodehimjaaGreatDoorLgSort
import Derived.Test.YtmfjjdodehimjaaGreatDoorLgMap3
import Derived.Test.YtmfjjdodehimjaaGreatDoorMv2
import Derived.Test.YtmfjjdodehimjaaGreatDoorShelf2
section
set_option linter.all false
set_option maxRecDepth 100000
set_option maxHeartbeats 8000000
namespace Lg
open Go Go.Proofs Go.Sort Go.Shelf

/-! ### sorting names, at whatever length -/
instance : TyMap Tryz.prog 69 9 3 (.int .i64 0) := ⟨Tryz.underlying69, ⟨_, rfl, rfl⟩⟩
instance : KeyTy Tryz.prog 9 Value.string := KeyTy.str Tryz.underlying9
theorem Imp.aggV {vs : List Value} (h : ∀ v ∈ vs, v.oneCell' = true) : Imp (Tr.raw (.agg vs.toArray)) (.agg (vs.map Tr.raw)) := by
  intro w A v hv
  have := rd_raw hv
  subst this
  unfold Tr.agg
  exact ⟨vs, rfl, rdc_raw h⟩
theorem PFn.impA {P : Program} {f : FuncId} {ts ts' : List Tr} {R : Tr → Prop} (hi : ImpL ts ts') (h : PFn P f ts' R) : PFn P f ts R := by
  unfold PFn Spec at h ⊢
  exact ⟨h.1, fun M w vs hv => h.2 M w vs (hi.rdl hv)⟩
def cfN (a b : Nm) : Int := cmpS a.key b.key
theorem ltN_iff (a b : Nm) : ltOf cfN a b = true ↔ a.lt b := by
  unfold ltOf cfN Nm.lt
  rw [decide_eq_true_iff, cmpS_lt]
theorem ltN_nf (a b : Nm) : ltOf cfN a b = false ↔ ¬ a.lt b := by
  rw [← ltN_iff, Bool.not_eq_true]
theorem swo_N : SWO (ltOf cfN) := by
  refine ⟨fun x => ?_, fun x y z h1 h2 => ?_, fun x y z h1 h2 => ?_⟩
  · rw [ltN_nf]; unfold Nm.lt; rw [strLt_irrefl]; simp
  · rw [ltN_iff] at *; exact strLt_trans h1 h2
  · rw [ltN_nf] at *
    unfold Nm.lt at *
    intro h
    have h1' : strLt x.key y.key = false := by simpa using h1
    have h2' : strLt y.key z.key = false := by simpa using h2
    cases h3 : strLt y.key x.key with
    | true => rw [strLt_trans h3 h] at h2'; cases h2'
    | false => rw [strLt_tri h3 h1'] at h2'; rw [h] at h2'; cases h2'
abbrev encN (x : Nm) : List Value := [.string x.key, .int .i64 x.many]
theorem encN_one (x : Nm) : ∀ v ∈ encN x, v.oneCell' = true := by
  intro v hv
  rcases List.mem_cons.1 hv with rfl | hv
  · rfl
  · rcases List.mem_cons.1 hv with rfl | hv
    · rfl
    · cases hv
instance : Inhabited Nm := ⟨nm0⟩
theorem sortNmK {g : Nat} (hg : ∀ x y : Nm, PFn Tryz.prog g [.agg x.row, .agg y.row] (· = .int (cmpS x.key y.key))) (us : List Nm) (hu : us.length ≤ 1000000) (hn : (us.map Nm.key).Nodup) (ad : Option Addr) (cap : Nat) : Spec Tryz.prog 75 [Tr.raw (.slice ad us.length cap), Tr.raw (.func (.func g) #[] #[])] [Chunk.own ad cap 2 44 (us.map Nm.row)]
    (fun r cs => r = Tr.tup [] ∧ cs = [Chunk.own ad cap 2 44 ((isort nmLt us).map Nm.row)]) := by
  by_cases h0 : us = []
  · subst h0
    exact sortFunc_nm (ad := ad) (cap := cap) (n := 0) (xs := []) (g := g) (caps := []) (cin := []) (lt := nmLt) (cf := fun a b => cmpS a.key b.key) nmLt_c (by simp) rfl (fun a b ha hb => by cases ha)
  · have hp : 1 ≤ us.length := by
      cases us with
      | nil => exact absurd rfl h0
      | cons a rest => simp
    have h := sortFuncK Tryz.sortNm (k := 2) (by omega) Tryz.isAgg44 Tryz.sizeOf44 encN (fun _ => rfl) encN_one cfN swo_N (g := g) (bx := []) (fun x y => (hg x y).impA (.cons (Imp.aggV (encN_one x)) (.cons (Imp.aggV (encN_one y)) .nil))) (ad := ad) (cap := cap) (E := 44) (xs := us) (n := us.length) rfl hp (by omega)
    refine Spec.mono h ?_
    rintro r cs ⟨ys, rfl, rfl, hperm, hsort⟩
    have e := nm_sorted_uniq hperm (hsort.imp fun h => (ltN_nf _ _).1 h) hn
    subst e
    exact ⟨rfl, rfl⟩
theorem nmLtD_fn (x y : Nm) : PFn Tryz.prog 76 [.agg x.row, .agg y.row] (· = .int (cmpS x.key y.key)) := by
  have k1 := compareS_fn x.key y.key
  unfold Nm.row
  refine PFn.mk (Spec.body Tryz.func76 rfl rfl (Tryz.ntmps76) rfl fun w0 own0 M => ?_)
  repeat' (first | refine goH ?_ | refine goV ?_ | refine goB (fun b => ?_) | refine goI ?_ | (refine Cw.k_cond ?_; first | (refine Cw.cond_dec rfl (fun hc => ?_) (fun hc => ?_) <;> try (exfalso; omega)) | refine Cw.cond_bool rfl (fun hc => ?_) (fun hc => ?_)) | (refine Ops.k_calla ?_; first | (refine Ops.k_callf 73 ?_; refine Ops.callV k1 (Evs.cons rfl (Evs.cons rfl Evs.nil)) rfl ?_)) | fail)
  exact Fin.ret (Ent.take goTk) (Outs.one rfl rfl) ⟨rfl, rfl⟩
/-! ### sums and names -/
theorem smF_step {l : List Mv} {k : Nat} {x : Mv} {m : PS} (hx : l[k]? = some x) (hV : smV l = sumM m ((l.drop k).map mvP)) : smV l = sumM (mUp x.ware (mI x.ware m + x.many) m) ((l.drop (k + 1)).map mvP) := by
  rw [hV, drop_at hx]
  rfl
theorem sums_fn (l : List Mv) (hl : l.length ≤ 1000000) (hb : ∀ x ∈ l, -1000 ≤ x.many ∧ x.many ≤ 1000) : Spec Tryz.prog 43 [.mvs l] [] (fun r cs => ∃ b, r = .raw (.map (some b)) ∧ cs = [Chunk.mp Value.string b (tkv (smV l))]) := by
  have hL : (l.map Mv.row).length = l.length := List.length_map _
  refine Spec.body Tryz.func43 rfl rfl (Tryz.ntmps43) rfl fun w0 own0 M => ?_
  repeat' (first | refine goH ?_ | (refine Ops.k_makeMap ?_; first | (refine Ops.makeMap Value.string rfl (fun b => ?_))) | refine goV ?_ | refine goB (fun b => ?_) | refine goI ?_ | (refine Cw.k_cond ?_; first | (refine Cw.cond_dec rfl (fun hc => ?_) (fun hc => ?_) <;> try (exfalso; omega)) | refine Cw.cond_bool rfl (fun hc => ?_) (fun hc => ?_)) | fail)
  refine Cw.loopI [(3, _), (7, _), (8, _)] _ (fun q e c => ∃ (k : Nat) (m : List (ByteArray × Int)), q = l.length - k ∧ (k ≤ l.length ∧ smV l = sumM m ((l.drop k).map mvP) ∧ mBd ((k : Int) * 1000) m) ∧ e = [(9, .int k)] ∧ c = [Chunk.mp Value.string b (tkv m)])
    ⟨_, _, _, (Ent.mkP goSub goPm), 0, [], rfl, ⟨by omega, rfl, fun q hq => by cases hq⟩, rfl, rfl⟩ ?_
  rintro _ _ _ ⟨k, m, rfl, ⟨hk, hV, hm⟩, rfl, rfl⟩
  by_cases hkl : k < l.length
  · obtain ⟨x, hx⟩ := at_lt hkl
    have hrow : (l.map Mv.row)[k]? = some [.str x.site, .int x.no, .int x.day, .str x.ware, .int x.many] := rows_at hx
    have hxm := hb x (List.mem_of_getElem? hx)
    have hV2 := smF_step hx hV
    have hvv := hm.val (by omega) x.ware
    have hadd : mBd (((k + 1 : Nat) : Int) * 1000) (mUp x.ware (mI x.ware m + x.many) m) := by
      have := hm.add (by omega) x.ware hxm
      unfold mAdd at this
      rwa [show ((k + 1 : Nat) : Int) * 1000 = (k : Int) * 1000 + 1000 by omega]
    clear hm hx hV
    repeat' (first | refine goH ?_ | (refine Ops.k_lookup ?_; first | (refine Ops.lookup rfl rfl goPk rfl ?_; rw [tkv_read])) | (refine Ops.k_mapUpdate ?_; first | (refine Ops.mapUpdate rfl rfl rfl goPk ?_; rw [tkv_set])) | refine goV ?_ | refine goB (fun b => ?_) | refine goI ?_ | (refine Cw.k_cond ?_; first | (refine Cw.cond_dec rfl (fun hc => ?_) (fun hc => ?_) <;> try (exfalso; omega)) | refine Cw.cond_bool rfl (fun hc => ?_) (fun hc => ?_)) | fail)
    exact ⟨_, _, _, (Ent.mk goSub goTk), ⟨k + 1, _, rfl, ⟨by omega, hV2, hadd⟩, rfl, rfl⟩, by omega⟩
  · rw [List.drop_of_length_le (by omega), List.map_nil, sumM] at hV
    rw [hV]
    repeat' (first | refine goH ?_ | refine goV ?_ | refine goB (fun b => ?_) | refine goI ?_ | (refine Cw.k_cond ?_; first | (refine Cw.cond_dec rfl (fun hc => ?_) (fun hc => ?_) <;> try (exfalso; omega)) | refine Cw.cond_bool rfl (fun hc => ?_) (fun hc => ?_)) | fail)
    exact Fin.ret (Ent.take goTk) (Outs.one rfl rfl) ⟨_, rfl, rfl⟩
theorem snoc_N (g : PS) (p : ByteArray × Int) : (g.map mkN).map Nm.row ++ [[Tr.str p.1, Tr.int p.2]] = ((g ++ [p]).map mkN).map Nm.row := by simp [mkN, Nm.row]
theorem isortN_perm {g m : PS} (hg : m.Perm g) (hn : (m.map Prod.fst).Nodup) : isort nmLt (g.map mkN) = isort nmLt (m.map mkN) :=
  named_uniq (isort_perm nmLt _) (isortN_sorted _) hg hn
theorem named_fn (m : PS) (hl : m.length ≤ 100000) (hn : (m.map Prod.fst).Nodup) (b : Nat) : Spec Tryz.prog 42 [.raw (.map (some b))] [Chunk.mp Value.string b (tkv m)] (fun r cs => ∃ ad cap, r = Tr.raw (.slice ad (isort nmLt (m.map mkN)).length cap) ∧ cs = [Chunk.own ad cap 2 44 ((isort nmLt (m.map mkN)).map Nm.row)]) := by
  refine Spec.body Tryz.func42 rfl rfl (Tryz.ntmps42) rfl fun w0 own0 M => ?_
  repeat' (first | refine goH ?_ | (refine Ops.k_range ?_; first | (refine Ops.range rfl goPk rfl (fun r => ?_))) | refine goV ?_ | refine goC (fun ad cap => ?_) | refine goI ?_ | (refine Cw.k_cond ?_; first | (refine Cw.cond_dec rfl (fun hc => ?_) (fun hc => ?_) <;> try (exfalso; omega)) | refine Cw.cond_bool rfl (fun hc => ?_) (fun hc => ?_)) | fail)
  refine Cw.loopI [(7, _)] _ (fun q e c => ∃ (g left : PS) (ad : Option Addr) (cap : Nat) (rows : List (List Tr)), q = left.length ∧ (m.Perm (g ++ left) ∧ rows = (g.map mkN).map Nm.row ∧ rows.length = g.length) ∧ e = [(3, Tr.raw (.slice ad rows.length cap))] ∧ c = [Chunk.rg Value.string b r (tkv m) (tkv left), Chunk.own ad cap 2 44 rows])
    ⟨_, _, _, Ent.trans (Ent.nil 2 44) (Ent.mkP goSub goPm), [], m, none, 0, [], rfl, ⟨List.Perm.refl _, rfl, rfl⟩, rfl, rfl⟩ ?_
  rintro _ _ _ ⟨g, left, ad, cap, rows, rfl, ⟨hp, hrows, hrl⟩, rfl, rfl⟩
  have hgl : g.length ≤ 100000 := by have := hp.length_eq; simp at this; omega
  repeat' (first | refine goH ?_ | ((fail_if_success refine Ops.k_next ?_); refine goV ?_) | ((fail_if_success refine Ops.k_next ?_); refine goC (fun ad cap => ?_)) | refine goI ?_ | (refine Cw.k_cond ?_; first | (refine Cw.cond_dec rfl (fun hc => ?_) (fun hc => ?_) <;> try (exfalso; omega)) | refine Cw.cond_bool rfl (fun hc => ?_) (fun hc => ?_)) | fail)
  refine Ops.k_next ?_
  refine Ops.nextC rfl goPk rfl (fun hl0 => ?_) (fun j a t hj => ?_)
  · have hl0 := tkv_nil hl0
    subst hl0
    rw [List.append_nil] at hp
    have hng : ((g.map mkN).map Nm.key).Nodup := by rw [key_mkN]; exact (hp.map Prod.fst).nodup_iff.1 hn
    have hrl2 : rows.length = (g.map mkN).length := by rw [hrl, List.length_map]
    have kS := fun ad cap => sortNmK nmLtD_fn (g.map mkN) (by rw [List.length_map]; omega) hng ad cap
    rw [isortN_perm hp hn] at kS
    have hlen : (g.map mkN).length = (isort nmLt (m.map mkN)).length := by rw [← isortN_perm hp hn, isort_len]
    rw [hrl2]
    subst hrows
    repeat' (first | refine goH ?_ | refine goV ?_ | refine goC (fun ad cap => ?_) | refine goI ?_ | (refine Cw.k_cond ?_; first | (refine Cw.cond_dec rfl (fun hc => ?_) (fun hc => ?_) <;> try (exfalso; omega)) | refine Cw.cond_bool rfl (fun hc => ?_) (fun hc => ?_)) | (refine Ops.k_calla ?_; first | (refine Ops.k_callf 75 ?_; (refine Ops.call (kS _ _) (Evs.cons rfl (Evs.cons rfl Evs.nil)) goPm rfl ?_; rintro r cs' ⟨rfl, rfl⟩))) | fail)
    rw [hlen]
    exact Fin.ret (Ent.take goTk) (Outs.one rfl rfl) ⟨_, _, rfl, rfl⟩
  · obtain ⟨v, hjv, rfl⟩ := tkv_at hj
    rw [tkv_erase]
    have hp2 := eraseIdx_snoc hp hjv
    have hlen := eraseIdx_len hjv
    have hrow := snoc_N g (a, v)
    rw [← hrows] at hrow
    simp only at hrow
    repeat' (first | refine goH ?_ | (refine Ops.k_entry ?_; first | (refine Ops.entry rfl goPk rfl ?_)) | refine goV ?_ | refine goC (fun ad cap => ?_) | refine goI ?_ | (refine Cw.k_cond ?_; first | (refine Cw.cond_dec rfl (fun hc => ?_) (fun hc => ?_) <;> try (exfalso; omega)) | refine Cw.cond_bool rfl (fun hc => ?_) (fun hc => ?_)) | fail)
    exact ⟨_, _, _, (Ent.mk goSub goTk), ⟨g ++ [(a, v)], _, _, _, _, rfl, ⟨hp2, hrow, by simp [hrl]⟩, rfl, rfl⟩, by omega⟩
theorem shelf_fn (l : List Mv) (hl : l.length ≤ 100000) (hno : NoBd l) : PFn Tryz.prog 11 [.mvs l] (· = .tup [.nms (if (mvsE l).2 ≠ 0 then [] else shV l), .int (mvsE l).2]) := by
  have k1 := checkShelf_fn l (by omega) hno
  by_cases h : (mvsE l).2 ≠ 0
  · rw [if_pos h]
    generalize mvsE l = E at *
    refine PFn.mk (Spec.body Tryz.func11 rfl rfl (Tryz.ntmps11) rfl fun w0 own0 M => ?_)
    repeat' (first | refine goH ?_ | refine goV ?_ | refine goI ?_ | (refine Cw.k_cond ?_; first | (refine Cw.cond_dec rfl (fun hc => ?_) (fun hc => ?_) <;> try (exfalso; omega)) | refine Cw.cond_bool rfl (fun hc => ?_) (fun hc => ?_)) | (refine Ops.k_calla ?_; first | (refine Ops.k_callf 9 ?_; refine Ops.callV k1 (Evs.cons rfl Evs.nil) rfl ?_)) | fail)
    refine Fin.ret (Ent.trans (Ent.nilsl 2 (s := 2) rfl) (Ent.take goTk)) (Outs.many rfl (OutL.cons goOe (OutL.cons goOe OutL.nil)) rfl) ⟨rfl, rfl⟩
  · rw [if_neg h]
    have h0 : (mvsE l).2 = 0 := by omega
    rw [h0] at k1
    have k2 := sums_fn l (by omega) (mvsE_ok h0)
    have k3 := fun b => named_fn (smV l) (by have := smV_len l; omega) (smV_nodup l) b
    rw [h0]
    refine PFn.mk (Spec.body Tryz.func11 rfl rfl (Tryz.ntmps11) rfl fun w0 own0 M => ?_)
    repeat' (first | refine goH ?_ | refine goV ?_ | refine goI ?_ | (refine Cw.k_cond ?_; first | (refine Cw.cond_dec rfl (fun hc => ?_) (fun hc => ?_) <;> try (exfalso; omega)) | refine Cw.cond_bool rfl (fun hc => ?_) (fun hc => ?_)) | (refine Ops.k_calla ?_; first | (refine Ops.k_callf 9 ?_; refine Ops.callV k1 (Evs.cons rfl Evs.nil) rfl ?_) | (refine Ops.k_callf 43 ?_; (refine Ops.call k2 (Evs.cons rfl Evs.nil) goPm rfl ?_; rintro r cs' ⟨b, rfl, rfl⟩)) | (refine Ops.k_callf 42 ?_; (refine Ops.call (k3 _) (Evs.cons rfl Evs.nil) goPm rfl ?_; rintro r cs' ⟨ad, cap, rfl, rfl⟩))) | fail)
    rw [show isort nmLt ((smV l).map mkN) = shV l from rfl, ← List.length_map (f := Nm.row)]
    refine Fin.ret (Ent.trans (Ent.settle (s := 2) rfl goPk rfl) (Ent.take goTk)) (Outs.many rfl (OutL.cons goOe (OutL.cons goOe OutL.nil)) rfl) ⟨rfl, rfl⟩
end Lg
end
section
set_option linter.all false
set_option maxRecDepth 100000
set_option maxHeartbeats 8000000
namespace Lg
open Go Go.Proofs

/-! ### moves compared -/
def eqIB (a b : Int) : Bool := a == b
def eqSB (a b : ByteArray) : Bool := a == b
theorem eqI0 (n : Nat) (a b : Int) (w : World) : (Op.equalIn (n + 1) 3 (.int .i64 a) (.int .i64 b)).run Tryz.prog w = .ok (eqIB a b) w := by
  simp [Op.equalIn, run_underlying Tryz.underlying3, eqIB]
theorem eqS0 (n : Nat) (a b : ByteArray) (w : World) : (Op.equalIn (n + 1) 9 (.string a) (.string b)).run Tryz.prog w = .ok (eqSB a b) w := by
  simp [Op.equalIn, run_underlying Tryz.underlying9, eqSB]
theorem mv_eq0 (n : Nat) (s1 w1 s2 w2 : ByteArray) (n1 d1 m1 n2 d2 m2 : Int) (w : World) : (Op.equalIn (n + 1 + 1) 48 (.agg #[.string s1, .int .i64 n1, .int .i64 d1, .string w1, .int .i64 m1]) (.agg #[.string s2, .int .i64 n2, .int .i64 d2, .string w2, .int .i64 m2])).run Tryz.prog w
    = .ok (eqSB s1 s2 && (eqIB n1 n2 && (eqIB d1 d2 && (eqSB w1 w2 && eqIB m1 m2)))) w := by
  have hs : Tryz.prog.stoodInHeld 48 = false := by kernel_rfl
  rw [Op.equalIn]
  have g1 := fun w => eqS0 n s1 s2 w
  have g2 := fun w => eqI0 n n1 n2 w
  have g3 := fun w => eqI0 n d1 d2 w
  have g4 := fun w => eqS0 n w1 w2 w
  have g5 := fun w => eqI0 n m1 m2 w
  generalize eqSB s1 s2 = e1 at *
  generalize eqIB n1 n2 = e2 at *
  generalize eqIB d1 d2 = e3 at *
  generalize eqSB w1 w2 = e4 at *
  generalize eqIB m1 m2 = e5 at *
  cases e1
  · simp [run_underlying Tryz.underlying48, run_underlying Tryz.underlying3, run_underlying Tryz.underlying9, hs, part, Go.sizeOf, typeInfo, g1]
  cases e2
  · simp [run_underlying Tryz.underlying48, run_underlying Tryz.underlying3, run_underlying Tryz.underlying9, hs, part, Go.sizeOf, typeInfo, g1, g2]
  cases e3
  · simp [run_underlying Tryz.underlying48, run_underlying Tryz.underlying3, run_underlying Tryz.underlying9, hs, part, Go.sizeOf, typeInfo, g1, g2, g3]
  cases e4
  · simp [run_underlying Tryz.underlying48, run_underlying Tryz.underlying3, run_underlying Tryz.underlying9, hs, part, Go.sizeOf, typeInfo, g1, g2, g3, g4]
  cases e5
  all_goals simp [run_underlying Tryz.underlying48, run_underlying Tryz.underlying3, run_underlying Tryz.underlying9, hs, part, Go.sizeOf, typeInfo, g1, g2, g3, g4, g5]
theorem mv_dec (a b : Mv) : (eqSB a.site b.site && (eqIB a.no b.no && (eqIB a.day b.day && (eqSB a.ware b.ware && eqIB a.many b.many)))) = decide (a = b) := by
  unfold eqSB eqIB
  rw [ba_beq, ba_beq]
  obtain ⟨s, n, d, x, m⟩ := a
  obtain ⟨s2, n2, d2, x2, m2⟩ := b
  rw [Bool.eq_iff_iff]
  simp
abbrev mvV (a : Mv) : List Value := [.string a.site, .int .i64 a.no, .int .i64 a.day, .string a.ware, .int .i64 a.many]
theorem mv_eq1 (a b : Mv) (w : World) : (binOp .eql 48 (.agg (mvV a).toArray) (.agg (mvV b).toArray)).run Tryz.prog w = .ok (.bool (decide (a = b))) w := by
  show (do let r ← Op.equalIn (9998 + 1 + 1) 48 _ _; pure (Value.bool r) : Sem Value).run Tryz.prog w = _
  have := mv_eq0 9998 a.site a.ware b.site b.ware a.no a.day a.many b.no b.day b.many w
  rw [mv_dec] at this
  generalize Op.equalIn (9998 + 1 + 1) 48 (.agg #[.string a.site, .int .i64 a.no, .int .i64 a.day, .string a.ware, .int .i64 a.many]) (.agg #[.string b.site, .int .i64 b.no, .int .i64 b.day, .string b.ware, .int .i64 b.many]) = s at *
  simp [this]
theorem mv_ne1 (a b : Mv) (w : World) : (binOp .neq 48 (.agg (mvV a).toArray) (.agg (mvV b).toArray)).run Tryz.prog w = .ok (.bool (!decide (a = b))) w := by
  show (do let r ← Op.equalIn (9998 + 1 + 1) 48 _ _; pure (Value.bool !r) : Sem Value).run Tryz.prog w = _
  have := mv_eq0 9998 a.site a.ware b.site b.ware a.no a.day a.many b.no b.day b.many w
  rw [mv_dec] at this
  generalize Op.equalIn (9998 + 1 + 1) 48 (.agg #[.string a.site, .int .i64 a.no, .int .i64 a.day, .string a.ware, .int .i64 a.many]) (.agg #[.string b.site, .int .i64 b.no, .int .i64 b.day, .string b.ware, .int .i64 b.many]) = s at *
  simp [this]
section
variable {Γ : Ctx} {env : Env} {cs : List Chunk} {x y : Operand} {T2 ty : TypeId}
theorem OpV.mv_eqv {a b : Mv} {r : Bool} (hr : decide (a = b) = r) (hx : ev env x = some (.agg a.row)) (hy : ev env y = some (.agg b.row)) : OpV Tryz.prog Γ (.binOp .eql 48 x y T2) ty env cs (.bool r) := by
  subst hr
  unfold OpV
  intro ac w d
  have h1 := agg_raw (l := mvV a) (d.ev hx)
  have h2 := agg_raw (l := mvV b) (d.ev hy)
  have h3 := mv_eq1 a b w
  have h4 : (eqGuard .eql 48 x y (.agg (mvV a).toArray) (.agg (mvV b).toArray)).run Tryz.prog w = .ok () w := by simp [eqGuard]
  exact ⟨.bool (decide (a = b)), by simp [execOp, h1, h2, h3, h4], by unfold Tr.bool Tr.raw; rfl⟩
theorem OpV.mv_nev {a b : Mv} {r : Bool} (hr : decide (a = b) = r) (hx : ev env x = some (.agg a.row)) (hy : ev env y = some (.agg b.row)) : OpV Tryz.prog Γ (.binOp .neq 48 x y T2) ty env cs (.bool (!r)) := by
  subst hr
  unfold OpV
  intro ac w d
  have h1 := agg_raw (l := mvV a) (d.ev hx)
  have h2 := agg_raw (l := mvV b) (d.ev hy)
  have h3 := mv_ne1 a b w
  have h4 : (eqGuard .neq 48 x y (.agg (mvV a).toArray) (.agg (mvV b).toArray)).run Tryz.prog w = .ok () w := by simp [eqGuard]
  exact ⟨.bool (!decide (a = b)), by simp [execOp, h1, h2, h3, h4], by unfold Tr.bool Tr.raw; rfl⟩
end
end Lg
end
section
set_option linter.all false
set_option maxRecDepth 100000
set_option maxHeartbeats 1000000
namespace Lg
open Go

theorem dd_short {α : Type} [DecidableEq α] {l : List α} (h : l.length < 2) : dd l = l := by
  rcases l with _ | ⟨a, _ | ⟨b, l⟩⟩
  · rfl
  · rfl
  · simp at h; omega
theorem dd_snoc {α : Type} [DecidableEq α] (a b : α) : ∀ l : List α, dd (l ++ [a] ++ [b]) = if a = b then dd (l ++ [a]) else dd (l ++ [a]) ++ [b]
  | [] => by
    show dd [a, b] = _
    by_cases h : a = b
    · rw [if_pos h, dd, if_pos h, h]; rfl
    · rw [if_neg h, dd, if_neg h]; rfl
  | [c] => by
    have ih := dd_snoc a b []
    simp only [List.nil_append] at ih
    show dd (c :: a :: [b]) = _
    rw [show dd ([c] ++ [a]) = if c = a then dd [a] else c :: dd [a] from rfl]
    have e : dd (c :: a :: [b]) = if c = a then dd (a :: [b]) else c :: dd (a :: [b]) := rfl
    rw [e]
    have ih2 : dd (a :: [b]) = if a = b then dd [a] else dd [a] ++ [b] := ih
    rw [ih2]
    by_cases h1 : c = a <;> by_cases h2 : a = b <;> simp [h1, h2]
  | c :: d :: l => by
    have ih := dd_snoc a b (d :: l)
    have e : ∀ m : List α, dd (c :: d :: m) = if c = d then dd (d :: m) else c :: dd (d :: m) := fun m => rfl
    show dd (c :: d :: (l ++ [a] ++ [b])) = if a = b then dd (c :: d :: (l ++ [a])) else dd (c :: d :: (l ++ [a])) ++ [b]
    rw [e, e]
    have ih2 : dd (d :: (l ++ [a] ++ [b])) = if a = b then dd (d :: (l ++ [a])) else dd (d :: (l ++ [a])) ++ [b] := ih
    rw [ih2]
    by_cases h1 : c = d <;> by_cases h2 : a = b <;> simp [h1, h2]
theorem dd_take {α : Type} [DecidableEq α] {L : List α} {k : Nat} {a b : α} (hk : 1 ≤ k) (ha : L[k - 1]? = some a) (hb : L[k]? = some b) : dd (L.take (k + 1)) = if a = b then dd (L.take k) else dd (L.take k) ++ [b] := by
  have e1 : L.take k = L.take (k - 1) ++ [a] := by
    have := take_at ha
    rwa [show k - 1 + 1 = k by omega] at this
  rw [take_at hb, e1]
  exact dd_snoc a b _
theorem dd_go {α : Type} [DecidableEq α] {L : List α} {k : Nat} {a b : α} (hk : 1 ≤ k) (ha : L[k - 1]? = some a) (hb : L[k]? = some b) (hd : dd (L.take k) = L.take k) (h : a ≠ b) : dd (L.take (k + 1)) = L.take (k + 1) := by
  rw [dd_take hk ha hb, if_neg h, hd, take_at hb]
theorem dd_le {α : Type} [DecidableEq α] : ∀ (l : List α), (dd l).length ≤ l.length
  | [] => Nat.le_refl _
  | [_] => Nat.le_refl _
  | a :: b :: l => by
    have ih := dd_le (b :: l)
    unfold dd
    split
    · simp only [List.length_cons] at ih ⊢; omega
    · simp only [List.length_cons] at ih ⊢; omega
/-- what memory holds while a slice is made compact: m taken, the first j of L seen -/
structure Cpt {α : Type} [DecidableEq α] (L W : List α) (m j : Nat) : Prop where
  len : W.length = L.length
  hm : m = (dd (L.take j)).length
  lt : m < j
  hj : j ≤ L.length
  done : W.take m = dd (L.take j)
  rest : W.drop (j - 1) = L.drop (j - 1)
theorem dd_dup {α : Type} [DecidableEq α] {L : List α} {k : Nat} {a : α} (hk : 1 ≤ k) (ha : L[k - 1]? = some a) (hb : L[k]? = some a) (hd : dd (L.take k) = L.take k) : Cpt L L k (k + 1) := by
  have hlt := (List.getElem?_eq_some_iff.1 hb).1
  have e : dd (L.take (k + 1)) = L.take k := by rw [dd_take hk ha hb, if_pos rfl, hd]
  exact ⟨rfl, by rw [e, List.length_take]; omega, by omega, by omega, by rw [e], rfl⟩
theorem Cpt.at0 {α : Type} [DecidableEq α] {L W : List α} {m j q : Nat} (h : Cpt L W m j) (hq : j - 1 ≤ q) : W[q]? = L[q]? := by
  have := congrArg (fun l => l[q - (j - 1)]?) h.rest
  simp only [List.getElem?_drop] at this
  rwa [show j - 1 + (q - (j - 1)) = q by omega] at this
theorem Cpt.same {α : Type} [DecidableEq α] {L W : List α} {m j : Nat} {a : α} (h : Cpt L W m j) (ha : L[j - 1]? = some a) (hb : L[j]? = some a) : Cpt L W m (j + 1) := by
  have hlt := (List.getElem?_eq_some_iff.1 hb).1
  have hj : 1 ≤ j := by have := h.lt; omega
  have e : dd (L.take (j + 1)) = dd (L.take j) := by rw [dd_take hj ha hb, if_pos rfl]
  refine ⟨h.len, by rw [e]; exact h.hm, by have := h.lt; omega, by omega, by rw [e]; exact h.done, ?_⟩
  have := congrArg (List.drop 1) h.rest
  rw [List.drop_drop, List.drop_drop] at this
  rwa [show j - 1 + 1 = j + 1 - 1 by omega] at this
theorem Cpt.new {α : Type} [DecidableEq α] {L W : List α} {m j : Nat} {a b : α} (h : Cpt L W m j) (ha : L[j - 1]? = some a) (hb : L[j]? = some b) (hab : a ≠ b) : Cpt L (W.set m b) (m + 1) (j + 1) := by
  have hlt := (List.getElem?_eq_some_iff.1 hb).1
  have hl := h.lt
  have hj : 1 ≤ j := by omega
  have hw := h.len
  have e : dd (L.take (j + 1)) = dd (L.take j) ++ [b] := by rw [dd_take hj ha hb, if_neg hab]
  refine ⟨by rw [List.length_set]; exact h.len, by rw [e, List.length_append, ← h.hm]; rfl, by omega, by omega, ?_, ?_⟩
  · rw [e, ← h.done]
    have hg : (W.set m b)[m]? = some b := List.getElem?_set_self (by omega)
    rw [take_at hg, List.take_set, List.set_eq_of_length_le (by rw [List.length_take]; omega)]
  · rw [List.drop_set, if_pos (by omega)]
    have := congrArg (List.drop 1) h.rest
    rw [List.drop_drop, List.drop_drop] at this
    rwa [show j - 1 + 1 = j + 1 - 1 by omega] at this
end Lg
end
