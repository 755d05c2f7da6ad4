/- A part of the proof of a law of this seat: it adds no condition. By an AI agent. -/
import Derived.Test.YtfecflnngkhneaaDoorAge2
import Derived.Test.YtfecflnngkhneaaDoorAge3
set_option linter.all false
set_option maxRecDepth 100000
set_option maxHeartbeats 4000000
namespace Lg
open Go Go.Proofs

def expsU (l : List Lot) (us : List ByteArray) : List Int := us.map (expOf l)
theorem expsU_app (l : List Lot) (a b : List ByteArray) : expsU l (a ++ b) = expsU l a ++ expsU l b := by simp [expsU]
theorem unitsI_bd : ∀ ps : List Piece, (∀ p ∈ ps, 1 ≤ p.many ∧ p.many ≤ 1000) → 0 ≤ unitsI ps ∧ unitsI ps ≤ 1000 * (ps.length : Int)
  | [], _ => by simp [unitsI, sumF]
  | p :: ps, h => by
    have := h p (by simp)
    have := unitsI_bd ps fun q hq => h q (List.mem_cons_of_mem p hq)
    rw [unitsI, sumF_cons, ← unitsI, List.length_cons]
    omega
theorem unitsI_take (ps : List Piece) (k : Nat) (h : ∀ p ∈ ps, 1 ≤ p.many ∧ p.many ≤ 1000) : unitsI (ps.take k) ≤ unitsI ps := by
  have h1 : unitsI ps = unitsI (ps.take k) + unitsI (ps.drop k) := by
    have := sumF_app Piece.many (ps.take k) (ps.drop k)
    rw [List.take_append_drop] at this
    exact this
  have := (unitsI_bd (ps.drop k) fun p hp => h p (List.mem_of_mem_drop hp)).1
  omega

def staleErr (l : List Lot) (c : Coil) (day : Int) (sales : List Int) : Int := if coilDayErr l c day ≠ 0 then coilDayErr l c day else salesErr sales
def staleI (l : List Lot) (ps : List Piece) (day : Int) (sales : List Int) : Int := staleGo day sales (expsU l (unitsU ps))

theorem stale_fn (c : Coil) (hc : c.ps.length ≤ 1000000) (l : List Lot) (hl : l.length ≤ 1000000) (day : Int) (sales : List Int) (hs : sales.length ≤ 1000000) :
    PFn Tryd.prog 11 [.agg c.row, .lots l, .int day, .ints sales] (· = .tup [.int (if staleErr l c day sales ≠ 0 then 0 else staleI l c.ps day sales), .int (staleErr l c day sales)]) := by
  have h1 := coilFault_fn c hc l hl day
  have h4 := containsFunc_int (cin := []) (caps := []) (g := 43) (p := saleB) (l := sales) (by omega) (fun x _ => (stale1_fn x).lend)
  have hL := intRows_len sales
  refine PFn.mk (Spec.body Tryd.func11 rfl rfl (Tryd.ntmps11) rfl fun w0 own0 M => ?_)
  by_cases h0 : coilDayErr l c day ≠ 0
  · rw [show staleErr l c day sales = coilDayErr l c day by unfold staleErr; rw [if_pos h0], if_pos h0]
    unfold Coil.row at *
    repeat' (first | refine goH ?_ | refine goV ?_ | refine goB (fun b => ?_) | refine goC (fun ad cap => ?_) | refine goI ?_ | (refine Cw.k_cond ?_; first | (refine Cw.cond_dec rfl (fun hc => ?_) (fun hc => ?_) <;> try (exfalso; omega)) | refine Cw.cond_bool rfl (fun hc => ?_) (fun hc => ?_)) | (refine Ops.k_calla ?_; first | (refine Ops.k_callf 40 ?_; refine Ops.callV h1 (Evs.cons rfl (Evs.cons rfl (Evs.cons rfl Evs.nil))) rfl ?_)) | (apply OpW.k_call; first | (apply OpW.k_callf 40; exact OpW.callV h1 (Evs.cons rfl (Evs.cons rfl (Evs.cons rfl Evs.nil))))) | refine goR ?_ | refine goP ?_ | apply PSeq.cons | apply PSeq.yes rfl rfl rfl | exact goW | fail)
    refine Fin.ret (Ent.take (by repeat' (first | exact Take.nil | refine Take.cons (by first | exact pick0 | exact pickS pick0 | exact pickS (pickS pick0) | exact pickS (pickS (pickS pick0)) | exact pickS (pickS (pickS (pickS pick0)))) ?_))) (Outs.many rfl (OutL.cons (by first | exact OutE.tmp rfl | exact OutE.agg inferInstance rfl rfl | exact OutE.one inferInstance rfl) (OutL.cons (by first | exact OutE.tmp rfl | exact OutE.agg inferInstance rfl rfl | exact OutE.one inferInstance rfl) OutL.nil)) rfl) ⟨rfl, rfl⟩
  have he : coilDayErr l c day = 0 := by omega
  rw [he] at h1
  have hse : staleErr l c day sales = salesErr sales := by unfold staleErr; rw [if_neg h0]
  rw [hse]
  by_cases h400 : sales.length > 400
  · rw [show salesErr sales = 2 by unfold salesErr; rw [if_pos h400]]
    unfold Coil.row at *
    repeat' (first | refine goH ?_ | refine goV ?_ | refine goB (fun b => ?_) | refine goC (fun ad cap => ?_) | refine goI ?_ | (refine Cw.k_cond ?_; first | (refine Cw.cond_dec rfl (fun hc => ?_) (fun hc => ?_) <;> try (exfalso; omega)) | refine Cw.cond_bool rfl (fun hc => ?_) (fun hc => ?_)) | (refine Ops.k_calla ?_; first | (refine Ops.k_callf 40 ?_; refine Ops.callV h1 (Evs.cons rfl (Evs.cons rfl (Evs.cons rfl Evs.nil))) rfl ?_)) | (apply OpW.k_call; first | (apply OpW.k_callf 40; exact OpW.callV h1 (Evs.cons rfl (Evs.cons rfl (Evs.cons rfl Evs.nil))))) | refine goR ?_ | refine goP ?_ | apply PSeq.cons | apply PSeq.yes rfl rfl rfl | exact goW | fail)
    refine Fin.ret (Ent.take (by repeat' (first | exact Take.nil | refine Take.cons (by first | exact pick0 | exact pickS pick0 | exact pickS (pickS pick0) | exact pickS (pickS (pickS pick0)) | exact pickS (pickS (pickS (pickS pick0)))) ?_))) (Outs.many rfl (OutL.cons (by first | exact OutE.tmp rfl | exact OutE.agg inferInstance rfl rfl | exact OutE.one inferInstance rfl) (OutL.cons (by first | exact OutE.tmp rfl | exact OutE.agg inferInstance rfl rfl | exact OutE.one inferInstance rfl) OutL.nil)) rfl) ⟨rfl, rfl⟩
  by_cases hb : sales.any saleB = true
  · rw [show salesErr sales = 1 by unfold salesErr; rw [if_neg h400, if_pos hb]]
    rw [hb] at h4
    unfold Coil.row at *
    repeat' (first | refine goH ?_ | refine goV ?_ | refine goB (fun b => ?_) | refine goC (fun ad cap => ?_) | refine goI ?_ | (refine Cw.k_cond ?_; first | (refine Cw.cond_dec rfl (fun hc => ?_) (fun hc => ?_) <;> try (exfalso; omega)) | refine Cw.cond_bool rfl (fun hc => ?_) (fun hc => ?_)) | (refine Ops.k_calla ?_; first | (refine Ops.k_callf 40 ?_; refine Ops.callV h1 (Evs.cons rfl (Evs.cons rfl (Evs.cons rfl Evs.nil))) rfl ?_) | (refine Ops.k_callf 42 ?_; refine Ops.callS h4 (Evs.cons rfl (Evs.cons rfl Evs.nil)) (List.Perm.refl _) rfl ?_)) | (apply OpW.k_call; first | (apply OpW.k_callf 40; exact OpW.callV h1 (Evs.cons rfl (Evs.cons rfl (Evs.cons rfl Evs.nil)))) | (apply OpW.k_callf 42; exact OpW.callS h4 (Evs.cons rfl (Evs.cons rfl Evs.nil)) (List.Perm.refl _))) | refine goR ?_ | refine goP ?_ | apply PSeq.cons | apply PSeq.yes rfl rfl rfl | exact goW | fail)
    refine Fin.ret (Ent.take (by repeat' (first | exact Take.nil | refine Take.cons (by first | exact pick0 | exact pickS pick0 | exact pickS (pickS pick0) | exact pickS (pickS (pickS pick0)) | exact pickS (pickS (pickS (pickS pick0)))) ?_))) (Outs.many rfl (OutL.cons (by first | exact OutE.tmp rfl | exact OutE.agg inferInstance rfl rfl | exact OutE.one inferInstance rfl) (OutL.cons (by first | exact OutE.tmp rfl | exact OutE.agg inferInstance rfl rfl | exact OutE.one inferInstance rfl) OutL.nil)) rfl) ⟨rfl, rfl⟩
  replace hb : sales.any saleB = false := by simpa using hb
  rw [show salesErr sales = 0 by unfold salesErr; rw [if_neg h400, hb]; rfl]
  rw [hb] at h4
  rw [if_neg (show ¬ ((0 : Int) ≠ 0) by decide)]
  obtain ⟨_, k2, k3, kd⟩ := coilDay_ok he
  obtain ⟨_, _, _, k4, k5', _⟩ := coilErr_ok k2
  have k5 : ∀ p ∈ c.ps, 1 ≤ p.many ∧ p.many ≤ 1000 := fun p hp => (k5' p hp).2
  have k6 := known_find k3
  have kday := dayB_iff.1 kd
  obtain ⟨prod, most, ps⟩ := c
  simp only at hc k4 k5 k6 ⊢
  have hL2 : (ps.map Piece.row).length = ps.length := List.length_map _
  have hub := unitsI_bd ps k5
  have hul := unitsU_len (ps := ps) (fun p hp => by have := k5 p hp; omega)
  unfold Coil.row at *
  simp only at h1 ⊢
  have hsb : ∀ m ∈ sales, 0 ≤ m ∧ m ≤ 1000 := by
    intro m hm
    rw [List.any_eq_false] at hb
    have := hb m hm
    simp [saleB] at this
    omega
  clear h0 he hse k2 k3 kd k5'
  repeat' (first | refine goH ?_ | refine goV ?_ | refine goB (fun b => ?_) | refine goC (fun ad cap => ?_) | refine goI ?_ | (refine Cw.k_cond ?_; first | (refine Cw.cond_dec rfl (fun hc => ?_) (fun hc => ?_) <;> try (exfalso; omega)) | refine Cw.cond_bool rfl (fun hc => ?_) (fun hc => ?_)) | (refine Ops.k_calla ?_; first | (refine Ops.k_callf 40 ?_; refine Ops.callV h1 (Evs.cons rfl (Evs.cons rfl (Evs.cons rfl Evs.nil))) rfl ?_) | (refine Ops.k_callf 42 ?_; refine Ops.callS h4 (Evs.cons rfl (Evs.cons rfl Evs.nil)) (List.Perm.refl _) rfl ?_)) | (apply OpW.k_call; first | (apply OpW.k_callf 40; exact OpW.callV h1 (Evs.cons rfl (Evs.cons rfl (Evs.cons rfl Evs.nil)))) | (apply OpW.k_callf 42; exact OpW.callS h4 (Evs.cons rfl (Evs.cons rfl Evs.nil)) (List.Perm.refl _))) | refine goR ?_ | refine goP ?_ | apply PSeq.cons | apply PSeq.yes rfl rfl rfl | exact goW | fail)
  rename Nat => b11
  refine Cw.loopI [(1, _), (2, _), (3, _), (11, _), (32, _), (33, _)] _ (fun n e cc => ∃ (k : Nat) (ad : Option Addr) (cap : Nat) (rows : List (List Tr)), n = ps.length - k ∧ (k ≤ ps.length ∧ rows = intRows (expsU l (unitsU (ps.take k))) ∧ rows.length ≤ 1000 * k) ∧ e = [(34, .int k)] ∧ cc = [Chunk.box b11 22 [Tr.raw (.slice ad rows.length cap)], Chunk.own ad cap 1 3 rows])
    ⟨_, _, _, Ent.trans (Ent.nil 1 3) (Ent.mkP (by repeat' (first | exact Sub.nil | refine Sub.cons rfl ?_)) (by repeat' (first | exact List.Perm.refl _ | refine Perm.cons' (by first | exact pick0 | exact pickS pick0 | exact pickS (pickS pick0) | exact pickS (pickS (pickS pick0)) | exact pickS (pickS (pickS (pickS pick0)))) ?_))), 0, none, 0, [], rfl, ⟨by omega, rfl, by simp⟩, rfl, rfl⟩ ?_
  rintro _ _ _ ⟨k, ad, cap, rows, rfl, ⟨hk, hrows, hlen⟩, rfl, rfl⟩
  by_cases hkl : k < ps.length
  · obtain ⟨x, hx⟩ := at_lt hkl
    have hrow : (ps.map Piece.row)[k]? = some [.str x.lot, .int x.many] := rows_at hx
    have hxm := List.mem_of_getElem? hx
    obtain ⟨m1, m2⟩ := k5 x hxm
    obtain ⟨y, hy⟩ := k6 x hxm
    obtain ⟨j, hj, hyj⟩ := lotIx_some hy
    have hlot := lot_fn l hl x.lot
    rw [hj] at hlot
    have hrowy : (l.map Lot.row)[((j : Nat) : Int).toNat]? = some [.str y.id, .str y.prod, .int y.exp, .int y.many] := rows_at hyj
    have hexp : expOf l x.lot = y.exp := by unfold expOf lotD; rw [hy]; rfl
    clear h1 h4 hsb k5 k6
    repeat' (first | refine goH ?_ | refine goV ?_ | refine goB (fun b => ?_) | refine goC (fun ad cap => ?_) | refine goI ?_ | (refine Cw.k_cond ?_; first | (refine Cw.cond_dec rfl (fun hc => ?_) (fun hc => ?_) <;> try (exfalso; omega)) | refine Cw.cond_bool rfl (fun hc => ?_) (fun hc => ?_)) | refine goR ?_ | refine goP ?_ | apply PSeq.cons | apply PSeq.yes rfl rfl rfl | exact goW | fail)
    refine Cw.loopI [(1, _), (2, _), (3, _), (11, _), (13, _), (32, _), (33, _), (34, _), (39, _)] _ (fun n e cc => ∃ (i : Nat) (ad : Option Addr) (cap : Nat) (rows : List (List Tr)), n = x.many.toNat - i ∧ (i ≤ x.many.toNat ∧ rows = intRows (expsU l (unitsU (ps.take k) ++ List.replicate i x.lot)) ∧ rows.length ≤ 1000 * k + i) ∧ e = [(40, .int i)] ∧ cc = [Chunk.box b11 22 [Tr.raw (.slice ad rows.length cap)], Chunk.own ad cap 1 3 rows])
      ⟨_, _, _, (Ent.mkP (by repeat' (first | exact Sub.nil | refine Sub.cons rfl ?_)) (by repeat' (first | exact List.Perm.refl _ | refine Perm.cons' (by first | exact pick0 | exact pickS pick0 | exact pickS (pickS pick0) | exact pickS (pickS (pickS pick0)) | exact pickS (pickS (pickS (pickS pick0)))) ?_))), 0, ad, cap, rows, rfl, ⟨by omega, by simp [hrows], by omega⟩, rfl, rfl⟩ ?_
    clear hrows hlen
    rintro _ _ _ ⟨i, ad, cap, rows, rfl, ⟨hi, hrows, hlen⟩, rfl, rfl⟩
    by_cases hil : (i : Int) < x.many
    · have key : rows ++ [[Tr.int y.exp]] = intRows (expsU l (unitsU (ps.take k) ++ List.replicate (i + 1) x.lot)) := by
        rw [hrows, List.replicate_succ', ← List.append_assoc, expsU_app (a := _ ++ _), intRows_app, ← hexp]
        rfl
      repeat' (first | refine goH ?_ | refine goV ?_ | refine goB (fun b => ?_) | refine goC (fun ad cap => ?_) | refine goI ?_ | (refine Cw.k_cond ?_; first | (refine Cw.cond_dec rfl (fun hc => ?_) (fun hc => ?_) <;> try (exfalso; omega)) | refine Cw.cond_bool rfl (fun hc => ?_) (fun hc => ?_)) | (refine Ops.k_calla ?_; first | (refine Ops.k_callf 41 ?_; refine Ops.callV hlot (Evs.cons rfl (Evs.cons rfl Evs.nil)) rfl ?_)) | (apply OpW.k_call; first | (apply OpW.k_callf 41; exact OpW.callV hlot (Evs.cons rfl (Evs.cons rfl Evs.nil)))) | refine goR ?_ | refine goP ?_ | apply PSeq.cons | apply PSeq.yes rfl rfl rfl | exact goW | fail)
      exact ⟨_, _, _, (Ent.mk (by repeat' (first | exact Sub.nil | refine Sub.cons rfl ?_)) (by repeat' (first | exact Take.nil | refine Take.cons (by first | exact pick0 | exact pickS pick0 | exact pickS (pickS pick0) | exact pickS (pickS (pickS pick0)) | exact pickS (pickS (pickS (pickS pick0)))) ?_))), ⟨i + 1, _, _, _, rfl, ⟨by omega, key, by simp only [List.length_append, List.length_cons, List.length_nil]; omega⟩, rfl, rfl⟩, by omega⟩
    · repeat' (first | refine goH ?_ | refine goV ?_ | refine goB (fun b => ?_) | refine goC (fun ad cap => ?_) | refine goI ?_ | (refine Cw.k_cond ?_; first | (refine Cw.cond_dec rfl (fun hc => ?_) (fun hc => ?_) <;> try (exfalso; omega)) | refine Cw.cond_bool rfl (fun hc => ?_) (fun hc => ?_)) | refine goR ?_ | refine goP ?_ | apply PSeq.cons | apply PSeq.yes rfl rfl rfl | exact goW | fail)
      refine ⟨_, _, _, (Ent.mk (by repeat' (first | exact Sub.nil | refine Sub.cons rfl ?_)) (by repeat' (first | exact Take.nil | refine Take.cons (by first | exact pick0 | exact pickS pick0 | exact pickS (pickS pick0) | exact pickS (pickS (pickS pick0)) | exact pickS (pickS (pickS (pickS pick0)))) ?_))), ⟨k + 1, _, _, _, rfl, ⟨by omega, ?_, by omega⟩, rfl, rfl⟩, by omega⟩
      rw [hrows, take_snoc hx, unitsU_app, show i = x.many.toNat by omega]
      simp [unitsU]
  obtain ⟨last, hlast⟩ : ∃ last, last = expsU l (unitsU ps) := ⟨_, rfl⟩
  have hrows' : rows = intRows last := by rw [hrows, List.take_of_length_le (by omega), hlast]
  subst hrows'
  have hll : last.length = (unitsU ps).length := by rw [hlast, expsU, List.length_map]
  have hst : staleI l ps day sales = staleGo day sales last := by unfold staleI; rw [← hlast]
  rw [hst]
  clear hrows hlen hst hlast k5 k6 h1 h4
  have hL3 := intRows_len last
  repeat' (first | refine goH ?_ | ((fail_if_success refine Ops.k_alloc ?_); refine goV ?_) | ((fail_if_success refine Ops.k_alloc ?_); refine goB (fun b => ?_)) | ((fail_if_success refine Ops.k_alloc ?_); refine goC (fun ad cap => ?_)) | refine goI ?_ | (refine Cw.k_cond ?_; first | (refine Cw.cond_dec rfl (fun hc => ?_) (fun hc => ?_) <;> try (exfalso; omega)) | refine Cw.cond_bool rfl (fun hc => ?_) (fun hc => ?_)) | refine goR ?_ | refine goP ?_ | apply PSeq.cons | apply PSeq.yes rfl rfl rfl | exact goW | fail)
  refine Ops.ent (Ent.settle_box (b := b11) (i := 0) (kk := 1) (rows := intRows last) (ts' := [.ints last]) (List.Perm.swap _ _ _) rfl rfl rfl) ?_
  repeat' (first | refine goH ?_ | refine goV ?_ | refine goB (fun b => ?_) | refine goC (fun ad cap => ?_) | refine goI ?_ | (refine Cw.k_cond ?_; first | (refine Cw.cond_dec rfl (fun hc => ?_) (fun hc => ?_) <;> try (exfalso; omega)) | refine Cw.cond_bool rfl (fun hc => ?_) (fun hc => ?_)) | refine goR ?_ | refine goP ?_ | apply PSeq.cons | apply PSeq.yes rfl rfl rfl | exact goW | fail)
  rename Nat => b15
  refine Cw.loopI [(11, _), (14, _), (15, _), (16, _), (57, _), (58, _)] _ (fun q e cc => ∃ (k : Nat) (n : Int) (la : List Int) (d : Int), q = sales.length - k ∧ (k ≤ sales.length ∧ d = day + k ∧ n + staleGo d (sales.drop k) la = staleGo day sales last ∧ 0 ≤ n ∧ n + la.length ≤ 1000000) ∧ e = [(59, .int k)] ∧ cc = [Chunk.box b11 22 [.ints la], Chunk.box b15 3 [.int d], Chunk.box b 3 [.int n]])
    ⟨_, _, _, (Ent.mkP (by repeat' (first | exact Sub.nil | refine Sub.cons rfl ?_)) (by repeat' (first | exact List.Perm.refl _ | refine Perm.cons' (by first | exact pick0 | exact pickS pick0 | exact pickS (pickS pick0) | exact pickS (pickS (pickS pick0)) | exact pickS (pickS (pickS (pickS pick0)))) ?_))), 0, 0, last, day, rfl, ⟨by omega, by omega, by simp, by omega, by omega⟩, rfl, rfl⟩ ?_
  clear hk hkl hll hc
  rintro _ _ _ ⟨k, n, la, d, rfl, ⟨hk, hd, hV, b1, b2⟩, rfl, rfl⟩
  have hL4 := intRows_len la
  by_cases hkl : k < sales.length
  · obtain ⟨m, hm⟩ := at_lt hkl
    have hrow := intRows_at hm
    have hmb := hsb m (List.mem_of_getElem? hm)
    have hmn : min m ((intRows la).length : Int) = ((min m.toNat la.length : Nat) : Int) := by omega
    have hla := late_fn (((min m.toNat la.length : Nat) : Int)) d n la b11 b15 b 22 3 3 (by omega) (by omega) (by omega)
    rw [← hmn] at hla
    have hcb := cntLt_bd d (la.take (min m.toNat la.length))
    rw [drop_at hm, staleGo] at hV
    rw [List.length_take] at hcb
    repeat' (first | refine goH ?_ | refine goV ?_ | refine goB (fun b => ?_) | refine goC (fun ad cap => ?_) | refine goI ?_ | (refine Cw.k_cond ?_; first | (refine Cw.cond_dec rfl (fun hc => ?_) (fun hc => ?_) <;> try (exfalso; omega)) | refine Cw.cond_bool rfl (fun hc => ?_) (fun hc => ?_)) | (refine Ops.k_calla ?_; first | (refine Ops.call_fn (caps := [.pointer (some ⟨b11, 0, none⟩), .pointer (some ⟨b15, 0, none⟩), .pointer (some ⟨b, 0, none⟩)]) rfl hla (Evs.cons rfl Evs.nil) (by repeat' (first | exact List.Perm.refl _ | refine Perm.cons' (by first | exact pick0 | exact pickS pick0 | exact pickS (pickS pick0) | exact pickS (pickS (pickS pick0)) | exact pickS (pickS (pickS (pickS pick0)))) ?_)) rfl ?_; rintro r cs' ⟨rfl, rfl⟩)) | refine goR ?_ | refine goP ?_ | apply PSeq.cons | apply PSeq.yes rfl rfl rfl | exact goW | fail)
    have hq : (min m ((intRows la).length : Int)).toNat = min m.toNat la.length := by omega
    refine ⟨_, _, _, (Ent.mk (by repeat' (first | exact Sub.nil | refine Sub.cons rfl ?_)) (by repeat' (first | exact Take.nil | refine Take.cons (by first | exact pick0 | exact pickS pick0 | exact pickS (pickS pick0) | exact pickS (pickS (pickS pick0)) | exact pickS (pickS (pickS (pickS pick0)))) ?_))), ⟨k + 1, _, _, d + 1, rfl, ⟨by omega, by omega, ?_, ?_, ?_⟩, rfl, rfl⟩, by omega⟩
    all_goals rw [hq]
    · omega
    · omega
    · rw [List.length_drop]
      omega
  · rw [List.drop_eq_nil_of_le (by omega), staleGo] at hV
    have hla := late_fn ((intRows la).length : Int) d n la b11 b15 b 22 3 3 (by omega) (by omega) (by omega)
    have hta : la.take ((intRows la).length : Int).toNat = la := List.take_of_length_le (by omega)
    rw [hta] at hla
    repeat' (first | refine goH ?_ | refine goV ?_ | refine goB (fun b => ?_) | refine goC (fun ad cap => ?_) | refine goI ?_ | (refine Cw.k_cond ?_; first | (refine Cw.cond_dec rfl (fun hc => ?_) (fun hc => ?_) <;> try (exfalso; omega)) | refine Cw.cond_bool rfl (fun hc => ?_) (fun hc => ?_)) | (refine Ops.k_calla ?_; first | (refine Ops.call_fn (caps := [.pointer (some ⟨b11, 0, none⟩), .pointer (some ⟨b15, 0, none⟩), .pointer (some ⟨b, 0, none⟩)]) rfl hla (Evs.cons rfl Evs.nil) (by repeat' (first | exact List.Perm.refl _ | refine Perm.cons' (by first | exact pick0 | exact pickS pick0 | exact pickS (pickS pick0) | exact pickS (pickS (pickS pick0)) | exact pickS (pickS (pickS (pickS pick0)))) ?_)) rfl ?_; rintro r cs' ⟨rfl, rfl⟩)) | refine goR ?_ | refine goP ?_ | apply PSeq.cons | apply PSeq.yes rfl rfl rfl | exact goW | fail)
    rw [hV]
    refine Fin.ret (Ent.take (by repeat' (first | exact Take.nil | refine Take.cons (by first | exact pick0 | exact pickS pick0 | exact pickS (pickS pick0) | exact pickS (pickS (pickS pick0)) | exact pickS (pickS (pickS (pickS pick0)))) ?_))) (Outs.many rfl (OutL.cons (by first | exact OutE.tmp rfl | exact OutE.agg inferInstance rfl rfl | exact OutE.one inferInstance rfl) (OutL.cons (by first | exact OutE.tmp rfl | exact OutE.agg inferInstance rfl rfl | exact OutE.one inferInstance rfl) OutL.nil)) rfl) ⟨rfl, rfl⟩
end Lg
