/- A part of the proof of a law of this seat: it adds no condition. By an AI agent. -/
import Derived.Test.YtdkioblnppppeaaGreatDoorCf4
section
set_option linter.all false
set_option maxRecDepth 100000
set_option maxHeartbeats 1000000
namespace Lg
open Go Go.Proofs

/-! ### selling from the front -/
/-- a copy of its own -/
theorem clone_piece (rows : List (List Tr)) (hk : ∀ r ∈ rows, r.length = 2) (hl : rows.length ≤ 1000000) : PFnO Tryz.prog 34 [.sl 2 rows] 2 51 (· = rows) := by
  unfold PFnO
  refine Spec.body Tryz.func34 rfl rfl (Tryz.ntmps34) rfl fun w0 own0 M => ?_
  repeat' (first | refine goH ?_ | ((fail_if_success refine Ops.k_b_eql ?_); (fail_if_success refine Ops.k_buildSlice ?_); refine goV ?_) | ((fail_if_success refine Ops.k_b_eql ?_); (fail_if_success refine Ops.k_buildSlice ?_); refine goC (fun ad cap => ?_)) | refine goI ?_ | (refine Cw.k_cond ?_; first | (refine Cw.cond_dec rfl (fun hc => ?_) (fun hc => ?_) <;> try (exfalso; omega)) | refine Cw.cond_bool rfl (fun hc => ?_) (fun hc => ?_)) | fail)
  refine Ops.eql_nilS rfl rfl (fun b hb => ?_)
  cases b
  · repeat' (first | refine goH ?_ | ((fail_if_success refine Ops.k_buildSlice ?_); refine goV ?_) | ((fail_if_success refine Ops.k_buildSlice ?_); refine goC (fun ad cap => ?_)) | refine goI ?_ | (refine Cw.k_cond ?_; first | (refine Cw.cond_dec rfl (fun hc => ?_) (fun hc => ?_) <;> try (exfalso; omega)) | refine Cw.cond_bool rfl (fun hc => ?_) (fun hc => ?_)) | fail)
    refine Ops.buildSlice_own (by exact Parts.nil) rfl rfl rfl (fun ad cap => ?_)
    repeat' (first | refine goH ?_ | refine goV ?_ | refine goC (fun ad cap => ?_) | refine goI ?_ | (refine Cw.k_cond ?_; first | (refine Cw.cond_dec rfl (fun hc => ?_) (fun hc => ?_) <;> try (exfalso; omega)) | refine Cw.cond_bool rfl (fun hc => ?_) (fun hc => ?_)) | fail)
    exact Fin.ret (Ent.take goTk) (Outs.one rfl rfl) ⟨_, _, _, rfl, rfl, rfl⟩
  · have hr := hb rfl
    subst hr
    repeat' (first | refine goH ?_ | refine goV ?_ | refine goC (fun ad cap => ?_) | refine goI ?_ | (refine Cw.k_cond ?_; first | (refine Cw.cond_dec rfl (fun hc => ?_) (fun hc => ?_) <;> try (exfalso; omega)) | refine Cw.cond_bool rfl (fun hc => ?_) (fun hc => ?_)) | fail)
    exact Fin.ret (Ent.trans (Ent.nil 2 51) (Ent.take goTk)) (Outs.one rfl rfl) ⟨none, 0, [], rfl, rfl, rfl⟩

theorem clip_fn (rows : List (List Tr)) : PFn Tryz.prog 35 [.sl 2 rows] (· = .sl 2 rows) := by
  refine PFn.mk (Spec.body Tryz.func35 rfl rfl (Tryz.ntmps35) rfl fun w0 own0 M => ?_)
  repeat' (first | refine goH ?_ | (refine Ops.k_slice ?_; first | (refine Ops.slice_clip rfl rfl rfl rfl rfl ?_)) | refine goV ?_ | refine goI ?_ | (refine Cw.k_cond ?_; first | (refine Cw.cond_dec rfl (fun hc => ?_) (fun hc => ?_) <;> try (exfalso; omega)) | refine Cw.cond_bool rfl (fun hc => ?_) (fun hc => ?_)) | fail)
  exact Fin.ret (Ent.take goTk) (Outs.one rfl rfl) ⟨rfl, rfl⟩
theorem sell_zero : ∀ {ps : List Piece} {m : Int}, m ≤ 0 → sell m ps = ([], ps)
  | [], m, _ => rfl
  | p :: ps, m, h => by unfold sell; rw [if_pos h]
theorem sell_part {p : Piece} {ps : List Piece} {m : Int} (h1 : 0 < m) (h2 : m < p.many) : sell m (p :: ps) = ([⟨p.lot, m⟩], ⟨p.lot, p.many - m⟩ :: ps) := by unfold sell; rw [if_neg (by omega), if_pos h2]
theorem sell_all {p : Piece} {ps : List Piece} {m : Int} (h1 : 0 < m) (h2 : ¬ m < p.many) : sell m (p :: ps) = (p :: (sell (m - p.many) ps).1, (sell (m - p.many) ps).2) := by conv => lhs; unfold sell; rw [if_neg (by omega), if_neg h2]
def sellErr (c : Coil) (m : Int) : Int := if coilErr c ≠ 0 then coilErr c else if m < 0 ∨ 1000 < m then 1 else if unitsI c.ps < m then 8 else 0
theorem sellBad_fn (c : Coil) (hc : c.ps.length ≤ 1000000) (m : Int) (h : sellErr c m ≠ 0) : PFn Tryz.prog 12 [.agg c.row, .int m] (· = .tup [.agg coil0, .sl 2 [], .int (sellErr c m)]) := by
  have h1 := checkCoil_fn c hc
  have ho := out_fn m 0 1000
  refine PFn.mk (Spec.body Tryz.func12 rfl rfl (Tryz.ntmps12) rfl fun w0 own0 M => ?_)
  by_cases c1 : coilErr c ≠ 0
  · rw [show sellErr c m = coilErr c by unfold sellErr; rw [if_pos c1]]
    unfold Coil.row at *
    repeat' (first | refine goH ?_ | refine goV ?_ | refine goB (fun b => ?_) | refine goC (fun ad cap => ?_) | refine goI ?_ | (refine Cw.k_cond ?_; first | (refine Cw.cond_dec rfl (fun hc => ?_) (fun hc => ?_) <;> try (exfalso; omega)) | refine Cw.cond_bool rfl (fun hc => ?_) (fun hc => ?_)) | (refine Ops.k_calla ?_; first | (refine Ops.k_callf 9 ?_; refine Ops.callV h1 (Evs.cons rfl Evs.nil) rfl ?_)) | fail)
    refine Fin.ret (Ent.trans (Ent.nilsl 2 (s := 5) rfl) (Ent.trans (Ent.setbox (s := 4) rfl goPk) (Ent.take goTk))) (Outs.many rfl (OutL.cons goOe (OutL.cons goOe (OutL.cons goOe OutL.nil))) rfl) ⟨rfl, rfl⟩
  have e1 : coilErr c = 0 := by omega
  rw [e1] at h1
  obtain ⟨_, b1, b2, b3, b4, b5⟩ := coilErr_ok e1
  by_cases c2 : m < 0 ∨ 1000 < m
  · rw [show sellErr c m = 1 by unfold sellErr; rw [if_neg c1, if_pos c2]]
    rw [show outB m 0 1000 = true by unfold outB; exact decide_eq_true c2] at ho
    unfold Coil.row at *
    repeat' (first | refine goH ?_ | refine goV ?_ | refine goB (fun b => ?_) | refine goC (fun ad cap => ?_) | refine goI ?_ | (refine Cw.k_cond ?_; first | (refine Cw.cond_dec rfl (fun hc => ?_) (fun hc => ?_) <;> try (exfalso; omega)) | refine Cw.cond_bool rfl (fun hc => ?_) (fun hc => ?_)) | (refine Ops.k_calla ?_; first | (refine Ops.k_callf 9 ?_; refine Ops.callV h1 (Evs.cons rfl Evs.nil) rfl ?_) | (refine Ops.k_callf 29 ?_; refine Ops.callV ho (Evs.cons rfl (Evs.cons rfl (Evs.cons rfl Evs.nil))) rfl ?_)) | fail)
    refine Fin.ret (Ent.trans (Ent.nilsl 2 (s := 5) rfl) (Ent.trans (Ent.setbox (s := 4) rfl goPk) (Ent.take goTk))) (Outs.many rfl (OutL.cons goOe (OutL.cons goOe (OutL.cons goOe OutL.nil))) rfl) ⟨rfl, rfl⟩
  have hs : sellErr c m = if unitsI c.ps < m then 8 else 0 := by unfold sellErr; rw [if_neg c1, if_neg c2]
  rw [hs] at h ⊢
  rw [show outB m 0 1000 = false by unfold outB; exact decide_eq_false c2] at ho
  obtain ⟨prod, most, ps⟩ := c
  simp only at *
  have hu := units_fn ps hc (fun p hp => by have := b4 p hp; omega)
  unfold Coil.row at *
  generalize unitsI ps = u at *
  have hlt : u < m := by
    by_cases hh : u < m
    · exact hh
    · rw [if_neg hh] at h; exact absurd rfl h
  rw [if_pos hlt]
  clear h hs b4
  repeat' (first | refine goH ?_ | refine goV ?_ | refine goB (fun b => ?_) | refine goC (fun ad cap => ?_) | refine goI ?_ | (refine Cw.k_cond ?_; first | (refine Cw.cond_dec rfl (fun hc => ?_) (fun hc => ?_) <;> try (exfalso; omega)) | refine Cw.cond_bool rfl (fun hc => ?_) (fun hc => ?_)) | (refine Ops.k_calla ?_; first | (refine Ops.k_callf 9 ?_; refine Ops.callV h1 (Evs.cons rfl Evs.nil) rfl ?_) | (refine Ops.k_callf 29 ?_; refine Ops.callV ho (Evs.cons rfl (Evs.cons rfl (Evs.cons rfl Evs.nil))) rfl ?_) | (refine Ops.k_callf 30 ?_; refine Ops.callV hu (Evs.cons rfl Evs.nil) rfl ?_)) | fail)
  refine Fin.ret (Ent.trans (Ent.nilsl 2 (s := 5) rfl) (Ent.trans (Ent.setbox (s := 4) rfl goPk) (Ent.take goTk))) (Outs.many rfl (OutL.cons goOe (OutL.cons goOe (OutL.cons goOe OutL.nil))) rfl) ⟨rfl, rfl⟩
theorem sellErr_ok {c : Coil} {m : Int} (h : sellErr c m = 0) : coilErr c = 0 ∧ 0 ≤ m ∧ m ≤ 1000 ∧ m ≤ unitsI c.ps := by
  unfold sellErr at h
  split at h
  · omega
  · split at h
    · omega
    · split at h
      · omega
      · exact ⟨by omega, by omega, by omega, by omega⟩
def sellC (c : Coil) (m : Int) : Coil := ⟨c.prod, c.most, (sell m c.ps).2⟩
theorem sell_fn (c : Coil) (m : Int) (h : sellErr c m = 0) : PFn Tryz.prog 12 [.agg c.row, .int m] (· = .tup [.agg (sellC c m).row, .pieces (sell m c.ps).1, .int 0]) := by
  obtain ⟨e1, m0, m1, m2⟩ := sellErr_ok h
  obtain ⟨_, b1, b2, b3, b4, b5⟩ := coilErr_ok e1
  have h1 := checkCoil_fn c (by omega)
  rw [e1] at h1
  have ho := out_fn m 0 1000
  rw [show outB m 0 1000 = false by unfold outB; exact decide_eq_false (by omega)] at ho
  unfold sellC
  obtain ⟨prod, most, ps⟩ := c
  simp only at *
  have hu := units_fn ps (by omega) (fun p hp => by have := b4 p hp; omega)
  have kc := clone_piece (ps.map Piece.row) (by intro r hr; obtain ⟨a, _, rfl⟩ := List.mem_map.1 hr; rfl) (by rw [List.length_map]; omega)
  have hL : (ps.map Piece.row).length = ps.length := List.length_map _
  obtain ⟨S1, hS1⟩ : ∃ S1, S1 = (sell m ps).1 := ⟨_, rfl⟩
  obtain ⟨S2, hS2⟩ : ∃ S2, S2 = (sell m ps).2 := ⟨_, rfl⟩
  rw [← hS1, ← hS2]
  refine PFn.mk (Spec.body Tryz.func12 rfl rfl (Tryz.ntmps12) rfl fun w0 own0 M => ?_)
  unfold Coil.row at *
  simp only at *
  obtain ⟨u, hu2⟩ : ∃ u, u = unitsI ps := ⟨_, rfl⟩
  rw [← hu2] at hu m2 b5
  repeat' (first | refine goH ?_ | refine goV ?_ | refine goB (fun b => ?_) | refine goC (fun ad cap => ?_) | refine goI ?_ | (refine Cw.k_cond ?_; first | (refine Cw.cond_dec rfl (fun hc => ?_) (fun hc => ?_) <;> try (exfalso; omega)) | refine Cw.cond_bool rfl (fun hc => ?_) (fun hc => ?_)) | (refine Ops.k_calla ?_; first | (refine Ops.k_callf 9 ?_; refine Ops.callV h1 (Evs.cons rfl Evs.nil) rfl ?_) | (refine Ops.k_callf 29 ?_; refine Ops.callV ho (Evs.cons rfl (Evs.cons rfl (Evs.cons rfl Evs.nil))) rfl ?_) | (refine Ops.k_callf 30 ?_; refine Ops.callV hu (Evs.cons rfl Evs.nil) rfl ?_) | (refine Ops.k_callf 34 ?_; (refine Ops.callO kc (Evs.cons rfl Evs.nil) rfl (fun ad cap rows hr => ?_); subst hr))) | fail)
  refine Cw.part0 (s := 8) rfl goPk rfl (fun v hv hz hcp => ?_)
  rw [hL] at hv hcp ⊢
  refine Cw.loopI [(2, _), (4, _)] _ (fun q e cc => ∃ (k n cap2 : Nat) (v : Option Addr) (m : Int) (pre rows : List (List Tr)) (rest out : List Piece) (n9 cap9 : Nat) (ad9 : Option Addr) (r9 : List (List Tr)),
      q = m.toNat ∧ (rows = pre ++ rest.map Piece.row ∧ pre.length = k ∧ rest.length = n ∧ k + n = ps.length ∧ rows.length = ps.length ∧ n ≤ cap2 ∧ cap2 ≤ cap ∧ (0 < n → v = ad.map fun a => ⟨a.block, k * 2, none⟩) ∧ v.isSome = ad.isSome
        ∧ 0 ≤ m ∧ m ≤ 1000 ∧ m ≤ unitsI rest ∧ (∀ p ∈ rest, 1 ≤ p.many ∧ p.many ≤ 1000) ∧ out ++ (sell m rest).1 = S1 ∧ (sell m rest).2 = S2 ∧ r9 = out.map Piece.row ∧ r9.length = n9 ∧ n9 + m.toNat ≤ 1000)
      ∧ e = [(1, .int m), (8, Tr.raw (.slice v n cap2)), (9, Tr.raw (.slice ad9 n9 cap9))] ∧ cc = [Chunk.own ad cap 2 51 rows, Chunk.own ad9 cap9 2 51 r9])
    ⟨_, _, _, Ent.trans (Ent.nil 2 51) (Ent.mkP goSub goPm), 0, ps.length, cap, v, m, [], ps.map Piece.row, ps, [], 0, 0, none, [], rfl, ⟨rfl, rfl, rfl, by omega, hL, hcp, Nat.le_refl _, hv, hz, m0, m1, by omega, fun p hp => (b4 p hp).2, by rw [hS1]; rfl, hS2.symm, rfl, rfl, by omega⟩, rfl, rfl⟩ ?_
  rintro _ _ _ ⟨k, n, cap2, v, m, pre, rows, rest, out, n9, cap9, ad9, r9, rfl, ⟨hrows, hpre, hrest, hkn, hrl, hc1, hc2, hv, hz, m0, m1, m2, hb, hs1, hs2, h9, hl9, hb9⟩, rfl, rfl⟩
  by_cases hm : 0 < m
  · cases rest with
    | nil => simp only [unitsI, sumF] at m2; omega
    | cons x r =>
      have hx := hb x (by simp)
      rw [unitsI_cons] at m2
      simp only [List.length_cons] at hrest
      have hv := hv (by omega)
      subst hv
      rw [show Tr.raw (Value.slice (ad.map fun a => (⟨a.block, k * 2, none⟩ : Addr)) n cap2) = Tr.qsl ad k 2 n cap2 by unfold Tr.qsl; rfl]
      have hr0 : rows[k + (0 : Int).toNat]? = some [Tr.str x.lot, .int x.many] := by
        rw [hrows, show k + (0 : Int).toNat = k by simp, List.getElem?_append_right (by omega), hpre, Nat.sub_self]; rfl
      have g1 : rows.set (k + (0 : Int).toNat) [Tr.str x.lot, .int (x.many - min m x.many)] = pre ++ [Tr.str x.lot, .int (x.many - min m x.many)] :: r.map Piece.row := by
        rw [hrows, show k + (0 : Int).toNat = k by simp, List.set_append, if_neg (by omega), hpre, Nat.sub_self]; rfl
      have g2 : (rows.set (k + (0 : Int).toNat) [Tr.str x.lot, .int (x.many - min m x.many)]).length = ps.length := by rw [List.length_set, hrl]
      have g3 : (rows.set (k + (0 : Int).toNat) [Tr.str x.lot, .int (x.many - min m x.many)])[k + (0 : Int).toNat]? = some [Tr.str x.lot, .int (x.many - min m x.many)] := by
        rw [List.getElem?_set_self]; simp; omega
      have g4 : r9 ++ [[Tr.str x.lot, .int (min m x.many)]] = (out ++ [(⟨x.lot, min m x.many⟩ : Piece)]).map Piece.row := by rw [h9, List.map_append]; rfl
      have g5 : (r9 ++ [[Tr.str x.lot, .int (min m x.many)]]).length = n9 + 1 := by rw [List.length_append, hl9]; rfl
      have hR : rows.set (k + (0 : Int).toNat) ([Tr.str x.lot, .int x.many].set (0 + 1) (.int (x.many - min m x.many))) = rows.set (k + (0 : Int).toNat) [Tr.str x.lot, .int (x.many - min m x.many)] := rfl
      generalize rows.set (k + (0 : Int).toNat) [Tr.str x.lot, .int (x.many - min m x.many)] = rows2 at *
      clear hrows h9
      repeat' (first | refine goH ?_ | (refine Ops.k_indexAddr ?_; first | (refine Ops.indexAddr_sub rfl rfl goPk (by omega) (by omega) (by omega) rfl ?_)) | (refine Ops.k_store ?_; first | (refine Ops.store_own1 rfl rfl goPk (by first | rfl | assumption | (simp [*]; done)) (by decide) ?_; rw [hR])) | ((fail_if_success refine Ops.k_slice ?_); refine goV ?_) | ((fail_if_success refine Ops.k_slice ?_); refine goB (fun b => ?_)) | ((fail_if_success refine Ops.k_slice ?_); refine goC (fun ad cap => ?_)) | refine goI ?_ | (refine Cw.k_cond ?_; first | (refine Cw.cond_dec rfl (fun hc => ?_) (fun hc => ?_) <;> try (exfalso; omega)) | refine Cw.cond_bool rfl (fun hc => ?_) (fun hc => ?_)) | fail)
      · -- the piece is sold out
        rename_i hc
        have hge : ¬ m < x.many := by omega
        rw [sell_all hm hge] at hs1 hs2
        simp only at hs1 hs2
        have hmin : min m x.many = x.many := by omega
        have e0 : (k + 1) * 2 = (k + (1 : Int).toNat) * 2 := rfl
        refine Ops.slice_part rfl rfl (by omega) rfl (fun v hv2 hz2 => ?_)
        repeat' (first | refine goH ?_ | refine goV ?_ | refine goB (fun b => ?_) | refine goC (fun ad cap => ?_) | refine goI ?_ | (refine Cw.k_cond ?_; first | (refine Cw.cond_dec rfl (fun hc => ?_) (fun hc => ?_) <;> try (exfalso; omega)) | refine Cw.cond_bool rfl (fun hc => ?_) (fun hc => ?_)) | fail)
        rw [g5]
        refine ⟨_, _, _, (Ent.mk goSub goTk), ⟨k + 1, n - 1, cap2 - 1, v, m - min m x.many, pre ++ [[Tr.str x.lot, .int (x.many - min m x.many)]], rows2, r, out ++ [⟨x.lot, min m x.many⟩], n9 + 1, _, _, _, rfl, ⟨by rw [g1]; simp, by simp [hpre], by omega, by omega, g2, by omega, by omega, fun h0 => hv2 (by omega) (by omega), hz2, by omega, by omega, by omega, fun p hp => hb p (List.mem_cons_of_mem _ hp), ?_, ?_, g4, g5, by omega⟩, rfl, rfl⟩, by omega⟩
        · rw [hmin, List.append_assoc]
          exact hs1
        · rw [hmin]
          exact hs2
      · rename_i hc
        have hlt : m < x.many := by omega
        rw [sell_part hm hlt] at hs1 hs2
        have hmin : min m x.many = m := by omega
        simp only at hs1 hs2
        unfold Tr.qsl
        rw [g5]
        refine ⟨_, _, _, (Ent.mk goSub goTk), ⟨k, n, cap2, _, m - min m x.many, pre, rows2, ⟨x.lot, x.many - m⟩ :: r, out ++ [⟨x.lot, min m x.many⟩], n9 + 1, _, _, _, rfl, ⟨by rw [g1, hmin]; rfl, hpre, by simp only [List.length_cons]; omega, hkn, g2, hc1, hc2, fun _ => rfl, hz, by omega, by omega, ?_, ?_, ?_, ?_, g4, g5, by omega⟩, rfl, rfl⟩, by omega⟩
        · rw [hmin, unitsI_cons]
          simp only
          have := unitsI_ge (ps := r) (fun p hp => by have := hb p (List.mem_cons_of_mem _ hp); omega)
          omega
        · intro p hp
          rcases List.mem_cons.1 hp with rfl | hp
          · simp only; omega
          · exact hb p (List.mem_cons_of_mem _ hp)
        · rw [hmin, show m - m = 0 by omega, sell_zero (Int.le_refl _), List.append_nil]
          exact hs1
        · rw [hmin, show m - m = 0 by omega, sell_zero (Int.le_refl _)]
          exact hs2
  · have hm0 : m = 0 := by omega
    subst hm0
    rw [sell_zero (by omega)] at hs1 hs2
    simp only [List.append_nil] at hs1 hs2
    subst hs1 hs2
    have kclip := clip_fn (rest.map Piece.row)
    have hdr : rows.drop k = rest.map Piece.row := by rw [hrows, ← hpre, List.drop_append_of_le_length (Nat.le_refl _), List.drop_length, List.nil_append]
    subst h9
    subst hl9
    refine Cw.ent (Ent.settle_part2 (s := 8) (o := k) rfl goPk (by omega) ⟨hc1, hc2⟩ hv hz) ?_
    rw [hdr]
    repeat' (first | refine goH ?_ | refine goV ?_ | refine goB (fun b => ?_) | refine goC (fun ad cap => ?_) | refine goI ?_ | (refine Cw.k_cond ?_; first | (refine Cw.cond_dec rfl (fun hc => ?_) (fun hc => ?_) <;> try (exfalso; omega)) | refine Cw.cond_bool rfl (fun hc => ?_) (fun hc => ?_)) | (refine Ops.k_calla ?_; first | (refine Ops.k_callf 35 ?_; refine Ops.callV kclip (Evs.cons rfl Evs.nil) rfl ?_)) | fail)
    refine Fin.ret (Ent.trans (Ent.settle (s := 5) rfl goPk rfl) (Ent.trans (Ent.setbox (s := 4) rfl goPk) (Ent.take goTk))) (Outs.many rfl (OutL.cons goOe (OutL.cons goOe (OutL.cons goOe OutL.nil))) rfl) ⟨rfl, rfl⟩
end Lg
end
section
set_option linter.all false
set_option maxRecDepth 100000
set_option maxHeartbeats 1000000
namespace Lg
open Go Go.Proofs

/-! ### SellOf; the pieces that are drawn -/
theorem strRows_take (us : List ByteArray) (n : Nat) : strRows (us.take n) = (strRows us).take n := List.map_take
theorem strRows_drop (us : List ByteArray) (n : Nat) : strRows (us.drop n) = (strRows us).drop n := List.map_drop
theorem sellOf_fn (c : Coil) (he : coilErr c = 0) (m : Int) (h : sellErr c m = 0) : PFn Tryz.prog 21 [.agg c.row, .int m] (· = .tup [.agg (sellC c m).row, .pieces (sell m c.ps).1, .int 0]) := by
  obtain ⟨_, m0, m1, m2⟩ := sellErr_ok h
  obtain ⟨_, b1, b2, b3, b4, b5⟩ := coilErr_ok he
  unfold sellC
  obtain ⟨prod, most, ps⟩ := c
  simp only at *
  have hu := (units_ref ps (fun p hp => by have := b4 p hp; omega) (by omega)).val
  have hul := unitsU_len (ps := ps) (fun p hp => by have := b4 p hp; omega)
  have hL := strRows_len (unitsU ps)
  obtain ⟨q1, q2⟩ := sell_pcs (ps := ps) (m := m) (fun p hp => (b4 p hp).2.1) (by
    have := he
    unfold coilErr at this
    split at this
    · omega
    · split at this
      · omega
      · split at this
        · omega
        · split at this
          · rename_i h5; exact absurd this h5
          · rename_i h5; exact pieces_adj (by simpa using h5)) m2
  have p1 := (pieces_fn ((unitsU ps).take m.toNat) (by rw [List.length_take]; omega)).val
  have p2 := (pieces_fn ((unitsU ps).drop m.toNat) (by rw [List.length_drop]; omega)).val
  rw [q1] at p1
  rw [q2] at p2
  unfold Tr.strs at *
  rw [strRows_take] at p1
  rw [strRows_drop] at p2
  generalize (sell m ps).1 = S1 at *
  generalize (sell m ps).2 = S2 at *
  generalize unitsI ps = u at *
  have hl2 : ((strRows (unitsU ps)).length : Int) = u := by rw [hL]; exact hul
  generalize strRows (unitsU ps) = us at *
  clear b4 q1 q2 hul hL h he
  refine PFn.mk (Spec.body Tryz.func21 rfl rfl (Tryz.ntmps21) rfl fun w0 own0 M => ?_)
  unfold Coil.row
  simp only
  repeat' (first | refine goH ?_ | refine goV ?_ | refine goB (fun b => ?_) | refine goG ?_ | (refine Ops.k_guard ?_; first | (refine Ops.guard_dec rfl rfl (fun hc => ?_) (fun hc => ?_) <;> try (exfalso; omega)) | refine Ops.guard_split rfl rfl (fun hc => ?_) (fun hc => ?_)) | refine goI ?_ | (refine Cw.k_cond ?_; first | (refine Cw.cond_dec rfl (fun hc => ?_) (fun hc => ?_) <;> try (exfalso; omega)) | refine Cw.cond_bool rfl (fun hc => ?_) (fun hc => ?_)) | (refine Ops.k_calla ?_; first | (refine Ops.k_callf 43 ?_; refine Ops.callV hu (Evs.cons rfl Evs.nil) rfl ?_) | (refine Ops.k_callf 46 ?_; refine Ops.callV p1 (Evs.cons rfl Evs.nil) rfl ?_) | (refine Ops.k_callf 46 ?_; refine Ops.callV p2 (Evs.cons rfl Evs.nil) rfl ?_)) | (apply OpW.k_call; first | (apply OpW.k_callf 43; exact OpW.callV hu (Evs.cons rfl Evs.nil)) | (apply OpW.k_callf 46; exact OpW.callV p1 (Evs.cons rfl Evs.nil)) | (apply OpW.k_callf 46; exact OpW.callV p2 (Evs.cons rfl Evs.nil))) | refine goR ?_ | refine goP ?_ | apply PSeq.cons | apply PSeq.yes rfl rfl rfl | exact goW | fail)
  all_goals first | (exfalso; omega) | (refine Fin.ret (Ent.trans (Ent.setbox (s := 4) rfl goPk) (Ent.take goTk)) (Outs.many rfl (OutL.cons goOe (OutL.cons goOe (OutL.cons goOe OutL.nil))) rfl) ⟨rfl, rfl⟩)
theorem sellOfBad_fn (c : Coil) (he : coilErr c = 0) (m : Int) (h : sellErr c m ≠ 0) : PFn Tryz.prog 21 [.agg c.row, .int m] (· = .tup [.agg coil0, .sl 2 [], .int (sellErr c m)]) := by
  have hs : sellErr c m = if m < 0 ∨ 1000 < m then 1 else if unitsI c.ps < m then 8 else 0 := by unfold sellErr; rw [if_neg (by omega)]
  obtain ⟨_, b1, b2, b3, b4, b5⟩ := coilErr_ok he
  obtain ⟨prod, most, ps⟩ := c
  simp only at *
  have hu := (units_ref ps (fun p hp => by have := b4 p hp; omega) (by omega)).val
  have hul := unitsU_len (ps := ps) (fun p hp => by have := b4 p hp; omega)
  have hL := strRows_len (unitsU ps)
  unfold Tr.strs at *
  generalize unitsI ps = u at *
  have hl2 : ((strRows (unitsU ps)).length : Int) = u := by rw [hL]; exact hul
  generalize strRows (unitsU ps) = us at *
  generalize sellErr _ _ = e at *
  clear b4 hul hL he
  refine PFn.mk (Spec.body Tryz.func21 rfl rfl (Tryz.ntmps21) rfl fun w0 own0 M => ?_)
  unfold Coil.row
  simp only
  by_cases c1 : m < 0 ∨ 1000 < m
  · rw [if_pos c1] at hs
    subst hs
    repeat' (first | refine goH ?_ | refine goV ?_ | refine goB (fun b => ?_) | refine goG ?_ | (refine Ops.k_guard ?_; first | (refine Ops.guard_dec rfl rfl (fun hc => ?_) (fun hc => ?_) <;> try (exfalso; omega)) | refine Ops.guard_split rfl rfl (fun hc => ?_) (fun hc => ?_)) | refine goI ?_ | (refine Cw.k_cond ?_; first | (refine Cw.cond_dec rfl (fun hc => ?_) (fun hc => ?_) <;> try (exfalso; omega)) | refine Cw.cond_bool rfl (fun hc => ?_) (fun hc => ?_)) | refine goR ?_ | refine goP ?_ | apply PSeq.cons | apply PSeq.yes rfl rfl rfl | exact goW | fail)
    all_goals first | (exfalso; omega) | (refine Fin.ret (Ent.trans (Ent.nilsl 2 (s := 5) rfl) (Ent.trans (Ent.setbox (s := 4) rfl goPk) (Ent.take goTk))) (Outs.many rfl (OutL.cons goOe (OutL.cons goOe (OutL.cons goOe OutL.nil))) rfl) ⟨rfl, rfl⟩)
  · rw [if_neg c1] at hs
    by_cases c2 : u < m
    · rw [if_pos c2] at hs
      subst hs
      repeat' (first | refine goH ?_ | refine goV ?_ | refine goB (fun b => ?_) | refine goG ?_ | (refine Ops.k_guard ?_; first | (refine Ops.guard_dec rfl rfl (fun hc => ?_) (fun hc => ?_) <;> try (exfalso; omega)) | refine Ops.guard_split rfl rfl (fun hc => ?_) (fun hc => ?_)) | refine goI ?_ | (refine Cw.k_cond ?_; first | (refine Cw.cond_dec rfl (fun hc => ?_) (fun hc => ?_) <;> try (exfalso; omega)) | refine Cw.cond_bool rfl (fun hc => ?_) (fun hc => ?_)) | (refine Ops.k_calla ?_; first | (refine Ops.k_callf 43 ?_; refine Ops.callV hu (Evs.cons rfl Evs.nil) rfl ?_)) | (apply OpW.k_call; first | (apply OpW.k_callf 43; exact OpW.callV hu (Evs.cons rfl Evs.nil))) | refine goR ?_ | refine goP ?_ | apply PSeq.cons | apply PSeq.yes rfl rfl rfl | exact goW | fail)
      all_goals first | (exfalso; omega) | (refine Fin.ret (Ent.trans (Ent.nilsl 2 (s := 5) rfl) (Ent.trans (Ent.setbox (s := 4) rfl goPk) (Ent.take goTk))) (Outs.many rfl (OutL.cons goOe (OutL.cons goOe (OutL.cons goOe OutL.nil))) rfl) ⟨rfl, rfl⟩)
    · rw [if_neg c2] at hs
      exact absurd hs h
theorem pieces_gen : Gen Tryz.prog 25 6 [] 20 (fun r => ∃ l : List Piece, r = .pieces l ∧ l.length ≤ 5) := by
  unfold Gen
  intro b xs N hN
  refine Spec.body Tryz.func6 rfl rfl (Tryz.ntmps6) rfl fun w0 own0 M => ?_
  repeat' (first | refine goH ?_ | refine goV ?_ | refine goC (fun ad cap => ?_) | refine goI ?_ | (refine Cw.k_cond ?_; first | (refine Cw.cond_dec rfl (fun hc => ?_) (fun hc => ?_) <;> try (exfalso; omega)) | refine Cw.cond_bool rfl (fun hc => ?_) (fun hc => ?_)) | (refine Ops.k_calla ?_; first | (refine Ops.k_callf 23 ?_; (refine Ops.callG (next_gen _ (by omega)) (Evs.cons rfl (Evs.cons rfl Evs.nil)) goPk (by omega) rfl ?_; rintro r ⟨v, rfl, hv⟩; unfold InRange at hv))) | fail)
  refine Cw.loopI [(0, _), (5, _)] _ (fun q e cc => ∃ (k : Nat) (ad : Option Addr) (cap : Nat) (rows : List (List Tr)) (c : Nat), q = 4 - k ∧ (k ≤ v.toNat ∧ (∃ l : List Piece, rows = l.map Piece.row) ∧ rows.length = k ∧ c ≤ N + 1 + 2 * k) ∧ e = [(3, Tr.raw (.slice ad k cap)), (6, .int k)] ∧ cc = [Chunk.own ad cap 2 51 rows, Chunk.strm 25 b (intRows xs) c])
    ⟨_, _, _, Ent.trans (Ent.nil 2 51) (Ent.mkP goSub goPm), 0, none, 0, [], _, rfl, ⟨by omega, ⟨[], rfl⟩, by simp, by omega⟩, rfl, rfl⟩ ?_
  rintro _ _ _ ⟨k, ad, cap, rows, c, rfl, ⟨hk, ⟨l, hrows⟩, hlen, h3⟩, rfl, rfl⟩
  have hrl : l.length = k := by rw [← hlen, hrows, List.length_map]
  have key : ∀ x : Piece, rows ++ [x.row] = (l ++ [x]).map Piece.row := by intro x; rw [hrows, List.map_append]; rfl
  have hl2 : ∀ x : List Tr, (rows ++ [x]).length = k + 1 := fun x => by rw [List.length_append, hlen]; rfl
  by_cases hkl : (k : Int) < v
  · repeat' (first | refine goH ?_ | refine goV ?_ | refine goC (fun ad cap => ?_) | refine goI ?_ | (refine Cw.k_cond ?_; first | (refine Cw.cond_dec rfl (fun hc => ?_) (fun hc => ?_) <;> try (exfalso; omega)) | refine Cw.cond_bool rfl (fun hc => ?_) (fun hc => ?_)) | (refine Ops.k_calla ?_; first | (refine Ops.k_callf 7 ?_; (refine Ops.callG (pick_gen (by repeat' (first | exact IsInts.nil | apply IsInts.cons)) (by simp)) (Evs.cons rfl (Evs.cons rfl Evs.nil)) goPk (by omega) rfl ?_; rintro r ⟨u, rfl, hu⟩; clear hu)) | (refine Ops.k_callf 24 ?_; (refine Ops.callG (one_gen (by repeat' (first | exact IsStrs.nil | apply IsStrs.cons)) (by simp)) (Evs.cons rfl (Evs.cons rfl Evs.nil)) goPk (by omega) rfl ?_; rintro r ⟨s, rfl, hs⟩; clear hs))) | fail)
    erw [hl2]
    exact ⟨_, _, _, (Ent.mk goSub goTk), ⟨k + 1, _, _, _, _, rfl, ⟨by omega, ⟨_, key ⟨_, _⟩⟩, hl2 _, by omega⟩, rfl, rfl⟩, by omega⟩
  · subst hlen
    repeat' (first | refine goH ?_ | refine goV ?_ | refine goC (fun ad cap => ?_) | refine goI ?_ | (refine Cw.k_cond ?_; first | (refine Cw.cond_dec rfl (fun hc => ?_) (fun hc => ?_) <;> try (exfalso; omega)) | refine Cw.cond_bool rfl (fun hc => ?_) (fun hc => ?_)) | (refine Ops.k_calla ?_; first | (refine Ops.k_callf 25 ?_; (refine Ops.callG (flip_gen _ (by omega)) (Evs.cons rfl (Evs.cons rfl Evs.nil)) goPk (by omega) rfl ?_; rintro r ⟨v2, rfl⟩)) | (refine Ops.k_callf 7 ?_; (refine Ops.callG (pick_gen (by repeat' (first | exact IsInts.nil | apply IsInts.cons)) (by simp)) (Evs.cons rfl (Evs.cons rfl Evs.nil)) goPk (by omega) rfl ?_; rintro r ⟨u, rfl, hu⟩; clear hu)) | (refine Ops.k_callf 24 ?_; (refine Ops.callG (one_gen (by repeat' (first | exact IsStrs.nil | apply IsStrs.cons)) (by simp)) (Evs.cons rfl (Evs.cons rfl Evs.nil)) goPk (by omega) rfl ?_; rintro r ⟨s, rfl, hs⟩; clear hs))) | fail)
    · refine Fin.ret (Ent.trans (Ent.settle (s := 2) rfl goPk rfl) (Ent.strm_only goPk (by omega))) (Outs.one rfl rfl) ⟨rfl, _, congrArg (Tr.sl 2) (key ⟨_, _⟩), ?_⟩
      simp only [List.length_append, List.length_cons, List.length_nil]; omega
    · exact Fin.ret (Ent.trans (Ent.settle (s := 2) rfl goPk rfl) (Ent.strm_only goPk (by omega))) (Outs.one rfl rfl) ⟨rfl, _, congrArg (Tr.sl 2) hrows, by omega⟩
end Lg
end
