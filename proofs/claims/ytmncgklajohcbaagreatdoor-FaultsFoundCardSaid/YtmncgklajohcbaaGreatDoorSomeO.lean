/- A part of the proof of a law of this seat: it adds no condition. By an AI agent. -/
import Derived.Test.YtmncgklajohcbaaGreatDoorFa21
section
set_option linter.all false
set_option maxRecDepth 100000
set_option maxHeartbeats 8000000
namespace Lg
open Go Go.Proofs

/-! ### Diagnose -/
theorem litV_fn (l : List Cd) (hl : l.length ≤ 100000) (key : ByteArray) : PFn Tryz.prog 41 [.cds l, .str key] (· = .wns (litW l key)) := by
  have h1 : PFnO Tryz.prog 41 [.cds l, .str key] 2 32 (· = (litW l key).map Wn.row) := by
    unfold PFnO
    refine Spec.mono (lit_fn l hl key) ?_
    rintro r cs ⟨ad, cap, rfl, rfl⟩
    exact ⟨ad, cap, _, by rw [List.length_map], rfl, rfl⟩
  exact PFn.sl_eq h1.settled fun r h => h
theorem dgW_take {l : List Cd} {wo cs : List ByteArray} {k : Nat} {c : ByteArray} (h : cs[k]? = some c) : dgW l wo (cs.take (k + 1)) = bothW (dgW l wo (cs.take k)) (litW l c) := by rw [take_at h, dgW_snoc]
theorem dgW_len {l : List Cd} (hok : CdOk l) (hl : l.length ≤ 100) (wo cs : List ByteArray) (hc : cs.length ≤ 10) : (dgW l wo cs).length ≤ 5000 := by
  have h1 := (dg_ok hok wo cs).2.2
  have h2 : (cs.length + 2) * (l.length + 3) ≤ 12 * 103 := Nat.mul_le_mul (by omega) (by omega)
  omega
def dgE (l : List Cd) (rs : List Ru) : Int := if codesE l ≠ 0 then codesE l else rulesE rs
theorem diag_bad (l : List Cd) (hl : l.length ≤ 100) (rs : List Ru) (hr : rs.length ≤ 50) (hB : RuB rs) (h : dgE l rs ≠ 0) : PFn Tryz.prog 15 [.cds l, .rus rs] (· = .tup [.fds [], .int (dgE l rs)]) := by
  have k0 := checkCodes_fn l (by omega)
  have k1 := checkRules_fn rs (by omega) hB
  unfold dgE at h ⊢
  by_cases hE : codesE l ≠ 0
  · rw [if_pos hE]
    generalize codesE l = E at *
    refine PFn.mk (Spec.body Tryz.func15 rfl rfl (Tryz.ntmps15) rfl fun w0 own0 M => ?_)
    repeat' (first | refine goH ?_ | refine goV ?_ | refine goB (fun b => ?_) | refine goC (fun ad cap => ?_) | refine goI ?_ | (refine Cw.k_cond ?_; first | (refine Cw.cond_dec rfl (fun hc => ?_) (fun hc => ?_) <;> try (exfalso; omega)) | refine Cw.cond_bool rfl (fun hc => ?_) (fun hc => ?_)) | (refine Ops.k_calla ?_; first | (refine Ops.k_callf 10 ?_; refine Ops.callV k0 (Evs.cons rfl Evs.nil) rfl ?_)) | fail)
    refine Fin.ret (Ent.trans (Ent.nilsl 3 (s := 4) rfl) (Ent.take goTk)) (Outs.many rfl (OutL.cons goOe (OutL.cons goOe OutL.nil)) rfl) ⟨rfl, rfl⟩
  · rw [if_neg hE] at h ⊢
    rw [show codesE l = 0 by omega] at k0
    generalize rulesE rs = E at *
    refine PFn.mk (Spec.body Tryz.func15 rfl rfl (Tryz.ntmps15) rfl fun w0 own0 M => ?_)
    repeat' (first | refine goH ?_ | refine goV ?_ | refine goB (fun b => ?_) | refine goC (fun ad cap => ?_) | refine goI ?_ | (refine Cw.k_cond ?_; first | (refine Cw.cond_dec rfl (fun hc => ?_) (fun hc => ?_) <;> try (exfalso; omega)) | refine Cw.cond_bool rfl (fun hc => ?_) (fun hc => ?_)) | (refine Ops.k_calla ?_; first | (refine Ops.k_callf 10 ?_; refine Ops.callV k0 (Evs.cons rfl Evs.nil) rfl ?_) | (refine Ops.k_callf 11 ?_; refine Ops.callV k1 (Evs.cons rfl Evs.nil) rfl ?_)) | fail)
    refine Fin.ret (Ent.trans (Ent.nilsl 3 (s := 4) rfl) (Ent.take goTk)) (Outs.many rfl (OutL.cons goOe (OutL.cons goOe OutL.nil)) rfl) ⟨rfl, rfl⟩
theorem diag_ok (l : List Cd) (hl : l.length ≤ 100) (hE : codesE l = 0) (rs : List Ru) (hr : rs.length ≤ 50) (hR : rulesE rs = 0) (hB : ∀ x ∈ rs, x.nds.length ≤ 10 ∧ x.wo.length ≤ 10) (hlo : ∀ x ∈ rs, -1000000000 ≤ x.lng ∧ x.lng ≤ 1000000000) (Y : List Fd) (hY1 : Y.Perm (fdAll l rs)) (hY2 : Y.Pairwise fun a b => ¬ cfFd b a < 0) : PFn Tryz.prog 15 [.cds l, .rus rs] (· = .tup [.fds (dd Y), .int 0]) := by
  have hL : (rs.map Ru.row).length = rs.length := List.length_map _
  have k0 := checkCodes_fn l (by omega)
  have k1 := checkRules_fn rs (by omega) (fun x hx => by have := hB x hx; omega)
  rw [hE] at k0
  rw [hR] at k1
  have hok := (codes_ok hE).2
  have hfl : ∀ k, (fdAll l (rs.take k)).length ≤ 6000 := fun k => by
    have h1 := fdAll_len hok (rs.take k)
    have h2 : (rs.take k).length ≤ 50 := by rw [List.length_take]; omega
    have h3 : (rs.take k).length * (l.length + 2) ≤ 50 * 102 := Nat.mul_le_mul h2 (by omega)
    omega
  clear hE hR
  refine PFn.mk (Spec.body Tryz.func15 rfl rfl (Tryz.ntmps15) rfl fun w0 own0 M => ?_)
  repeat' (first | refine goH ?_ | refine goV ?_ | refine goB (fun b => ?_) | refine goC (fun ad cap => ?_) | refine goI ?_ | (refine Cw.k_cond ?_; first | (refine Cw.cond_dec rfl (fun hc => ?_) (fun hc => ?_) <;> try (exfalso; omega)) | refine Cw.cond_bool rfl (fun hc => ?_) (fun hc => ?_)) | (refine Ops.k_calla ?_; first | (refine Ops.k_callf 10 ?_; refine Ops.callV k0 (Evs.cons rfl Evs.nil) rfl ?_) | (refine Ops.k_callf 11 ?_; refine Ops.callV k1 (Evs.cons rfl Evs.nil) rfl ?_)) | fail)
  refine Cw.loopI [(0, _), (26, _), (27, _)] _ (fun q e c => ∃ (k : Nat) (ad : Option Addr) (cap : Nat) (rows : List (List Tr)), q = rs.length - k ∧ (k ≤ rs.length ∧ rows = (fdAll l (rs.take k)).map Fd.row) ∧ e = [(8, Tr.raw (.slice ad rows.length cap)), (28, .int k)] ∧ c = [Chunk.own ad cap 3 55 rows])
    ⟨_, _, _, Ent.trans (Ent.nil 3 55) (Ent.mkP goSub goPm), 0, none, 0, [], rfl, ⟨by omega, rfl⟩, rfl, rfl⟩ ?_
  rintro _ _ _ ⟨k, ad, cap, rows, rfl, ⟨hk, hrows⟩, rfl, rfl⟩
  have hrl : rows.length ≤ 6000 := by rw [hrows, List.length_map]; exact hfl k
  by_cases hkl : k < rs.length
  rotate_left
  · rw [List.take_of_length_le (by omega)] at hrows
    have hLn := hfl rs.length
    rw [List.take_length] at hLn
    have kS := fun ad cap => fdLtD_sort (fdAll l rs) (by omega) ad cap rows.length (by rw [hrows, List.length_map])
    rw [← hrows] at kS
    have hYl : rows.length = Y.length := by rw [hrows, List.length_map, hY1.length_eq]
    have kC := fun (ad : Option Addr) (cap : Nat) => compact_fd (ad := ad) (cap := cap) (n := rows.length) Y hYl (by omega)
    have hDl : ((dd Y).map Fd.row).length = (dd Y).length := List.length_map _
    rw [← hDl] at kC
    repeat' (first | refine goH ?_ | refine goV ?_ | refine goB (fun b => ?_) | refine goC (fun ad cap => ?_) | refine goI ?_ | (refine Cw.k_cond ?_; first | (refine Cw.cond_dec rfl (fun hc => ?_) (fun hc => ?_) <;> try (exfalso; omega)) | refine Cw.cond_bool rfl (fun hc => ?_) (fun hc => ?_)) | (refine Ops.k_calla ?_; first | (refine Ops.k_callf 47 ?_; (refine Ops.call (kS _ _) (Evs.cons rfl (Evs.cons rfl Evs.nil)) goPm rfl ?_; rintro r cs' ⟨ys, hy1, hy2, rfl⟩; have hyY := fd_uniq hy1 hY1 hy2 hY2; subst hyY)) | (refine Ops.k_callf 49 ?_; (refine Ops.call (kC _ _) (Evs.cons rfl Evs.nil) goPm rfl ?_; rintro r cs' ⟨m, rfl, rfl, rfl⟩))) | fail)
    refine Fin.ret (Ent.trans (Ent.settle (s := 4) rfl goPk rfl) (Ent.take goTk)) (Outs.many rfl (OutL.cons goOe (OutL.cons goOe OutL.nil)) rfl) ⟨rfl, rfl⟩
  obtain ⟨x, hx⟩ := at_lt hkl
  have hrow : (rs.map Ru.row)[k]? = some [.str x.flt, .strs x.nds, .strs x.wo, .int x.lng] := rows_at hx
  have hxb := hB x (List.mem_of_getElem? hx)
  have hxl := hlo x (List.mem_of_getElem? hx)
  have hnext := fdAll_take (l := l) hx
  obtain ⟨N2, hN2⟩ : ∃ N2, N2 = fdAll l (rs.take (k + 1)) := ⟨_, rfl⟩
  rw [← hN2] at hnext
  have hruW := fun W h1 h2 => dg_ruW (W := W) hok x h1 h2
  obtain ⟨_, _, hWn, hWb⟩ := ruW_ok hok x
  have hfw := fun j => fdW_len x ((ruW l x).take j)
  have hft := fun (j : Nat) (w : Wn) (h : (ruW l x)[j]? = some w) => fdW_take (x := x) h
  generalize ruW l x = W at *
  have hdl := fun cs hc => dgW_len hok hl x.wo cs hc
  have hds := fun (j : Nat) (c : ByteArray) (h : x.nds[j]? = some c) => dgW_take (l := l) (wo := x.wo) h
  have hdo := (dg_ok hok x.wo x.nds).1
  have k2 := someOnV_fn l hl hok x.wo (by omega)
  have hd0 : dgW l x.wo (x.nds.take 0) = otW (whenW (momL l) (anyOn l x.wo)) := rfl
  have hA := (anyWhen hok x.wo).2.2
  have hO := hdl (x.nds.take 0) (by simp)
  rw [hd0] at hO
  generalize whenW (momL l) (anyOn l x.wo) = A at *
  have k3 := others_fn A (by omega)
  generalize hOg : otW A = O at *
  have hOl : (O.map Wn.row).length = O.length := List.length_map _
  rw [← hOl] at k3
  clear hx hB hlo
  obtain ⟨xf, xn, xw, xl⟩ := x
  simp only at hrow hxb hxl hruW hft hfw hdl hds hdo k2 hd0 hnext
  have hnl := strRows_len xn
  have hwl := strRows_len xw
  repeat' (first | refine goH ?_ | refine goV ?_ | refine goB (fun b => ?_) | refine goC (fun ad cap => ?_) | refine goI ?_ | (refine Cw.k_cond ?_; first | (refine Cw.cond_dec rfl (fun hc => ?_) (fun hc => ?_) <;> try (exfalso; omega)) | refine Cw.cond_bool rfl (fun hc => ?_) (fun hc => ?_)) | (refine Ops.k_calla ?_; first | (refine Ops.k_callf 44 ?_; refine Ops.callV k2 (Evs.cons rfl (Evs.cons rfl Evs.nil)) rfl ?_) | (refine Ops.k_callf 45 ?_; (refine Ops.call k3 (Evs.cons rfl Evs.nil) goPm rfl ?_; rintro r cs' ⟨ad2, cap2, rfl, rfl⟩))) | fail)
  refine Cw.loopI [(0, _), (8, _), (10, _), (26, _), (27, _), (28, _), (38, _), (39, _)] _ (fun q e c => ∃ (j : Nat) (ad2 : Option Addr) (cap2 : Nat) (rows2 : List (List Tr)), q = xn.length - j ∧ (j ≤ xn.length ∧ rows2 = (dgW l xw (xn.take j)).map Wn.row) ∧ e = [(11, Tr.raw (.slice ad2 rows2.length cap2)), (40, .int j)] ∧ c = [Chunk.own ad2 cap2 2 32 rows2])
    ⟨_, _, _, (Ent.mkP goSub goPm), 0, ad2, cap2, O.map Wn.row, rfl, ⟨by omega, by rw [hd0]⟩, rfl, rfl⟩ ?_
  clear k2 k3 hd0 hOg hO hOl
  rintro _ _ _ ⟨j, ad2, cap2, rows2, rfl, ⟨hj, hrows2⟩, rfl, rfl⟩
  by_cases hjl : j < xn.length
  · obtain ⟨c, hc⟩ := at_lt hjl
    have hrowc := strRows_at hc
    have hst := hds j c hc
    have hDl := hdl (xn.take j) (by rw [List.length_take]; omega)
    have kL := litV_fn l (by omega) c
    have hLl := (litW_ok (key := c) hok).2.2
    have kB := both_fn (dgW l xw (xn.take j)) (litW l c) (by omega) (by omega)
    rw [← hst] at kB
    have hNl : ((dgW l xw (xn.take (j + 1))).map Wn.row).length = (dgW l xw (xn.take (j + 1))).length := List.length_map _
    rw [← hNl] at kB
    subst hrows2
    generalize hD2 : (dgW l xw (xn.take (j + 1))).map Wn.row = rows3 at *
    generalize dgW l xw (xn.take j) = D at *
    generalize litW l c = Lc at *
    clear hst hc
    refine Cw.ent (Ent.settle (s := 11) rfl goPk rfl) ?_
    repeat' (first | refine goH ?_ | refine goV ?_ | refine goB (fun b => ?_) | refine goC (fun ad cap => ?_) | refine goI ?_ | (refine Cw.k_cond ?_; first | (refine Cw.cond_dec rfl (fun hc => ?_) (fun hc => ?_) <;> try (exfalso; omega)) | refine Cw.cond_bool rfl (fun hc => ?_) (fun hc => ?_)) | (refine Ops.k_calla ?_; first | (refine Ops.k_callf 41 ?_; refine Ops.callV kL (Evs.cons rfl (Evs.cons rfl Evs.nil)) rfl ?_) | (refine Ops.k_callf 43 ?_; (refine Ops.call kB (Evs.cons rfl (Evs.cons rfl Evs.nil)) goPm rfl ?_; rintro r cs' ⟨ad3, cap3, rfl, rfl⟩))) | fail)
    exact ⟨_, _, _, (Ent.mk goSub goTk), ⟨j + 1, _, _, rows3, rfl, ⟨by omega, hD2.symm⟩, rfl, rfl⟩, by omega⟩
  rw [List.take_of_length_le (by omega)] at hrows2
  have hDl := hdl xn (by omega)
  have hR2 : rows2.length = (dgW l xw xn).length := by rw [hrows2, List.length_map]
  have kJ := fun ad cap => joined_fn (dgW l xw xn) (by omega) (fun w hw => hdo.ne w hw) ad cap rows2.length hR2
  rw [← hrows2] at kJ
  clear hdl hds hrows2 hdo
  repeat' (first | refine goH ?_ | refine goV ?_ | refine goB (fun b => ?_) | refine goC (fun ad cap => ?_) | refine goI ?_ | (refine Cw.k_cond ?_; first | (refine Cw.cond_dec rfl (fun hc => ?_) (fun hc => ?_) <;> try (exfalso; omega)) | refine Cw.cond_bool rfl (fun hc => ?_) (fun hc => ?_)) | (refine Ops.k_calla ?_; first | (refine Ops.k_callf 46 ?_; (refine Ops.call (kJ _ _) (Evs.cons rfl Evs.nil) goPm rfl ?_; rintro r cs' ⟨W2, ad3, cap3, ⟨hc1, hc2, hc3⟩, rfl, rfl⟩; have hWW := hruW W2 hc1 hc2; subst hWW; have hWl : (W2.map Wn.row).length = W2.length := List.length_map _; rw [← hWl]; refine Ops.ent (Ent.settle (s := 51) rfl goPk rfl) ?_))) | fail)
  clear hc1 hc2 hc3 hruW hR2
  refine Cw.loopI [(0, _), (10, _), (26, _), (27, _), (28, _), (51, _), (52, _)] _ (fun q e c => ∃ (j : Nat) (ad : Option Addr) (cap : Nat) (rows2 : List (List Tr)), q = W2.length - j ∧ (j ≤ W2.length ∧ rows2 = (fdAll l (rs.take k) ++ fdW ⟨xf, xn, xw, xl⟩ (W2.take j)).map Fd.row ∧ rows2.length ≤ 6000 + j) ∧ e = [(8, Tr.raw (.slice ad rows2.length cap)), (53, .int j)] ∧ c = [Chunk.own ad cap 3 55 rows2])
    ⟨_, _, _, (Ent.mkP goSub goPm), 0, ad, cap, rows, rfl, ⟨by omega, by rw [hrows, show fdW ⟨xf, xn, xw, xl⟩ (W2.take 0) = [] from rfl, List.append_nil], by omega⟩, rfl, rfl⟩ ?_
  rintro _ _ _ ⟨j, ad, cap, rows2, rfl, ⟨hj, hrows2, hrl2⟩, rfl, rfl⟩
  by_cases hjl : j < W2.length
  · obtain ⟨w, hw⟩ := at_lt hjl
    have hroww : (W2.map Wn.row)[j]? = some [.int w.fr, .int w.to] := rows_at hw
    have hwb := hWb w (List.mem_of_getElem? hw)
    have hst := hft j w hw
    obtain ⟨wf, wt⟩ := w
    simp only at hroww hwb hst
    by_cases hkeep : wt - wf ≥ xl
    · rw [if_pos hkeep] at hst
      have hr3 : rows2 ++ [[Tr.str xf, Tr.int wf, Tr.int wt]] = (fdAll l (rs.take k) ++ fdW ⟨xf, xn, xw, xl⟩ (W2.take (j + 1))).map Fd.row := by rw [hrows2, fdRows_snoc, hst, List.append_assoc]
      clear hw hst hrows2 hft hfw
      repeat' (first | refine goH ?_ | refine goV ?_ | refine goB (fun b => ?_) | refine goC (fun ad cap => ?_) | refine goI ?_ | (refine Cw.k_cond ?_; first | (refine Cw.cond_dec rfl (fun hc => ?_) (fun hc => ?_) <;> try (exfalso; omega)) | refine Cw.cond_bool rfl (fun hc => ?_) (fun hc => ?_)) | fail)
      all_goals first | (exfalso; omega) | exact ⟨_, _, _, (Ent.mk goSub goTk), ⟨j + 1, _, _, _, rfl, ⟨by omega, hr3, by rw [List.length_append]; simp; omega⟩, rfl, rfl⟩, by omega⟩
    · rw [if_neg hkeep, List.append_nil] at hst
      rw [← hst] at hrows2
      clear hw hst hft hfw
      repeat' (first | refine goH ?_ | refine goV ?_ | refine goB (fun b => ?_) | refine goC (fun ad cap => ?_) | refine goI ?_ | (refine Cw.k_cond ?_; first | (refine Cw.cond_dec rfl (fun hc => ?_) (fun hc => ?_) <;> try (exfalso; omega)) | refine Cw.cond_bool rfl (fun hc => ?_) (fun hc => ?_)) | fail)
      all_goals first | (exfalso; omega) | exact ⟨_, _, _, (Ent.mk goSub goTk), ⟨j + 1, _, _, _, rfl, ⟨by omega, hrows2, by omega⟩, rfl, rfl⟩, by omega⟩
  · rw [show W2.take j = W2 from List.take_of_length_le (by omega), ← hnext, hN2] at hrows2
    repeat' (first | refine goH ?_ | refine goV ?_ | refine goB (fun b => ?_) | refine goC (fun ad cap => ?_) | refine goI ?_ | (refine Cw.k_cond ?_; first | (refine Cw.cond_dec rfl (fun hc => ?_) (fun hc => ?_) <;> try (exfalso; omega)) | refine Cw.cond_bool rfl (fun hc => ?_) (fun hc => ?_)) | fail)
    exact ⟨_, _, _, (Ent.mk goSub goTk), ⟨k + 1, _, _, _, rfl, ⟨by omega, hrows2⟩, rfl, rfl⟩, by omega⟩
end Lg
end
section
set_option linter.all false
set_option maxRecDepth 100000
set_option maxHeartbeats 8000000
namespace Lg
open Go Go.Proofs

/-- some of some strings, settled -/
theorem someV_gen (odds : Int) (ho : 0 ≤ odds ∧ odds ≤ 1000) (l : List ByteArray) (hl : l.length ≤ 10) : Gen Tryz.prog 25 28 [.int odds, .strs l] 10 (fun x => ∃ m : List ByteArray, x = .strs m ∧ m.length ≤ 10) := by
  unfold Gen
  intro bs xs N hN
  refine Spec.body Tryz.func28 rfl rfl (Tryz.ntmps28) rfl fun w0 own0 M => ?_
  have hL := strRows_len l
  repeat' (first | refine goH ?_ | refine goV ?_ | refine goC (fun ad cap => ?_) | refine goI ?_ | (refine Cw.k_cond ?_; first | (refine Cw.cond_dec rfl (fun hc => ?_) (fun hc => ?_) <;> try (exfalso; omega)) | refine Cw.cond_bool rfl (fun hc => ?_) (fun hc => ?_)) | fail)
  refine Cw.loopI [(0, _), (1, _), (10, _), (11, _)] _ (fun q e cc => ∃ (k : Nat) (ad : Option Addr) (cap : Nat) (m : List ByteArray) (c : Nat), q = l.length - k ∧ (k ≤ l.length ∧ m.length ≤ k ∧ c ≤ N + k) ∧ e = [(7, Tr.raw (.slice ad (strRows m).length cap)), (12, .int k)] ∧ cc = [Chunk.own ad cap 1 9 (strRows m), Chunk.strm 25 bs (intRows xs) c])
    ⟨_, _, _, Ent.trans (Ent.nil 1 9) (Ent.mkP goSub goPm), 0, none, 0, [], N, rfl, ⟨by omega, by simp, by omega⟩, rfl, rfl⟩ ?_
  rintro _ _ _ ⟨k, ad, cap, m, c, rfl, ⟨hk, hml, h3⟩, rfl, rfl⟩
  have hmr := strRows_len m
  by_cases hkl : k < l.length
  · obtain ⟨x, hx⟩ := at_lt hkl
    have hrow := strRows_at hx
    have key : strRows m ++ [[Tr.str x]] = strRows (m ++ [x]) := by rw [strRows_app]; rfl
    repeat' (first | refine goH ?_ | refine goV ?_ | refine goC (fun ad cap => ?_) | refine goI ?_ | (refine Cw.k_cond ?_; first | (refine Cw.cond_dec rfl (fun hc => ?_) (fun hc => ?_) <;> try (exfalso; omega)) | refine Cw.cond_bool rfl (fun hc => ?_) (fun hc => ?_)) | (refine Ops.k_calla ?_; first | (refine Ops.k_callf 27 ?_; (refine Ops.callG (flip_gen _ (by omega)) (Evs.cons rfl (Evs.cons rfl Evs.nil)) goPk (by omega) rfl ?_; rintro r ⟨v, rfl⟩))) | fail)
    · rw [key]
      exact ⟨_, _, _, (Ent.mk goSub goTk), ⟨k + 1, _, _, m ++ [x], _, rfl, ⟨by omega, by simp; omega, by omega⟩, rfl, rfl⟩, by omega⟩
    · exact ⟨_, _, _, (Ent.mk goSub goTk), ⟨k + 1, _, _, m, _, rfl, ⟨by omega, by omega, by omega⟩, rfl, rfl⟩, by omega⟩
  · repeat' (first | refine goH ?_ | refine goV ?_ | refine goC (fun ad cap => ?_) | refine goI ?_ | (refine Cw.k_cond ?_; first | (refine Cw.cond_dec rfl (fun hc => ?_) (fun hc => ?_) <;> try (exfalso; omega)) | refine Cw.cond_bool rfl (fun hc => ?_) (fun hc => ?_)) | fail)
    refine Fin.ret (Ent.trans (Ent.settle (s := 6) rfl goPk rfl) (Ent.strm_only goPk (by omega))) (Outs.sole rfl goOe) ⟨rfl, m, rfl, by omega⟩
end Lg
end
section
set_option linter.all false
set_option maxRecDepth 100000
set_option maxHeartbeats 8000000
namespace Lg
open Go Go.Proofs

theorem someO_gen (odds : Int) (ho : 0 ≤ odds ∧ odds ≤ 1000) (l : List ByteArray) (hl : l.length ≤ 10) : GenO Tryz.prog 25 28 [.int odds, .strs l] 10 1 9 (fun rows => ∃ m : List ByteArray, rows = strRows m ∧ m.length ≤ 10) := by
  unfold GenO
  intro bs xs N hN
  refine Spec.body Tryz.func28 rfl rfl (Tryz.ntmps28) rfl fun w0 own0 M => ?_
  have hL := strRows_len l
  repeat' (first | refine goH ?_ | refine goV ?_ | refine goC (fun ad cap => ?_) | refine goI ?_ | (refine Cw.k_cond ?_; first | (refine Cw.cond_dec rfl (fun hc => ?_) (fun hc => ?_) <;> try (exfalso; omega)) | refine Cw.cond_bool rfl (fun hc => ?_) (fun hc => ?_)) | fail)
  refine Cw.loopI [(0, _), (1, _), (10, _), (11, _)] _ (fun q e cc => ∃ (k : Nat) (ad : Option Addr) (cap : Nat) (m : List ByteArray) (c : Nat), q = l.length - k ∧ (k ≤ l.length ∧ m.length ≤ k ∧ c ≤ N + k) ∧ e = [(7, Tr.raw (.slice ad (strRows m).length cap)), (12, .int k)] ∧ cc = [Chunk.own ad cap 1 9 (strRows m), Chunk.strm 25 bs (intRows xs) c])
    ⟨_, _, _, Ent.trans (Ent.nil 1 9) (Ent.mkP goSub goPm), 0, none, 0, [], N, rfl, ⟨by omega, by simp, by omega⟩, rfl, rfl⟩ ?_
  rintro _ _ _ ⟨k, ad, cap, m, c, rfl, ⟨hk, hml, h3⟩, rfl, rfl⟩
  have hmr := strRows_len m
  by_cases hkl : k < l.length
  · obtain ⟨x, hx⟩ := at_lt hkl
    have hrow := strRows_at hx
    have key : strRows m ++ [[Tr.str x]] = strRows (m ++ [x]) := by rw [strRows_app]; rfl
    repeat' (first | refine goH ?_ | refine goV ?_ | refine goC (fun ad cap => ?_) | refine goI ?_ | (refine Cw.k_cond ?_; first | (refine Cw.cond_dec rfl (fun hc => ?_) (fun hc => ?_) <;> try (exfalso; omega)) | refine Cw.cond_bool rfl (fun hc => ?_) (fun hc => ?_)) | (refine Ops.k_calla ?_; first | (refine Ops.k_callf 27 ?_; (refine Ops.callG (flip_gen _ (by omega)) (Evs.cons rfl (Evs.cons rfl Evs.nil)) goPk (by omega) rfl ?_; rintro r ⟨v, rfl⟩))) | fail)
    · rw [key]
      exact ⟨_, _, _, (Ent.mk goSub goTk), ⟨k + 1, _, _, m ++ [x], _, rfl, ⟨by omega, by simp; omega, by omega⟩, rfl, rfl⟩, by omega⟩
    · exact ⟨_, _, _, (Ent.mk goSub goTk), ⟨k + 1, _, _, m, _, rfl, ⟨by omega, by omega, by omega⟩, rfl, rfl⟩, by omega⟩
  · repeat' (first | refine goH ?_ | refine goV ?_ | refine goC (fun ad cap => ?_) | refine goI ?_ | (refine Cw.k_cond ?_; first | (refine Cw.cond_dec rfl (fun hc => ?_) (fun hc => ?_) <;> try (exfalso; omega)) | refine Cw.cond_bool rfl (fun hc => ?_) (fun hc => ?_)) | fail)
    exact Fin.ret (Ent.trans (Ent.take (Take.cons goPk (Take.cons goPk Take.nil))) (Ent.trans (Ent.perm (List.Perm.swap _ _ _)) (Ent.trans (Ent.more_strm (show c ≤ N + 10 by omega)) (Ent.perm (List.Perm.swap _ _ _))))) (Outs.one rfl rfl) ⟨ad, cap, strRows m, rfl, rfl, m, rfl, by omega⟩
end Lg
end
