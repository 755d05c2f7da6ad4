/- A part of the proof of a law of this seat: it adds no condition. By an AI agent. -/
import Derived.Test.YtmncgklajohcbaaGreatDoorFa18
section
set_option linter.all false
set_option maxRecDepth 100000
set_option maxHeartbeats 8000000
namespace Lg
open Go Go.Proofs

/-! ### what follows of rules -/
def keepW (x : Ru) (w : Wn) : Bool := decide (w.to - w.fr ≥ x.lng)
def fdW (x : Ru) (ws : List Wn) : List Fd := (ws.filter (keepW x)).map fun w => ⟨x.flt, w.fr, w.to⟩
theorem fdW_take {x : Ru} {ws : List Wn} {k : Nat} {w : Wn} (h : ws[k]? = some w) : fdW x (ws.take (k + 1)) = fdW x (ws.take k) ++ (if w.to - w.fr ≥ x.lng then [⟨x.flt, w.fr, w.to⟩] else []) := by
  unfold fdW
  rw [take_at h, List.filter_append, List.map_append]
  congr 1
  by_cases h1 : w.to - w.fr ≥ x.lng
  · simp [keepW, h1]
  · simp [keepW, h1]
theorem fdW_len (x : Ru) (ws : List Wn) : (fdW x ws).length ≤ ws.length := by unfold fdW; rw [List.length_map]; exact List.length_filter_le _ _
def ruW (l : List Cd) (x : Ru) : List Wn := whenW (momL l) (ruIs l x)
theorem ruW_ok {l : List Cd} (hok : CdOk l) (x : Ru) : Can (ruW l x) ∧ (∀ t, memW (ruW l x) t ↔ (0 ≤ t ∧ t < tEnd ∧ ruIs l x t = true)) ∧ (ruW l x).length ≤ l.length + 2 ∧ ∀ w ∈ ruW l x, 0 ≤ w.fr ∧ w.fr < w.to ∧ w.to ≤ 5761440 := by
  obtain ⟨g1, g2, g3⟩ := mom_when hok (fun g => !(x.nds.any fun c => !g c) && !(x.wo.any fun c => g c))
  refine ⟨g1, g2, Nat.le_trans g3 (momL_len l), fun w hw => ?_⟩
  have hne := g1.ne w hw
  have h1 := (g2 w.fr).1 ⟨w, hw, Int.le_refl _, hne⟩
  have h2 := (g2 (w.to - 1)).1 ⟨w, hw, by omega, by omega⟩
  have he : tEnd = 5761440 := rfl
  rw [he] at h2
  omega
def fdAll (l : List Cd) (rs : List Ru) : List Fd := rs.flatMap fun x => fdW x (ruW l x)
theorem fdAll_take {l : List Cd} {rs : List Ru} {k : Nat} {x : Ru} (h : rs[k]? = some x) : fdAll l (rs.take (k + 1)) = fdAll l (rs.take k) ++ fdW x (ruW l x) := by
  unfold fdAll
  rw [take_at h, List.flatMap_append]
  simp
theorem fdAll_len {l : List Cd} (hok : CdOk l) : ∀ rs : List Ru, (fdAll l rs).length ≤ rs.length * (l.length + 2)
  | [] => by simp [fdAll]
  | x :: rs => by
    have ih := fdAll_len hok rs
    have h1 := Nat.le_trans (fdW_len x (ruW l x)) (ruW_ok hok x).2.2.1
    unfold fdAll at ih ⊢
    rw [List.flatMap_cons, List.length_append, List.length_cons, Nat.add_mul]
    omega
theorem fdRows_snoc (L : List Fd) (s : ByteArray) (a b : Int) : L.map Fd.row ++ [[Tr.str s, Tr.int a, Tr.int b]] = (L ++ ([⟨s, a, b⟩] : List Fd)).map Fd.row := by rw [List.map_append]; rfl
end Lg
end
section
set_option linter.all false
set_option maxRecDepth 100000
set_option maxHeartbeats 8000000
namespace Lg
open Go Go.Proofs

theorem findingsOf_fn (l : List Cd) (hl : l.length ≤ 100) (hok : CdOk l) (rs : List Ru) (hr : rs.length ≤ 50) (hB : RuB rs) (hlo : ∀ x ∈ rs, -1000000000 ≤ x.lng ∧ x.lng ≤ 1000000000) (Y : List Fd) (hY1 : Y.Perm (fdAll l rs)) (hY2 : Y.Pairwise fun a b => ¬ cfFd b a < 0) : PFn Tryz.prog 23 [.cds l, .rus rs] (· = .fds (dd Y)) := by
  have hL : (rs.map Ru.row).length = rs.length := List.length_map _
  have k1 := moments_fn l (by omega)
  have hml := momL_len l
  have hfl : ∀ k, (fdAll l (rs.take k)).length ≤ 6000 := fun k => by
    have h1 := fdAll_len hok (rs.take k)
    have h2 : (rs.take k).length ≤ 50 := by rw [List.length_take]; omega
    have h3 : (rs.take k).length * (l.length + 2) ≤ 50 * 102 := Nat.mul_le_mul h2 (by omega)
    omega
  refine PFn.mk (Spec.body Tryz.func23 rfl rfl (Tryz.ntmps23) rfl fun w0 own0 M => ?_)
  repeat' (first | refine goH ?_ | refine goV ?_ | refine goB (fun b => ?_) | refine goC (fun ad cap => ?_) | refine goI ?_ | (refine Cw.k_cond ?_; first | (refine Cw.cond_dec rfl (fun hc => ?_) (fun hc => ?_) <;> try (exfalso; omega)) | refine Cw.cond_bool rfl (fun hc => ?_) (fun hc => ?_)) | fail)
  obtain ⟨b2, rfl⟩ : ∃ b2, b2 = b := ⟨_, rfl⟩
  refine Cw.loopI [(2, _), (10, _), (11, _)] _ (fun q e c => ∃ (k : Nat) (ad : Option Addr) (cap : Nat) (rows : List (List Tr)), q = rs.length - k ∧ (k ≤ rs.length ∧ rows = (fdAll l (rs.take k)).map Fd.row) ∧ e = [(5, Tr.raw (.slice ad rows.length cap)), (12, .int k)] ∧ c = [Chunk.own ad cap 3 55 rows])
    ⟨_, _, _, Ent.trans (Ent.nil 3 55) (Ent.mkP goSub goPm), 0, none, 0, [], rfl, ⟨by omega, rfl⟩, rfl, rfl⟩ ?_
  rintro _ _ _ ⟨k, ad, cap, rows, rfl, ⟨hk, hrows⟩, rfl, rfl⟩
  have hrl : rows.length ≤ 6000 := by rw [hrows, List.length_map]; exact hfl k
  by_cases hkl : k < rs.length
  rotate_left
  · rw [List.take_of_length_le (by omega)] at hrows
    have hLn := hfl rs.length
    rw [List.take_length] at hLn
    have kS := fun ad cap => fdLtR_sort (fdAll l rs) (by omega) ad cap rows.length (by rw [hrows, List.length_map])
    rw [← hrows] at kS
    have hYl : rows.length = Y.length := by rw [hrows, List.length_map, hY1.length_eq]
    have kC := fun (ad : Option Addr) (cap : Nat) => compact_fd (ad := ad) (cap := cap) (n := rows.length) Y hYl (by omega)
    have hDl : ((dd Y).map Fd.row).length = (dd Y).length := List.length_map _
    rw [← hDl] at kC
    repeat' (first | refine goH ?_ | refine goV ?_ | refine goB (fun b => ?_) | refine goC (fun ad cap => ?_) | refine goI ?_ | (refine Cw.k_cond ?_; first | (refine Cw.cond_dec rfl (fun hc => ?_) (fun hc => ?_) <;> try (exfalso; omega)) | refine Cw.cond_bool rfl (fun hc => ?_) (fun hc => ?_)) | (refine Ops.k_calla ?_; first | (refine Ops.k_callf 47 ?_; (refine Ops.call (kS _ _) (Evs.cons rfl (Evs.cons rfl Evs.nil)) goPm rfl ?_; rintro r cs' ⟨ys, hy1, hy2, rfl⟩; have hyY := fd_uniq hy1 hY1 hy2 hY2; subst hyY)) | (refine Ops.k_callf 49 ?_; (refine Ops.call (kC _ _) (Evs.cons rfl Evs.nil) goPm rfl ?_; rintro r cs' ⟨m, rfl, rfl, rfl⟩))) | fail)
    refine Fin.ret (Ent.trans (Ent.settle (s := 4) rfl goPk rfl) (Ent.take goTk)) (Outs.sole rfl goOe) ⟨rfl, rfl⟩
  obtain ⟨x, hx⟩ := at_lt hkl
  have hrow : (rs.map Ru.row)[k]? = some [.str x.flt, .strs x.nds, .strs x.wo, .int x.lng] := rows_at hx
  have hxb := hB x (List.mem_of_getElem? hx)
  have hxl := hlo x (List.mem_of_getElem? hx)
  have hnext := fdAll_take (l := l) hx
  have k2 := fun bx => whenSo_fn (momL l) (momL_inc l) (by omega) (mom_two hok) (ruIs l x) (g := 59) (caps := [.pointer (some ⟨bx, 0, none⟩), .pointer (some ⟨b2, 0, none⟩)]) (cin := [Chunk.box bx 65 x.row, Chunk.box b2 26 [.cds l]]) (fun t => ruIs_fn l (by omega) x hxb.1 hxb.2 bx b2 t)
  obtain ⟨_, _, hWn, hWb⟩ := ruW_ok hok x
  rw [show whenW (momL l) (ruIs l x) = ruW l x from rfl] at k2
  have hfw := fun j => fdW_len x ((ruW l x).take j)
  have hft := fun (j : Nat) (w : Wn) (h : (ruW l x)[j]? = some w) => fdW_take (x := x) h
  obtain ⟨N2, hN2⟩ : ∃ N2, N2 = fdAll l (rs.take (k + 1)) := ⟨_, rfl⟩
  rw [← hN2] at hnext
  clear hx hB hlo
  generalize ruW l x = W at *
  have hWl : (W.map Wn.row).length = W.length := List.length_map _
  rw [← hWl] at k2
  unfold Ru.row at k2
  obtain ⟨xf, xn, xw, xl⟩ := x
  simp only at hrow hxl k2 hft
  repeat' (first | refine goH ?_ | refine goV ?_ | refine goB (fun b => ?_) | refine goC (fun ad cap => ?_) | refine goI ?_ | (refine Cw.k_cond ?_; first | (refine Cw.cond_dec rfl (fun hc => ?_) (fun hc => ?_) <;> try (exfalso; omega)) | refine Cw.cond_bool rfl (fun hc => ?_) (fun hc => ?_)) | (refine Ops.k_calla ?_; first | (refine Ops.k_callf 54 ?_; refine Ops.callV k1 (Evs.cons rfl Evs.nil) rfl ?_) | (refine Ops.k_callf 53 ?_; (refine Ops.call (k2 _) (Evs.cons rfl (Evs.cons rfl Evs.nil)) goPm rfl ?_; rintro r cs' ⟨ad2, cap2, rfl, rfl⟩; refine Ops.ent (Ent.settle (s := 19) rfl goPk rfl) ?_))) | fail)
  refine Cw.loopI [(2, _), (7, _), (10, _), (11, _), (12, _), (19, _), (20, _)] _ (fun q e c => ∃ (j : Nat) (ad : Option Addr) (cap : Nat) (rows2 : List (List Tr)), q = W.length - j ∧ (j ≤ W.length ∧ rows2 = (fdAll l (rs.take k) ++ fdW ⟨xf, xn, xw, xl⟩ (W.take j)).map Fd.row ∧ rows2.length ≤ 6000 + j) ∧ e = [(5, Tr.raw (.slice ad rows2.length cap)), (21, .int j)] ∧ c = [Chunk.own ad cap 3 55 rows2])
    ⟨_, _, _, (Ent.mkP goSub goPm), 0, ad, cap, rows, rfl, ⟨by omega, by rw [hrows, show fdW ⟨xf, xn, xw, xl⟩ (W.take 0) = [] from rfl, List.append_nil], by omega⟩, rfl, rfl⟩ ?_
  rintro _ _ _ ⟨j, ad, cap, rows2, rfl, ⟨hj, hrows2, hrl2⟩, rfl, rfl⟩
  by_cases hjl : j < W.length
  · obtain ⟨w, hw⟩ := at_lt hjl
    have hroww : (W.map Wn.row)[j]? = some [.int w.fr, .int w.to] := rows_at hw
    have hwb := hWb w (List.mem_of_getElem? hw)
    have hst := hft j w hw
    obtain ⟨wf, wt⟩ := w
    simp only at hroww hwb hst
    by_cases hkeep : wt - wf ≥ xl
    · rw [if_pos hkeep] at hst
      have hr3 : rows2 ++ [[Tr.str xf, Tr.int wf, Tr.int wt]] = (fdAll l (rs.take k) ++ fdW ⟨xf, xn, xw, xl⟩ (W.take (j + 1))).map Fd.row := by rw [hrows2, fdRows_snoc, hst, List.append_assoc]
      clear hw hst hrows2 hft hfw
      repeat' (first | refine goH ?_ | refine goV ?_ | refine goB (fun b => ?_) | refine goC (fun ad cap => ?_) | refine goI ?_ | (refine Cw.k_cond ?_; first | (refine Cw.cond_dec rfl (fun hc => ?_) (fun hc => ?_) <;> try (exfalso; omega)) | refine Cw.cond_bool rfl (fun hc => ?_) (fun hc => ?_)) | fail)
      all_goals first | (exfalso; omega) | exact ⟨_, _, _, (Ent.mk goSub goTk), ⟨j + 1, _, _, _, rfl, ⟨by omega, hr3, by rw [List.length_append]; simp; omega⟩, rfl, rfl⟩, by omega⟩
    · rw [if_neg hkeep, List.append_nil] at hst
      rw [← hst] at hrows2
      clear hw hst hft hfw
      repeat' (first | refine goH ?_ | refine goV ?_ | refine goB (fun b => ?_) | refine goC (fun ad cap => ?_) | refine goI ?_ | (refine Cw.k_cond ?_; first | (refine Cw.cond_dec rfl (fun hc => ?_) (fun hc => ?_) <;> try (exfalso; omega)) | refine Cw.cond_bool rfl (fun hc => ?_) (fun hc => ?_)) | fail)
      all_goals first | (exfalso; omega) | exact ⟨_, _, _, (Ent.mk goSub goTk), ⟨j + 1, _, _, _, rfl, ⟨by omega, hrows2, by omega⟩, rfl, rfl⟩, by omega⟩
  · rw [show W.take j = W from List.take_of_length_le (by omega), ← hnext, hN2] at hrows2
    repeat' (first | refine goH ?_ | refine goV ?_ | refine goB (fun b => ?_) | refine goC (fun ad cap => ?_) | refine goI ?_ | (refine Cw.k_cond ?_; first | (refine Cw.cond_dec rfl (fun hc => ?_) (fun hc => ?_) <;> try (exfalso; omega)) | refine Cw.cond_bool rfl (fun hc => ?_) (fun hc => ?_)) | fail)
    exact ⟨_, _, _, (Ent.mk goSub goTk), ⟨k + 1, _, _, _, rfl, ⟨by omega, hrows2⟩, rfl, rfl⟩, by omega⟩
end Lg
end
section
set_option linter.all false
set_option maxRecDepth 100000
set_option maxHeartbeats 8000000
namespace Lg
open Go Go.Proofs

/-! ### Diagnose: the windows of a rule, as the program finds them -/
def dgW (l : List Cd) (wo : List ByteArray) (cs : List ByteArray) : List Wn := cs.foldl (fun w c => bothW w (litW l c)) (otW (whenW (momL l) (anyOn l wo)))
theorem dgW_snoc (l : List Cd) (wo cs : List ByteArray) (c : ByteArray) : dgW l wo (cs ++ [c]) = bothW (dgW l wo cs) (litW l c) := by unfold dgW; rw [List.foldl_append]; rfl
theorem dg_ok {l : List Cd} (hok : CdOk l) (wo : List ByteArray) : ∀ cs : List ByteArray, Can (dgW l wo cs) ∧ (∀ t, memW (dgW l wo cs) t ↔ (0 ≤ t ∧ t < tEnd ∧ anyOn l wo t = false ∧ ∀ c ∈ cs, onAt l c t = true)) ∧ (dgW l wo cs).length ≤ (cs.length + 2) * (l.length + 3) := by
  intro cs
  refine snoc_ind (p := fun cs => Can (dgW l wo cs) ∧ (∀ t, memW (dgW l wo cs) t ↔ (0 ≤ t ∧ t < tEnd ∧ anyOn l wo t = false ∧ ∀ c ∈ cs, onAt l c t = true)) ∧ (dgW l wo cs).length ≤ (cs.length + 2) * (l.length + 3)) ?_ ?_ cs
  · obtain ⟨g1, g2, g3⟩ := anyWhen hok wo
    have hE : InE (whenW (momL l) (anyOn l wo)) := fun w hw => by
      have := g2 w hw
      exact ⟨this.1, this.2.2⟩
    obtain ⟨o1, _, o3, o4⟩ := otW_ok g1 hE
    obtain ⟨_, m2, _⟩ := mom_when hok (fun g => wo.any g)
    refine ⟨o1, fun t => ?_, ?_⟩
    · show memW (otW (whenW (momL l) (anyOn l wo))) t ↔ _
      rw [o3]
      have e : memW (whenW (momL l) (anyOn l wo)) t ↔ (0 ≤ t ∧ t < tEnd ∧ anyOn l wo t = true) := m2 t
      rw [e]
      constructor
      · rintro ⟨a1, a2, a3⟩
        refine ⟨a1, a2, ?_, fun c h => by cases h⟩
        cases h : anyOn l wo t with
        | false => rfl
        | true => exact absurd ⟨a1, a2, h⟩ a3
      · rintro ⟨a1, a2, a3, _⟩
        exact ⟨a1, a2, fun h => by rw [a3] at h; cases h.2.2⟩
    · show (otW (whenW (momL l) (anyOn l wo))).length ≤ (0 + 2) * (l.length + 3)
      omega
  · intro cs c ih
    obtain ⟨i1, i2, i3⟩ := ih
    obtain ⟨g1, g2, g3⟩ := litW_ok (key := c) hok
    obtain ⟨b1, b2, b3⟩ := bothW_ok i1 g1
    rw [dgW_snoc]
    refine ⟨b1, fun t => ?_, ?_⟩
    · rw [b2, i2, g2]
      constructor
      · rintro ⟨⟨a1, a2, a3, a4⟩, _, _, a5⟩
        refine ⟨a1, a2, a3, fun d hd => ?_⟩
        rcases List.mem_append.1 hd with h | h
        · exact a4 d h
        · rw [List.mem_singleton.1 h]; exact a5
      · rintro ⟨a1, a2, a3, a4⟩
        exact ⟨⟨a1, a2, a3, fun d hd => a4 d (by simp [hd])⟩, a1, a2, a4 c (by simp)⟩
    · rw [List.length_append, List.length_singleton, show cs.length + 1 + 2 = (cs.length + 2) + 1 by omega, Nat.add_mul]
      omega
theorem dg_ruW {l : List Cd} (hok : CdOk l) (x : Ru) {W : List Wn} (h1 : Can W) (h2 : ∀ t, memW W t ↔ memW (dgW l x.wo x.nds) t) : W = ruW l x := by
  obtain ⟨g1, g2, _⟩ := ruW_ok hok x
  refine can_uniq h1 g1 fun t => ?_
  rw [h2, (dg_ok hok x.wo x.nds).2.1, g2]
  unfold ruIs anyOn
  rw [Bool.and_eq_true, Bool.not_eq_true', Bool.not_eq_true']
  constructor
  · rintro ⟨a1, a2, a3, a4⟩
    refine ⟨a1, a2, ?_, a3⟩
    rw [List.any_eq_false]
    intro c hc
    rw [a4 c hc]
    simp
  · rintro ⟨a1, a2, a3, a4⟩
    refine ⟨a1, a2, a4, fun c hc => ?_⟩
    have := List.any_eq_false.1 a3 c hc
    simpa using this
end Lg
end
