/- A part of the proof of a law of this seat: it adds no condition. By an AI agent. -/
import Derived.Test.YtmfjjdodehimjaaGreatDoorMv7
section
set_option linter.all false
set_option maxRecDepth 100000
set_option maxHeartbeats 8000000
namespace Lg
open Go Go.Proofs

/-! ### Together -/
abbrev tgD (c : List Mv) : List Mv := dd (isort ltM c)
def togX (c : List Mv) : List Mv × Int := if adjC (tgD c) = true then ([], 13) else if (mvsE (tgD c)).2 ≠ 0 then ([], (mvsE (tgD c)).2) else (tgD c, 0)
def togR (a b : List Mv) : List Mv × Int := if (mvsE a).2 ≠ 0 then ([], (mvsE a).2) else togX (a ++ b)
theorem adjC_at {D : List Mv} {i : Nat} {x y : Mv} (hi : 1 ≤ i) (hx : D[i - 1]? = some x) (hy : D[i]? = some y) : adjC (D.drop (i - 1)) = (decide (cfM x y = 0) || adjC (D.drop i)) := by
  obtain ⟨j, rfl⟩ : ∃ j, i = j + 1 := ⟨i - 1, by omega⟩
  rw [show j + 1 - 1 = j by omega] at *
  rw [drop_at hx, drop_at hy, adjC]
theorem adjC_end {D : List Mv} {i : Nat} (hi : D.length ≤ i) : adjC (D.drop (i - 1)) = false := by
  have : (D.drop (i - 1)).length ≤ 1 := by rw [List.length_drop]; omega
  rcases hd : D.drop (i - 1) with _ | ⟨a, _ | ⟨b, l⟩⟩
  · rfl
  · rfl
  · rw [hd] at this; simp at this
theorem NoBd.sub {a b : List Mv} (h : NoBd a) (hs : ∀ x ∈ b, x ∈ a) : NoBd b := fun x hx => h x (hs x hx)
theorem tgD_len (c : List Mv) : (tgD c).length ≤ c.length := by
  have := dd_le (isort ltM c)
  rwa [isort_len] at this
theorem concatA (a b : List Mv) (hl : a.length + b.length < 20) : PFnO Tryz.prog 44 [.sl 1 [[.mvs a], [.mvs b]]] 5 48 (· = (a ++ b).map Mv.row) := by
  have h := concat_mv [a.map Mv.row, b.map Mv.row] (by simp) (by simp; omega)
  simp only [List.map_cons, List.map_nil, List.flatten_cons, List.flatten_nil, List.append_nil] at h
  rw [← List.map_append] at h
  exact h
theorem together_fn (a b : List Mv) (hl : a.length + b.length < 20) (hna : NoBd a) (hnb : NoBd b) : PFn Tryz.prog 12 [.mvs a, .mvs b] (· = .tup [.mvs (togR a b).1, .int (togR a b).2]) := by
  have k1 := checkShelf_fn a (by omega) hna
  have hLb : (b.map Mv.row).length = b.length := List.length_map _
  unfold togR
  by_cases h0 : (mvsE a).2 ≠ 0
  · rw [if_pos h0]
    generalize mvsE a = E at *
    refine PFn.mk (Spec.body Tryz.func12 rfl rfl (Tryz.ntmps12) rfl fun w0 own0 M => ?_)
    repeat' (first | refine goH ?_ | refine goV ?_ | refine goI ?_ | (refine Cw.k_cond ?_; first | (refine Cw.cond_dec rfl (fun hc => ?_) (fun hc => ?_) <;> try (exfalso; omega)) | refine Cw.cond_bool rfl (fun hc => ?_) (fun hc => ?_)) | (refine Ops.k_calla ?_; first | (refine Ops.k_callf 9 ?_; refine Ops.callV k1 (Evs.cons rfl Evs.nil) rfl ?_)) | (apply OpW.k_call; first | (apply OpW.k_callf 9; exact OpW.callV k1 (Evs.cons rfl Evs.nil))) | refine goR ?_ | refine goP ?_ | apply PSeq.cons | apply PSeq.yes rfl rfl rfl | exact goW | fail)
    refine Fin.ret (Ent.trans (Ent.nilsl 5 (s := 4) rfl) (Ent.take goTk)) (Outs.many rfl (OutL.cons goOe (OutL.cons goOe OutL.nil)) rfl) ⟨rfl, rfl⟩
  rw [if_neg h0]
  replace h0 : (mvsE a).2 = 0 := by omega
  rw [h0] at k1
  have hcc := concatA a b hl
  have hcl : (a ++ b).length < 20 := by rw [List.length_append]; omega
  have hnc : NoBd (a ++ b) := fun x hx => (List.mem_append.1 hx).elim (hna x) (hnb x)
  have hcr : ((a ++ b).map Mv.row).length = (a ++ b).length := List.length_map _
  generalize a ++ b = c at *
  have hso := fun (ad : Option Addr) (cap : Nat) => sortStable_mv (ad := ad) (cap := cap) (n := c.length) (xs := c) (g := 37) (caps := []) (cin := []) (lt := ltM) (cf := cfM) (fun a b => rfl) hcl rfl (fun x y _ _ => (byMove_fn x y).lend)
  have hcp := fun (ad : Option Addr) (cap : Nat) => compact_mv (ad := ad) (cap := cap) (n := c.length) (isort ltM c) (isort_len _ c).symm (by omega)
  have hDl := tgD_len c
  have kD := checkShelf_fn (tgD c) (by omega) (hnc.sub fun x hx => (ddM_mem c x).1 hx)
  unfold togX
  generalize hD : tgD c = D at *
  unfold tgD at hD
  rw [hD] at hcp
  have hDr : (D.map Mv.row).length = D.length := List.length_map _
  refine PFn.mk (Spec.body Tryz.func12 rfl rfl (Tryz.ntmps12) rfl fun w0 own0 M => ?_)
  repeat' (first | refine goH ?_ | refine goV ?_ | refine goI ?_ | (refine Cw.k_cond ?_; first | (refine Cw.cond_dec rfl (fun hc => ?_) (fun hc => ?_) <;> try (exfalso; omega)) | refine Cw.cond_bool rfl (fun hc => ?_) (fun hc => ?_)) | (refine Ops.k_calla ?_; first | (refine Ops.k_callf 9 ?_; refine Ops.callV k1 (Evs.cons rfl Evs.nil) rfl ?_) | (refine Ops.k_callf 44 ?_; (refine Ops.callO hcc (Evs.cons rfl Evs.nil) rfl (fun ad cap rows hr => ?_); subst hr; rw [hcr])) | (refine Ops.k_callf 45 ?_; (refine Ops.call (hso _ _) (Evs.cons rfl (Evs.cons rfl Evs.nil)) goPm rfl ?_; rintro r cs' ⟨rfl, rfl⟩)) | (refine Ops.k_callf 46 ?_; (refine Ops.call (hcp _ _) (Evs.cons rfl Evs.nil) goPm rfl ?_; rintro r cs' ⟨np, hnp, rfl, rfl⟩))) | (apply OpW.k_call; first | (apply OpW.k_callf 9; exact OpW.callV k1 (Evs.cons rfl Evs.nil))) | refine goR ?_ | refine goP ?_ | apply PSeq.cons | apply PSeq.yes rfl rfl rfl | exact goW | fail)
  rw [← hDr] at hnp
  subst hnp
  refine Cw.ent (Ent.settle (s := 8) rfl goPk rfl) ?_
  clear hcp hso hcc
  refine Cw.loopI [(8, _)] _ (fun q e cc => ∃ (i : Nat), q = D.length - i ∧ (1 ≤ i ∧ adjC D = adjC (D.drop (i - 1))) ∧ e = [(9, .int i)] ∧ cc = []) ⟨_, _, _, (Ent.mkP goSub goPm), 1, rfl, ⟨Nat.le_refl _, rfl⟩, rfl, rfl⟩ ?_
  rintro _ _ _ ⟨i, rfl, ⟨hi, hA⟩, rfl, rfl⟩
  by_cases hil : i < D.length
  · obtain ⟨x, hx⟩ := at_lt (l := D) (k := i - 1) (by omega)
    obtain ⟨y, hy⟩ := at_lt (l := D) (k := i) hil
    have rx : (D.map Mv.row)[((i : Int) - 1).toNat]? = some [.str x.site, .int x.no, .int x.day, .str x.ware, .int x.many] := by rw [show ((i : Int) - 1).toNat = i - 1 by omega]; exact rows_at hx
    have ry : (D.map Mv.row)[((i : Nat) : Int).toNat]? = some [.str y.site, .int y.no, .int y.day, .str y.ware, .int y.many] := by rw [Int.toNat_natCast]; exact rows_at hy
    have kb := byMove_fn x y
    unfold Mv.row at kb
    rw [adjC_at hi hx hy] at hA
    clear hx hy
    by_cases h1 : cfM x y = 0
    · rw [decide_eq_true h1, Bool.true_or] at hA
      rw [if_pos hA]
      rw [h1] at kb
      clear kD
      repeat' (first | refine goH ?_ | refine goV ?_ | refine goI ?_ | (refine Cw.k_cond ?_; first | (refine Cw.cond_dec rfl (fun hc => ?_) (fun hc => ?_) <;> try (exfalso; omega)) | refine Cw.cond_bool rfl (fun hc => ?_) (fun hc => ?_)) | (refine Ops.k_calla ?_; first | (refine Ops.k_callf 37 ?_; refine Ops.callV kb (Evs.cons rfl (Evs.cons rfl Evs.nil)) rfl ?_)) | (apply OpW.k_call; first | (apply OpW.k_callf 37; exact OpW.callV kb (Evs.cons rfl (Evs.cons rfl Evs.nil)))) | refine goR ?_ | refine goP ?_ | apply PSeq.cons | apply PSeq.yes rfl rfl rfl | exact goW | fail)
      refine Fin.ret (Ent.trans (Ent.nilsl 5 (s := 4) rfl) (Ent.take goTk)) (Outs.many rfl (OutL.cons goOe (OutL.cons goOe OutL.nil)) rfl) ⟨rfl, rfl⟩
    · rw [decide_eq_false h1, Bool.false_or] at hA
      generalize cfM x y = o at *
      repeat' (first | refine goH ?_ | refine goV ?_ | refine goI ?_ | (refine Cw.k_cond ?_; first | (refine Cw.cond_dec rfl (fun hc => ?_) (fun hc => ?_) <;> try (exfalso; omega)) | refine Cw.cond_bool rfl (fun hc => ?_) (fun hc => ?_)) | (refine Ops.k_calla ?_; first | (refine Ops.k_callf 37 ?_; refine Ops.callV kb (Evs.cons rfl (Evs.cons rfl Evs.nil)) rfl ?_)) | (apply OpW.k_call; first | (apply OpW.k_callf 37; exact OpW.callV kb (Evs.cons rfl (Evs.cons rfl Evs.nil)))) | refine goR ?_ | refine goP ?_ | apply PSeq.cons | apply PSeq.yes rfl rfl rfl | exact goW | fail)
      exact ⟨_, _, _, (Ent.mk goSub goTk), ⟨i + 1, rfl, ⟨by omega, hA⟩, rfl, rfl⟩, by omega⟩
  · rw [adjC_end (by omega)] at hA
    rw [if_neg (by rw [hA]; simp)]
    by_cases hE : (mvsE D).2 ≠ 0
    · rw [if_pos hE]
      generalize mvsE D = E at *
      repeat' (first | refine goH ?_ | refine goV ?_ | refine goI ?_ | (refine Cw.k_cond ?_; first | (refine Cw.cond_dec rfl (fun hc => ?_) (fun hc => ?_) <;> try (exfalso; omega)) | refine Cw.cond_bool rfl (fun hc => ?_) (fun hc => ?_)) | (refine Ops.k_calla ?_; first | (refine Ops.k_callf 9 ?_; refine Ops.callV kD (Evs.cons rfl Evs.nil) rfl ?_)) | (apply OpW.k_call; first | (apply OpW.k_callf 9; exact OpW.callV kD (Evs.cons rfl Evs.nil))) | refine goR ?_ | refine goP ?_ | apply PSeq.cons | apply PSeq.yes rfl rfl rfl | exact goW | fail)
      refine Fin.ret (Ent.trans (Ent.nilsl 5 (s := 4) rfl) (Ent.take goTk)) (Outs.many rfl (OutL.cons goOe (OutL.cons goOe OutL.nil)) rfl) ⟨rfl, rfl⟩
    · rw [if_neg hE]
      have hE0 : (mvsE D).2 = 0 := by omega
      rw [hE0] at kD
      repeat' (first | refine goH ?_ | refine goV ?_ | refine goI ?_ | (refine Cw.k_cond ?_; first | (refine Cw.cond_dec rfl (fun hc => ?_) (fun hc => ?_) <;> try (exfalso; omega)) | refine Cw.cond_bool rfl (fun hc => ?_) (fun hc => ?_)) | (refine Ops.k_calla ?_; first | (refine Ops.k_callf 9 ?_; refine Ops.callV kD (Evs.cons rfl Evs.nil) rfl ?_)) | (apply OpW.k_call; first | (apply OpW.k_callf 9; exact OpW.callV kD (Evs.cons rfl Evs.nil))) | refine goR ?_ | refine goP ?_ | apply PSeq.cons | apply PSeq.yes rfl rfl rfl | exact goW | fail)
      refine Fin.ret (Ent.take goTk) (Outs.many rfl (OutL.cons goOe (OutL.cons goOe OutL.nil)) rfl) ⟨rfl, rfl⟩
/-! ### the reference -/
/-- the same over an owned slice, that it only reads -/
theorem indexFuncO_mv {n : Nat} {l : List Mv} {p : Mv → Bool} {ad : Option Addr} {cap : Nat} {g : Nat} {caps : List Value} {cin : List Chunk} (hl : l.length ≤ 1000000000) (hn : n = l.length)
    (hs : ∀ x, x ∈ l → Spec Tryz.prog g ([Tr.agg x.row] ++ caps.map Tr.raw) cin (fun r cs => r = Tr.bool (p x) ∧ cs = cin)) :
    Spec Tryz.prog 50 [Tr.raw (.slice ad n cap), Tr.raw (.func (.func g) #[] caps.toArray)] (Chunk.own ad cap 5 48 (l.map Mv.row) :: cin) (fun r cs => r = Tr.int (idxFrom p l 0) ∧ cs = Chunk.own ad cap 5 48 (l.map Mv.row) :: cin) := by
  refine Spec.body Tryz.func50 rfl rfl (Tryz.ntmps50) rfl fun w0 own0 M => ?_
  have hL : (l.map Mv.row).length = n := by rw [List.length_map, hn]
  repeat' (first | refine goH ?_ | refine goV ?_ | refine goI ?_ | (refine Cw.k_cond ?_; first | (refine Cw.cond_dec rfl (fun hc => ?_) (fun hc => ?_) <;> try (exfalso; omega)) | refine Cw.cond_bool rfl (fun hc => ?_) (fun hc => ?_)) | fail)
  refine Cw.loopI [(0, _), (1, _), (7, _)] _ (fun q e c => ∃ k : Nat, q = n - k ∧ (k ≤ n ∧ idxFrom p l 0 = idxFrom p (l.drop k) k) ∧ e = [(8, .int k)] ∧ c = []) ⟨_, _, _, (Ent.mkP goSub goPm), 0, rfl, ⟨by omega, rfl⟩, rfl, rfl⟩ ?_
  rintro _ _ _ ⟨k, rfl, ⟨hk, hgo⟩, rfl, rfl⟩
  by_cases hkl : k < n
  · obtain ⟨x, hx⟩ : ∃ x, l[k]? = some x := ⟨_, List.getElem?_eq_getElem (by omega)⟩
    have hrow : (l.map Mv.row)[k]? = some [.str x.site, .int x.no, .int x.day, .str x.ware, .int x.many] := rows_at hx
    have hdrop := idxFrom_drop p hx
    rw [hdrop] at hgo
    have hsx := hs x (List.mem_of_getElem? hx)
    by_cases hp : p x = true
    · rw [if_pos hp] at hgo
      rw [hp] at hsx
      repeat' (first | refine goH ?_ | refine goV ?_ | refine goI ?_ | (refine Cw.k_cond ?_; first | (refine Cw.cond_dec rfl (fun hc => ?_) (fun hc => ?_) <;> try (exfalso; omega)) | refine Cw.cond_bool rfl (fun hc => ?_) (fun hc => ?_)) | (refine Ops.k_calla ?_; first | refine Ops.callS_fn rfl hsx (Evs.cons rfl Evs.nil) (List.perm_append_comm (l₁ := [Chunk.own ad cap 5 48 (l.map Mv.row)])) rfl ?_) | fail)
      exact Fin.ret Ent.refl (Outs.one rfl rfl) ⟨by rw [hgo], rfl⟩
    · rw [if_neg hp] at hgo
      rw [Bool.not_eq_true] at hp
      rw [hp] at hsx
      repeat' (first | refine goH ?_ | refine goV ?_ | refine goI ?_ | (refine Cw.k_cond ?_; first | (refine Cw.cond_dec rfl (fun hc => ?_) (fun hc => ?_) <;> try (exfalso; omega)) | refine Cw.cond_bool rfl (fun hc => ?_) (fun hc => ?_)) | (refine Ops.k_calla ?_; first | refine Ops.callS_fn rfl hsx (Evs.cons rfl Evs.nil) (List.perm_append_comm (l₁ := [Chunk.own ad cap 5 48 (l.map Mv.row)])) rfl ?_) | fail)
      exact ⟨_, _, _, (Ent.mkP goSub goPm), ⟨k + 1, rfl, ⟨by omega, hgo⟩, rfl, rfl⟩, by omega⟩
  · rw [List.drop_eq_nil_of_le (by omega), idxFrom] at hgo
    repeat' (first | refine goH ?_ | refine goV ?_ | refine goI ?_ | (refine Cw.k_cond ?_; first | (refine Cw.cond_dec rfl (fun hc => ?_) (fun hc => ?_) <;> try (exfalso; omega)) | refine Cw.cond_bool rfl (fun hc => ?_) (fun hc => ?_)) | fail)
    exact Fin.ret Ent.refl (Outs.one rfl rfl) ⟨by rw [hgo], rfl⟩

theorem tgIs_fn (x : Mv) (b E : Nat) (c : Mv) : Spec Tryz.prog 51 [.agg x.row, .ptr b] [Chunk.box b E c.row] (fun r cs => r = .bool (decide (cfM x c = 0)) ∧ cs = [Chunk.box b E c.row]) := by
  have k := moveOrder_fn x c
  generalize cfM x c = o at *
  unfold Mv.row at *
  refine Spec.body Tryz.func51 rfl rfl (Tryz.ntmps51) rfl fun w0 own0 M => ?_
  repeat' (first | refine goH ?_ | refine goV ?_ | refine goB (fun b => ?_) | refine goI ?_ | (refine Cw.k_cond ?_; first | (refine Cw.cond_dec rfl (fun hc => ?_) (fun hc => ?_) <;> try (exfalso; omega)) | refine Cw.cond_bool rfl (fun hc => ?_) (fun hc => ?_)) | (refine Ops.k_calla ?_; first | (refine Ops.k_callf 41 ?_; refine Ops.callV k (Evs.cons rfl (Evs.cons rfl Evs.nil)) rfl ?_)) | fail)
  exact Fin.ret (Ent.take goTk) (Outs.one rfl rfl) ⟨rfl, rfl⟩
theorem togetherMoves_fn (a b : List Mv) (hl : a.length + b.length < 20) (hna : NoBd a) (hnb : NoBd b) : PFn Tryz.prog 15 [.mvs a, .mvs b] (· = .tup [.mvs (togX (a ++ b)).1, .int (togX (a ++ b)).2]) := by
  have hLb : (b.map Mv.row).length = b.length := List.length_map _
  have hcc := (concatA a b hl).val
  have hcl : (a ++ b).length < 20 := by rw [List.length_append]; omega
  have hnc : NoBd (a ++ b) := fun x hx => (List.mem_append.1 hx).elim (hna x) (hnb x)
  have hcr : ((a ++ b).map Mv.row).length = (a ++ b).length := List.length_map _
  generalize a ++ b = c at *
  have hDl := tgD_len c
  have kD := shelfFault_fn (tgD c) (by omega) (hnc.sub fun x hx => (ddM_mem c x).1 hx)
  have hno := @tog_none c
  have hso := @tog_some c
  unfold togX
  generalize hD : tgD c = D at *
  unfold tgD at hD
  rw [hD] at hno hso
  have hDr : (D.map Mv.row).length = D.length := List.length_map _
  refine PFn.mk (Spec.body Tryz.func15 rfl rfl (Tryz.ntmps15) rfl fun w0 own0 M => ?_)
  repeat' (first | refine goH ?_ | refine goV ?_ | refine goB (fun b => ?_) | refine goC (fun ad cap => ?_) | refine goG ?_ | (refine Ops.k_guard ?_; first | (refine Ops.guard_dec rfl rfl (fun hc => ?_) (fun hc => ?_) <;> try (exfalso; omega)) | refine Ops.guard_split rfl rfl (fun hc => ?_) (fun hc => ?_)) | refine goI ?_ | (refine Cw.k_cond ?_; first | (refine Cw.cond_dec rfl (fun hc => ?_) (fun hc => ?_) <;> try (exfalso; omega)) | refine Cw.cond_bool rfl (fun hc => ?_) (fun hc => ?_)) | (refine Ops.k_calla ?_; first | (refine Ops.k_callf 44 ?_; refine Ops.callV hcc (Evs.cons rfl Evs.nil) rfl ?_)) | (apply OpW.k_call; first | (apply OpW.k_callf 44; exact OpW.callV hcc (Evs.cons rfl Evs.nil))) | refine goR ?_ | refine goP ?_ | apply PSeq.cons | apply PSeq.yes rfl rfl rfl | exact goW | fail)
  refine Cw.loopI [(18, _), (19, _)] _ (fun q e cc => ∃ (k : Nat) (O : List Mv) (ad : Option Addr) (cap n : Nat) (rows : List (List Tr)), q = c.length - k ∧ (k ≤ c.length ∧ tgGo [] c = tgGo O (c.drop k) ∧ O.length ≤ k ∧ rows = O.map Mv.row ∧ rows.length = n ∧ n = O.length) ∧ e = [(6, Tr.raw (.slice ad n cap)), (20, .int k)] ∧ cc = [Chunk.own ad cap 5 48 rows])
    ⟨_, _, _, Ent.trans (Ent.nil 5 48) (Ent.mkP goSub goPm), 0, [], none, 0, 0, [], rfl, ⟨by omega, rfl, Nat.le_refl _, rfl, rfl, rfl⟩, rfl, rfl⟩ ?_
  rintro _ _ _ ⟨k, O, ad, cap, n, rows, rfl, ⟨hk, hV, hOk, hrows, hrl, hnO⟩, rfl, rfl⟩
  by_cases hkl : k < c.length
  · obtain ⟨m, hm⟩ := at_lt hkl
    have hrow : (c.map Mv.row)[k]? = some [.str m.site, .int m.no, .int m.day, .str m.ware, .int m.many] := rows_at hm
    have kI := fun b => indexFuncO_mv (n := n) (l := O) (p := fun y => decide (cfM y m = 0)) (ad := ad) (cap := cap) (g := 51) (caps := [.pointer (some ⟨b, 0, none⟩)]) (cin := [Chunk.box b 48 m.row]) (by omega) hnO (fun y _ => tgIs_fn y b _ m)
    rw [← hrows] at kI
    unfold Mv.row at kI
    rw [drop_at hm, tgGo] at hV
    obtain ⟨f1, f2⟩ := idxFrom_find (fun y : Mv => decide (cfM y m = 0)) O 0
    clear hm
    cases hf : O.find? (fun y : Mv => decide (cfM y m = 0)) with
    | none =>
      rw [f1 hf] at kI
      rw [hf] at hV
      simp only at hV
      have hsn : rows ++ [[.str m.site, .int m.no, .int m.day, .str m.ware, .int m.many]] = (O ++ [m]).map Mv.row := by rw [hrows, List.map_append]; rfl
      clear f1 f2 hrows kD hso hno
      repeat' (first | refine goH ?_ | refine goV ?_ | refine goB (fun b => ?_) | refine goC (fun ad cap => ?_) | refine goG ?_ | (refine Ops.k_guard ?_; first | (refine Ops.guard_dec rfl rfl (fun hc => ?_) (fun hc => ?_) <;> try (exfalso; omega)) | refine Ops.guard_split rfl rfl (fun hc => ?_) (fun hc => ?_)) | refine goI ?_ | (refine Cw.k_cond ?_; first | (refine Cw.cond_dec rfl (fun hc => ?_) (fun hc => ?_) <;> try (exfalso; omega)) | refine Cw.cond_bool rfl (fun hc => ?_) (fun hc => ?_)) | (refine Ops.k_calla ?_; first | (refine Ops.k_callf 50 ?_; (refine Ops.call (kI _) (Evs.cons rfl (Evs.cons rfl Evs.nil)) goPm rfl ?_; rintro r cs' ⟨rfl, rfl⟩))) | refine goR ?_ | refine goP ?_ | apply PSeq.cons | apply PSeq.yes rfl rfl rfl | exact goW | fail)
      exact ⟨_, _, _, (Ent.mk goSub goTk), ⟨k + 1, O ++ [m], _, _, _, _, rfl, ⟨by omega, hV, by rw [List.length_append]; simp; omega, hsn, rfl, by rw [hsn, List.length_map]⟩, rfl, rfl⟩, by omega⟩
    | some x =>
      obtain ⟨j, hj1, hj2⟩ := f2 x hf
      rw [Int.zero_add] at hj1
      rw [hj1] at kI
      rw [hf] at hV
      simp only at hV
      have hjl := (List.getElem?_eq_some_iff.1 hj2).1
      have rj : rows[((j : Nat) : Int).toNat]? = some [.str x.site, .int x.no, .int x.day, .str x.ware, .int x.many] := by rw [hrows, Int.toNat_natCast]; exact rows_at hj2
      clear f1 f2 hf hj1 hj2
      by_cases hxm : x = m
      · rw [if_pos hxm] at hV
        have he : decide (x = m) = true := decide_eq_true hxm
        clear hxm kD hso hno
        repeat' (first | refine goH ?_ | refine goV ?_ | refine goB (fun b => ?_) | refine goC (fun ad cap => ?_) | refine goG ?_ | (refine Ops.k_guard ?_; first | (refine Ops.guard_dec rfl rfl (fun hc => ?_) (fun hc => ?_) <;> try (exfalso; omega)) | refine Ops.guard_split rfl rfl (fun hc => ?_) (fun hc => ?_)) | refine goI ?_ | (refine Cw.k_cond ?_; first | (refine Cw.cond_dec rfl (fun hc => ?_) (fun hc => ?_) <;> try (exfalso; omega)) | refine Cw.cond_bool rfl (fun hc => ?_) (fun hc => ?_)) | (apply OpV.w; apply OpV.k_b_neq; exact OpV.mv_nev he rfl rfl) | (refine Ops.k_calla ?_; first | (refine Ops.k_callf 50 ?_; (refine Ops.call (kI _) (Evs.cons rfl (Evs.cons rfl Evs.nil)) goPm rfl ?_; rintro r cs' ⟨rfl, rfl⟩))) | refine goR ?_ | refine goP ?_ | apply PSeq.cons | apply PSeq.yes rfl rfl rfl | exact goW | fail)
        exact ⟨_, _, _, (Ent.mk goSub goTk), ⟨k + 1, O, _, _, _, _, rfl, ⟨by omega, hV, by omega, hrows, hrl, hnO⟩, rfl, rfl⟩, by omega⟩
      · rw [if_neg hxm] at hV
        have he : decide (x = m) = false := decide_eq_false hxm
        rw [if_pos (hno hV)]
        clear hxm kD hso hno
        repeat' (first | refine goH ?_ | refine goV ?_ | refine goB (fun b => ?_) | refine goC (fun ad cap => ?_) | refine goG ?_ | (refine Ops.k_guard ?_; first | (refine Ops.guard_dec rfl rfl (fun hc => ?_) (fun hc => ?_) <;> try (exfalso; omega)) | refine Ops.guard_split rfl rfl (fun hc => ?_) (fun hc => ?_)) | refine goI ?_ | (refine Cw.k_cond ?_; first | (refine Cw.cond_dec rfl (fun hc => ?_) (fun hc => ?_) <;> try (exfalso; omega)) | refine Cw.cond_bool rfl (fun hc => ?_) (fun hc => ?_)) | (apply OpV.w; apply OpV.k_b_neq; exact OpV.mv_nev he rfl rfl) | (refine Ops.k_calla ?_; first | (refine Ops.k_callf 50 ?_; (refine Ops.call (kI _) (Evs.cons rfl (Evs.cons rfl Evs.nil)) goPm rfl ?_; rintro r cs' ⟨rfl, rfl⟩))) | refine goR ?_ | refine goP ?_ | apply PSeq.cons | apply PSeq.yes rfl rfl rfl | exact goW | fail)
        refine Fin.ret (Ent.trans (Ent.nilsl 5 (s := 4) rfl) (Ent.take goTk)) (Outs.many rfl (OutL.cons goOe (OutL.cons goOe OutL.nil)) rfl) ⟨rfl, rfl⟩
  · rw [List.drop_of_length_le (by omega), tgGo] at hV
    obtain ⟨ha, hu⟩ := hso hV
    rw [if_neg (by rw [ha]; simp)]
    have kS := fun ad cap => sortMvK O (by omega) ad cap
    subst hrows hnO
    clear hno hso hrl
    by_cases hE : (mvsE D).2 ≠ 0
    · rw [if_pos hE]
      generalize mvsE D = E at *
      repeat' (first | refine goH ?_ | refine goV ?_ | refine goB (fun b => ?_) | refine goC (fun ad cap => ?_) | refine goG ?_ | (refine Ops.k_guard ?_; first | (refine Ops.guard_dec rfl rfl (fun hc => ?_) (fun hc => ?_) <;> try (exfalso; omega)) | refine Ops.guard_split rfl rfl (fun hc => ?_) (fun hc => ?_)) | refine goI ?_ | (refine Cw.k_cond ?_; first | (refine Cw.cond_dec rfl (fun hc => ?_) (fun hc => ?_) <;> try (exfalso; omega)) | refine Cw.cond_bool rfl (fun hc => ?_) (fun hc => ?_)) | (refine Ops.k_calla ?_; first | (refine Ops.k_callf 52 ?_; (refine Ops.call (kS _ _) (Evs.cons rfl (Evs.cons rfl Evs.nil)) goPm rfl ?_; rintro r cs' ⟨ys, rfl, rfl, hperm, hsort⟩; have hys := hu ys hperm hsort; subst hys; rw [show O.length = (ys.map Mv.row).length by rw [List.length_map]; exact hperm.length_eq.symm]; refine Ops.ent (Ent.settle (s := 6) rfl goPk rfl) ?_)) | (refine Ops.k_callf 10 ?_; refine Ops.callV kD (Evs.cons rfl Evs.nil) rfl ?_)) | (apply OpW.k_call; first | (apply OpW.k_callf 10; exact OpW.callV kD (Evs.cons rfl Evs.nil))) | refine goR ?_ | refine goP ?_ | apply PSeq.cons | apply PSeq.yes rfl rfl rfl | exact goW | fail)
      refine Fin.ret (Ent.trans (Ent.nilsl 5 (s := 4) rfl) (Ent.take goTk)) (Outs.many rfl (OutL.cons goOe (OutL.cons goOe OutL.nil)) rfl) ⟨rfl, rfl⟩
    · rw [if_neg hE]
      have hE0 : (mvsE D).2 = 0 := by omega
      rw [hE0] at kD
      repeat' (first | refine goH ?_ | refine goV ?_ | refine goB (fun b => ?_) | refine goC (fun ad cap => ?_) | refine goG ?_ | (refine Ops.k_guard ?_; first | (refine Ops.guard_dec rfl rfl (fun hc => ?_) (fun hc => ?_) <;> try (exfalso; omega)) | refine Ops.guard_split rfl rfl (fun hc => ?_) (fun hc => ?_)) | refine goI ?_ | (refine Cw.k_cond ?_; first | (refine Cw.cond_dec rfl (fun hc => ?_) (fun hc => ?_) <;> try (exfalso; omega)) | refine Cw.cond_bool rfl (fun hc => ?_) (fun hc => ?_)) | (refine Ops.k_calla ?_; first | (refine Ops.k_callf 52 ?_; (refine Ops.call (kS _ _) (Evs.cons rfl (Evs.cons rfl Evs.nil)) goPm rfl ?_; rintro r cs' ⟨ys, rfl, rfl, hperm, hsort⟩; have hys := hu ys hperm hsort; subst hys; rw [show O.length = (ys.map Mv.row).length by rw [List.length_map]; exact hperm.length_eq.symm]; refine Ops.ent (Ent.settle (s := 6) rfl goPk rfl) ?_)) | (refine Ops.k_callf 10 ?_; refine Ops.callV kD (Evs.cons rfl Evs.nil) rfl ?_)) | (apply OpW.k_call; first | (apply OpW.k_callf 10; exact OpW.callV kD (Evs.cons rfl Evs.nil))) | refine goR ?_ | refine goP ?_ | apply PSeq.cons | apply PSeq.yes rfl rfl rfl | exact goW | fail)
      refine Fin.ret (Ent.take goTk) (Outs.many rfl (OutL.cons goOe (OutL.cons goOe OutL.nil)) rfl) ⟨rfl, rfl⟩
end Lg
end
section
set_option linter.all false
set_option maxRecDepth 100000
set_option maxHeartbeats 8000000
namespace Lg
open Go Go.Proofs

/-! ### a map of numbers as a list in which one looks -/
theorem mIx {α : Type} [DecidableEq α] (a : α) (v : Int) : ∀ (m : List (α × Int)) (k : Int),
    (idxFrom (fun p : α × Int => decide (p.1 = a)) m k = -1 ∧ mI a m = 0 ∧ mUp a v m = m ++ [(a, v)]) ∨
    ∃ (j : Nat) (u : Int), idxFrom (fun p : α × Int => decide (p.1 = a)) m k = k + j ∧ m[j]? = some (a, u) ∧ mI a m = u ∧ mUp a v m = m.set j (a, v)
  | [], k => .inl ⟨rfl, rfl, rfl⟩
  | p :: m, k => by
    by_cases h : p.1 = a
    · right
      refine ⟨0, p.2, ?_, ?_, ?_, ?_⟩
      · simp [idxFrom, h]
      · rw [← h]; rfl
      · simp [mI, h]
      · simp [mUp, h]
    · have h2 : ¬ a = p.1 := fun e => h e.symm
      rcases mIx a v m (k + 1) with ⟨h3, h4, h5⟩ | ⟨j, u, h3, h4, h5, h6⟩
      · left
        refine ⟨?_, ?_, ?_⟩
        · simp [idxFrom, h, h3]
        · simp [mI, h2, h4]
        · simp [mUp, h2, h5]
      · right
        refine ⟨j + 1, u, ?_, ?_, ?_, ?_⟩
        · simp [idxFrom, h, h3]; omega
        · simpa using h4
        · simp [mI, h2, h5]
        · simp [mUp, h2, h6]
theorem idxFrom_map {α β : Type} (f : α → β) (p : β → Bool) : ∀ (l : List α) (k : Int), idxFrom p (l.map f) k = idxFrom (fun x => p (f x)) l k
  | [], _ => rfl
  | x :: l, k => by
    simp only [List.map_cons, idxFrom]
    rw [idxFrom_map f p l]
end Lg
end
section
set_option linter.all false
set_option maxRecDepth 100000
set_option maxHeartbeats 8000000
namespace Lg
open Go Go.Proofs

/-! ### the reference's shelf -/
/-- the same over an owned slice, that it only reads -/
theorem indexFuncO_nm {n : Nat} {l : List Nm} {p : Nm → Bool} {ad : Option Addr} {cap : Nat} {g : Nat} {caps : List Value} {cin : List Chunk} (hl : l.length ≤ 1000000000) (hn : n = l.length)
    (hs : ∀ x, x ∈ l → Spec Tryz.prog g ([Tr.agg x.row] ++ caps.map Tr.raw) cin (fun r cs => r = Tr.bool (p x) ∧ cs = cin)) :
    Spec Tryz.prog 53 [Tr.raw (.slice ad n cap), Tr.raw (.func (.func g) #[] caps.toArray)] (Chunk.own ad cap 2 44 (l.map Nm.row) :: cin) (fun r cs => r = Tr.int (idxFrom p l 0) ∧ cs = Chunk.own ad cap 2 44 (l.map Nm.row) :: cin) := by
  refine Spec.body Tryz.func53 rfl rfl (Tryz.ntmps53) rfl fun w0 own0 M => ?_
  have hL : (l.map Nm.row).length = n := by rw [List.length_map, hn]
  repeat' (first | refine goH ?_ | refine goV ?_ | refine goI ?_ | (refine Cw.k_cond ?_; first | (refine Cw.cond_dec rfl (fun hc => ?_) (fun hc => ?_) <;> try (exfalso; omega)) | refine Cw.cond_bool rfl (fun hc => ?_) (fun hc => ?_)) | fail)
  refine Cw.loopI [(0, _), (1, _), (7, _)] _ (fun q e c => ∃ k : Nat, q = n - k ∧ (k ≤ n ∧ idxFrom p l 0 = idxFrom p (l.drop k) k) ∧ e = [(8, .int k)] ∧ c = []) ⟨_, _, _, (Ent.mkP goSub goPm), 0, rfl, ⟨by omega, rfl⟩, rfl, rfl⟩ ?_
  rintro _ _ _ ⟨k, rfl, ⟨hk, hgo⟩, rfl, rfl⟩
  by_cases hkl : k < n
  · obtain ⟨x, hx⟩ : ∃ x, l[k]? = some x := ⟨_, List.getElem?_eq_getElem (by omega)⟩
    have hrow : (l.map Nm.row)[k]? = some [.str x.key, .int x.many] := rows_at hx
    have hdrop := idxFrom_drop p hx
    rw [hdrop] at hgo
    have hsx := hs x (List.mem_of_getElem? hx)
    by_cases hp : p x = true
    · rw [if_pos hp] at hgo
      rw [hp] at hsx
      repeat' (first | refine goH ?_ | refine goV ?_ | refine goI ?_ | (refine Cw.k_cond ?_; first | (refine Cw.cond_dec rfl (fun hc => ?_) (fun hc => ?_) <;> try (exfalso; omega)) | refine Cw.cond_bool rfl (fun hc => ?_) (fun hc => ?_)) | (refine Ops.k_calla ?_; first | refine Ops.callS_fn rfl hsx (Evs.cons rfl Evs.nil) (List.perm_append_comm (l₁ := [Chunk.own ad cap 2 44 (l.map Nm.row)])) rfl ?_) | fail)
      exact Fin.ret Ent.refl (Outs.one rfl rfl) ⟨by rw [hgo], rfl⟩
    · rw [if_neg hp] at hgo
      rw [Bool.not_eq_true] at hp
      rw [hp] at hsx
      repeat' (first | refine goH ?_ | refine goV ?_ | refine goI ?_ | (refine Cw.k_cond ?_; first | (refine Cw.cond_dec rfl (fun hc => ?_) (fun hc => ?_) <;> try (exfalso; omega)) | refine Cw.cond_bool rfl (fun hc => ?_) (fun hc => ?_)) | (refine Ops.k_calla ?_; first | refine Ops.callS_fn rfl hsx (Evs.cons rfl Evs.nil) (List.perm_append_comm (l₁ := [Chunk.own ad cap 2 44 (l.map Nm.row)])) rfl ?_) | fail)
      exact ⟨_, _, _, (Ent.mkP goSub goPm), ⟨k + 1, rfl, ⟨by omega, hgo⟩, rfl, rfl⟩, by omega⟩
  · rw [List.drop_eq_nil_of_le (by omega), idxFrom] at hgo
    repeat' (first | refine goH ?_ | refine goV ?_ | refine goI ?_ | (refine Cw.k_cond ?_; first | (refine Cw.cond_dec rfl (fun hc => ?_) (fun hc => ?_) <;> try (exfalso; omega)) | refine Cw.cond_bool rfl (fun hc => ?_) (fun hc => ?_)) | fail)
    exact Fin.ret Ent.refl (Outs.one rfl rfl) ⟨by rw [hgo], rfl⟩

theorem shIs_fn (x : Nm) (b E : Nat) (c : Mv) : Spec Tryz.prog 54 [.agg x.row, .ptr b] [Chunk.box b E c.row] (fun r cs => r = .bool (decide (x.key = c.ware)) ∧ cs = [Chunk.box b E c.row]) := by
  unfold Nm.row Mv.row
  refine Spec.body Tryz.func54 rfl rfl (Tryz.ntmps54) rfl fun w0 own0 M => ?_
  repeat' (first | refine goH ?_ | refine goV ?_ | refine goB (fun b => ?_) | refine goI ?_ | (refine Cw.k_cond ?_; first | (refine Cw.cond_dec rfl (fun hc => ?_) (fun hc => ?_) <;> try (exfalso; omega)) | refine Cw.cond_bool rfl (fun hc => ?_) (fun hc => ?_)) | fail)
  exact Fin.ret (Ent.take goTk) (Outs.one rfl rfl) ⟨rfl, rfl⟩
theorem sortedNamedK (xs : List Nm) (hl : xs.length ≤ 1000000) (hn : (xs.map Nm.key).Nodup) (ad : Option Addr) (cap : Nat) : Spec Tryz.prog 55 [Tr.raw (.slice ad xs.length cap)] [Chunk.own ad cap 2 44 (xs.map Nm.row)] (fun r cs => r = Tr.raw (.slice ad xs.length cap) ∧ cs = [Chunk.own ad cap 2 44 ((isort nmLt xs).map Nm.row)]) := by
  have k1 := fun ad cap => sortNmK nmLtR_fn xs hl hn ad cap
  refine Spec.body Tryz.func55 rfl rfl (Tryz.ntmps55) rfl fun w0 own0 M => ?_
  repeat' (first | refine goH ?_ | refine goV ?_ | refine goI ?_ | (refine Cw.k_cond ?_; first | (refine Cw.cond_dec rfl (fun hc => ?_) (fun hc => ?_) <;> try (exfalso; omega)) | refine Cw.cond_bool rfl (fun hc => ?_) (fun hc => ?_)) | (refine Ops.k_calla ?_; first | (refine Ops.k_callf 75 ?_; (refine Ops.call (k1 _ _) (Evs.cons rfl (Evs.cons rfl Evs.nil)) goPm rfl ?_; rintro r cs' ⟨rfl, rfl⟩))) | fail)
  exact Fin.ret (Ent.take goTk) (Outs.one rfl rfl) ⟨rfl, rfl⟩
theorem snoc_N2 (m : PS) (p : ByteArray × Int) : (m.map mkN).map Nm.row ++ [(mkN p).row] = ((m ++ [p]).map mkN).map Nm.row := by simp
theorem set_N (m : PS) (j : Nat) (p : ByteArray × Int) : ((m.map mkN).map Nm.row).set j (mkN p).row = ((m.set j p).map mkN).map Nm.row := by
  rw [List.map_set, List.map_set]
theorem shelfOf_fn (l : List Mv) (hl : l.length ≤ 100000) (hb : ∀ x ∈ l, -1000 ≤ x.many ∧ x.many ≤ 1000) : PFn Tryz.prog 18 [.mvs l] (· = .nms (shV l)) := by
  have hL : (l.map Mv.row).length = l.length := List.length_map _
  have hnd := smV_nodup l
  have hsl := smV_len l
  refine PFn.mk (Spec.body Tryz.func18 rfl rfl (Tryz.ntmps18) rfl fun w0 own0 M => ?_)
  repeat' (first | refine goH ?_ | refine goV ?_ | refine goB (fun b => ?_) | refine goC (fun ad cap => ?_) | refine goI ?_ | (refine Cw.k_cond ?_; first | (refine Cw.cond_dec rfl (fun hc => ?_) (fun hc => ?_) <;> try (exfalso; omega)) | refine Cw.cond_bool rfl (fun hc => ?_) (fun hc => ?_)) | refine goR ?_ | refine goP ?_ | apply PSeq.cons | apply PSeq.yes rfl rfl rfl | exact goW | fail)
  refine Cw.loopI [(7, _), (8, _)] _ (fun q e c => ∃ (k : Nat) (m : PS) (ad : Option Addr) (cap n : Nat) (rows : List (List Tr)), q = l.length - k ∧ (k ≤ l.length ∧ smV l = sumM m ((l.drop k).map mvP) ∧ mBd ((k : Int) * 1000) m ∧ m.length ≤ k ∧ rows = (m.map mkN).map Nm.row ∧ rows.length = n ∧ n = m.length) ∧ e = [(3, Tr.raw (.slice ad n cap)), (9, .int k)] ∧ c = [Chunk.own ad cap 2 44 rows])
    ⟨_, _, _, Ent.trans (Ent.nil 2 44) (Ent.mkP goSub goPm), 0, [], none, 0, 0, [], rfl, ⟨by omega, rfl, (fun q hq => by cases hq), Nat.le_refl _, rfl, rfl, rfl⟩, rfl, rfl⟩ ?_
  rintro _ _ _ ⟨k, m, ad, cap, n, rows, rfl, ⟨hk, hV, hm, hml, hrows, hrl, hnm⟩, rfl, rfl⟩
  by_cases hkl : k < l.length
  · obtain ⟨x, hx⟩ := at_lt hkl
    have hrow : (l.map Mv.row)[k]? = some [.str x.site, .int x.no, .int x.day, .str x.ware, .int x.many] := rows_at hx
    have hxm := hb x (List.mem_of_getElem? hx)
    have hV2 := smF_step hx hV
    have hvv := hm.val (by omega) x.ware
    have hadd : mBd (((k + 1 : Nat) : Int) * 1000) (mUp x.ware (mI x.ware m + x.many) m) := by
      have := hm.add (by omega) x.ware hxm
      unfold mAdd at this
      rwa [show ((k + 1 : Nat) : Int) * 1000 = (k : Int) * 1000 + 1000 by omega]
    have hml2 := mUp_len x.ware (mI x.ware m + x.many) m
    have kI := fun b => indexFuncO_nm (n := n) (l := m.map mkN) (p := fun y => decide (y.key = x.ware)) (ad := ad) (cap := cap) (g := 54) (caps := [.pointer (some ⟨b, 0, none⟩)]) (cin := [Chunk.box b 48 x.row]) (by rw [List.length_map]; omega) (by rw [hnm, List.length_map]) (fun y _ => shIs_fn y b _ x)
    rw [idxFrom_map] at kI
    rw [← hrows] at kI
    unfold Mv.row at kI
    clear hx hm hV hb hnd
    rcases mIx x.ware (mI x.ware m + x.many) m 0 with ⟨h3, h4, h5⟩ | ⟨j, u, h3, h4, h5, h6⟩
    · rw [show (fun y => decide ((mkN y).key = x.ware)) = (fun p : ByteArray × Int => decide (p.1 = x.ware)) from rfl, h3] at kI
      rw [h4] at hV2 hadd hvv h5 hml2
      rw [h5] at hV2 hadd hml2
      have hsn := snoc_N2 m (x.ware, 0)
      have hsn2 := snoc_N2 m (x.ware, 0 + x.many)
      rw [← hrows] at hsn hsn2
      simp only [mkN, Nm.row] at hsn hsn2
      repeat' (first | refine goH ?_ | refine goV ?_ | refine goB (fun b => ?_) | refine goC (fun ad cap => ?_) | refine goI ?_ | (refine Cw.k_cond ?_; first | (refine Cw.cond_dec rfl (fun hc => ?_) (fun hc => ?_) <;> try (exfalso; omega)) | refine Cw.cond_bool rfl (fun hc => ?_) (fun hc => ?_)) | (refine Ops.k_calla ?_; first | (refine Ops.k_callf 53 ?_; (refine Ops.call (kI _) (Evs.cons rfl (Evs.cons rfl Evs.nil)) goPm rfl ?_; rintro r cs' ⟨rfl, rfl⟩))) | refine goP ?_ | apply PSeq.cons | apply PSeq.yes rfl rfl rfl | exact goW | fail)
      have hr2l : (rows ++ [[Tr.str x.ware, Tr.int 0]]).length = n + 1 := by rw [List.length_append, hrl]; rfl
      have hset : (rows ++ [[Tr.str x.ware, Tr.int 0]]).set n [Tr.str x.ware, Tr.int (0 + x.many)] = rows ++ [[Tr.str x.ware, Tr.int (0 + x.many)]] := by
        rw [List.set_append_right _ _ (by omega), hrl, Nat.sub_self]
        rfl
      have hget : (rows ++ [[Tr.str x.ware, Tr.int 0]])[n]? = some [Tr.str x.ware, Tr.int 0] := by
        rw [List.getElem?_append_right (by omega), hrl, Nat.sub_self]
        rfl
      rw [hsn2] at hset
      generalize rows ++ [[Tr.str x.ware, Tr.int 0]] = rows2 at *
      have hi : (((rows2.length : Nat) : Int) - 1).toNat = n := by omega
      have q1 : rows2[(((rows2.length : Nat) : Int) - 1).toNat]? = some [Tr.str x.ware, Tr.int 0] := by rw [hi]; exact hget
      have q2 : rows2.set (((rows2.length : Nat) : Int) - 1).toNat [Tr.str x.ware, Tr.int (0 + x.many)] = ((m ++ [(x.ware, 0 + x.many)]).map mkN).map Nm.row := by rw [hi]; exact hset
      clear hsn hsn2 hset hget hrl hrows
      repeat' (first | refine goH ?_ | refine goV ?_ | refine goB (fun b => ?_) | refine goC (fun ad cap => ?_) | refine goI ?_ | (refine Cw.k_cond ?_; first | (refine Cw.cond_dec rfl (fun hc => ?_) (fun hc => ?_) <;> try (exfalso; omega)) | refine Cw.cond_bool rfl (fun hc => ?_) (fun hc => ?_)) | refine goR ?_ | refine goP ?_ | apply PSeq.cons | apply PSeq.yes rfl rfl rfl | exact goW | fail)
      exact ⟨_, _, _, (Ent.mk goSub goTk), ⟨k + 1, _, _, _, _, _, rfl, ⟨by omega, hV2, hadd, by omega, q2, by rw [List.length_set], by rw [hr2l, List.length_append, hnm]; rfl⟩, rfl, rfl⟩, by omega⟩
    · rw [show (fun y => decide ((mkN y).key = x.ware)) = (fun p : ByteArray × Int => decide (p.1 = x.ware)) from rfl, h3] at kI
      rw [Int.zero_add] at kI
      rw [h5] at hV2 hadd hvv h6 hml2
      rw [h6] at hV2 hadd hml2
      have hj := (List.getElem?_eq_some_iff.1 h4).1
      have q1 : rows[((j : Nat) : Int).toNat]? = some [Tr.str x.ware, Tr.int u] := by
        rw [hrows, Int.toNat_natCast]
        exact rows_at (f := Nm.row) (x := mkN (x.ware, u)) (by rw [List.getElem?_map, h4]; rfl)
      have q2 := set_N m j (x.ware, u + x.many)
      rw [← hrows] at q2
      simp only [mkN, Nm.row] at q2
      clear hrows
      repeat' (first | refine goH ?_ | refine goV ?_ | refine goB (fun b => ?_) | refine goC (fun ad cap => ?_) | refine goI ?_ | (refine Cw.k_cond ?_; first | (refine Cw.cond_dec rfl (fun hc => ?_) (fun hc => ?_) <;> try (exfalso; omega)) | refine Cw.cond_bool rfl (fun hc => ?_) (fun hc => ?_)) | (refine Ops.k_calla ?_; first | (refine Ops.k_callf 53 ?_; (refine Ops.call (kI _) (Evs.cons rfl (Evs.cons rfl Evs.nil)) goPm rfl ?_; rintro r cs' ⟨rfl, rfl⟩))) | refine goR ?_ | refine goP ?_ | apply PSeq.cons | apply PSeq.yes rfl rfl rfl | exact goW | fail)
      exact ⟨_, _, _, (Ent.mk goSub goTk), ⟨k + 1, _, _, _, _, _, rfl, ⟨by omega, hV2, hadd, by rw [List.length_set]; omega, q2, by rw [List.length_set, hrl], by rw [List.length_set, hnm]⟩, rfl, rfl⟩, by omega⟩
  rw [List.drop_of_length_le (by omega), List.map_nil, sumM] at hV
  subst hV
  have hnm2 : n = ((smV l).map mkN).length := by rw [hnm, List.length_map]
  clear hm hnm hrl
  subst hrows hnm2
  have kS := fun ad cap => sortedNamedK ((smV l).map mkN) (by rw [List.length_map]; omega) (by rw [key_mkN]; exact hnd) ad cap
  repeat' (first | refine goH ?_ | refine goV ?_ | refine goB (fun b => ?_) | refine goC (fun ad cap => ?_) | refine goI ?_ | (refine Cw.k_cond ?_; first | (refine Cw.cond_dec rfl (fun hc => ?_) (fun hc => ?_) <;> try (exfalso; omega)) | refine Cw.cond_bool rfl (fun hc => ?_) (fun hc => ?_)) | (refine Ops.k_calla ?_; first | (refine Ops.k_callf 55 ?_; (refine Ops.call (kS _ _) (Evs.cons rfl Evs.nil) goPm rfl ?_; rintro r cs' ⟨rfl, rfl⟩))) | refine goR ?_ | refine goP ?_ | apply PSeq.cons | apply PSeq.yes rfl rfl rfl | exact goW | fail)
  rw [show ((smV l).map mkN).length = ((shV l).map Nm.row).length by unfold shV; rw [List.length_map, List.length_map, isort_len, List.length_map]]
  refine Fin.ret (Ent.trans (Ent.settle (s := 2) rfl goPk rfl) (Ent.take goTk)) (Outs.sole rfl goOe) ⟨rfl, rfl⟩
end Lg
end
