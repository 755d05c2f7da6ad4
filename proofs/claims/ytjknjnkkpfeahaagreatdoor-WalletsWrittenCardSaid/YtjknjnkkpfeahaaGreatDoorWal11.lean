/- A part of the proof of a law of this seat: it adds no condition. By an AI agent. -/
import Derived.Test.YtjknjnkkpfeahaaGreatDoorWal8
section
set_option linter.all false
set_option maxRecDepth 100000
set_option maxHeartbeats 8000000
namespace Lg
open Go Go.Proofs

theorem setI (l : List Int) (i : Nat) (old v : Int) : (intRows l).set ((i : Nat) : Int).toNat ([Tr.int old].set 0 (Tr.int v)) = intRows (l.set i v) := by
  simp [intRows]
theorem walV_n {s : List ByteArray} {adR adU : Option Addr} {capR capU n : Nat} {L : List IL} {u : List Int} (h1 : (rowsW L).length = n) (h2 : (intRows u).length = n) : walV s adR capR L adU capU u = [.strs s, Tr.raw (.slice adR n capR), Tr.raw (.slice adU n capU)] := by unfold walV; rw [h1, h2]
structure MrgL (A B : Wal) (n : Nat) : Prop where
  n12 : n ≤ 12
  s : A.sites.length = n
  s2 : B.sites = A.sites
  r : A.rights.length = n
  r2 : B.rights.length = n
  u : A.used.length = n
  u2 : B.used.length = n
  rr : ∀ l ∈ A.rights, l.length = n
  rr2 : ∀ l ∈ B.rights, l.length = n
  sS : (strRows A.sites).length = n
  rR : (intsR A.rights).length = n
  rR2 : (intsR B.rights).length = n
  uU : (intRows A.used).length = n
  uU2 : (intRows B.used).length = n
  ml : (mxL A.used B.used).length = A.used.length
  mr : (mxR A.rights B.rights).length = A.rights.length
theorem MrgL.mk' {A B : Wal} (oa : WOk A) (ob : WOk B) (hs : B.sites = A.sites) : ∃ n, MrgL A B n := by
  have n1 := oa.n1
  have r1 := oa.r
  have r2 := ob.r
  have u1 := oa.u
  have u2 := ob.u
  have q1 := oa.rr
  have q2 := ob.rr
  rw [hs] at r2 u2 q2
  refine ⟨A.sites.length, n1, rfl, hs, r1, r2, u1, u2, q1, q2, strRows_len _, (intsR_len _).trans r1, (intsR_len _).trans r2, (intRows_len _).trans u1, (intRows_len _).trans u2, mxL_len (by omega), mxR_len (by omega)⟩
attribute [local irreducible] intRows intsR strRows mxL mxR mixL valsW rowsW
theorem noDone (_w : Wal) (_e : Int) : True := trivial
theorem merged_fn (A B : Wal) (ha : WBd A) (hb : WBd B) : PFn Tryz.prog 46 [.wal A, .wal B] (· = resW (mrgW A B) (mrgE A B)) := by
  have kP := pairR_fn A B ha hb
  have kO := walletCopy_fn A ha
  refine PFn.mk (Spec.body Tryz.func46 rfl rfl (Tryz.ntmps46) rfl fun w0 own0 M => ?_)
  by_cases h1 : pairE A B ≠ 0
  · have e : mrgE A B = pairE A B := by unfold mrgE; rw [if_pos h1]
    rw [e, resW_bad h1]
    generalize pairE A B = c at *
    repeat' (first | refine goH ?_ | refine goV ?_ | refine goB (fun b => ?_) | refine goI ?_ | (refine Cw.k_cond ?_; first | (refine Cw.cond_dec rfl (fun hc => ?_) (fun hc => ?_) <;> try (exfalso; omega)) | refine Cw.cond_bool rfl (fun hc => ?_) (fun hc => ?_)) | (refine Ops.k_calla ?_; first | (refine Ops.k_callf 66 ?_; refine Ops.callV kP (Evs.cons rfl (Evs.cons rfl Evs.nil)) rfl ?_)) | (apply OpW.k_call; first | (apply OpW.k_callf 66; exact OpW.callV kP (Evs.cons rfl (Evs.cons rfl Evs.nil)))) | refine goR ?_ | refine goP ?_ | apply PSeq.cons | apply PSeq.yes rfl rfl rfl | exact goW | fail)
    refine Fin.ret (Ent.trans (Ent.imp_box goPk impW0) (Ent.trans (Ent.setbox (s := 4) rfl goPk) (Ent.take goTk))) (Outs.many rfl (OutL.cons goOe (OutL.cons goOe OutL.nil)) rfl) ⟨rfl, rfl⟩
  have h0 : pairE A B = 0 := by omega
  have he : mrgE A B = walE (mrgW A B) := by unfold mrgE; rw [if_neg h1]
  rw [h0] at kP
  obtain ⟨wa, wb, hs⟩ := pairE_ok h0
  have oa := wok_E wa
  have ob := wok_E wb
  clear wa wb h1 h0
  have hm := oa.mrg ob hs
  have kW := walletFault_fn (mrgW A B) hm.bd
  rw [← he] at kW
  obtain ⟨c, hc⟩ : ∃ c, c = mrgE A B := ⟨_, rfl⟩
  rw [← hc] at kW ⊢
  have kD := noDone (mrgW A B) c
  clear he hc
  obtain ⟨n, H⟩ := MrgL.mk' oa ob hs
  have n12 := H.n12
  have hS := H.sS
  have hRA := H.rR
  have hUA := H.uU
  have hR2 := H.rR2
  have hU2 := H.uU2
  repeat' (first | refine goH ?_ | refine goV ?_ | refine goB (fun b => ?_) | refine goI ?_ | (refine Cw.k_cond ?_; first | (refine Cw.cond_dec rfl (fun hc => ?_) (fun hc => ?_) <;> try (exfalso; omega)) | refine Cw.cond_bool rfl (fun hc => ?_) (fun hc => ?_)) | (refine Ops.k_calla ?_; first | (refine Ops.k_callf 66 ?_; refine Ops.callV kP (Evs.cons rfl (Evs.cons rfl Evs.nil)) rfl ?_) | (refine Ops.k_callf 65 ?_; (refine Ops.call kO (Evs.cons rfl Evs.nil) goPm rfl ?_; rintro r cs' ⟨adR, capR, L, adU, capU, rfl, hv, rfl⟩; have hLl : (rowsW L).length = n := (by rw [rowsW_len, ← valsW_len, hv]; exact H.r); rw [walV_n hLl hUA]))) | (apply OpW.k_call; first | (apply OpW.k_callf 66; exact OpW.callV kP (Evs.cons rfl (Evs.cons rfl Evs.nil)))) | refine goR ?_ | refine goP ?_ | apply PSeq.cons | apply PSeq.yes rfl rfl rfl | exact goW | fail)
  refine Cw.loopI [(2, _), (3, _), (4, _), (7, _), (22, _)] _ (fun q e cc => ∃ (i : Nat) (u : List Int) (L : List IL), q = n - i ∧ (i ≤ n ∧ u = mixL (mxL A.used B.used) A.used i ∧ valsW L = mixL (mxR A.rights B.rights) A.rights i ∧ (intRows u).length = n ∧ (rowsW L).length = n) ∧ e = [(23, .int i)] ∧ cc = [Chunk.own adU capU 1 3 (intRows u), Chunk.own adR capR 1 22 (rowsW L), Chunk.bun (ownsW 3 L)])
    ⟨_, _, _, (Ent.mkP goSub goPm), 0, A.used, L, rfl, ⟨by omega, (mixL_zero _ _).symm, by rw [hv, mixL_zero], hUA, hLl⟩, rfl, rfl⟩ ?_
  clear hv hLl hUA
  have hmR : n = (intsR (mrgW A B).rights).length := by rw [intsR_len, hm.r]; exact H.s.symm
  rintro _ _ _ ⟨i, u, L, rfl, ⟨hi, hu, hv, hul, hLl⟩, rfl, rfl⟩
  by_cases hil : i < n
  · obtain ⟨ux, hux⟩ := at_lt (l := A.used) (k := i) (by rw [H.u]; exact hil)
    obtain ⟨uy, huy⟩ := at_lt (l := B.used) (k := i) (by rw [H.u2]; exact hil)
    have m1 : (intRows u)[((i : Nat) : Int).toNat]? = some [.int ux] := by rw [hu]; exact intRows_at ((mixL_at H.ml (by rw [H.u]; exact hil)).trans hux)
    have m0 := intRows_at hux
    have m2 := intRows_at huy
    have e1 : (intRows u).set ((i : Nat) : Int).toNat ([Tr.int ux].set 0 (Tr.int (max ux uy))) = intRows (mixL (mxL A.used B.used) A.used (i + 1)) := by rw [hu, setI, mixL_set H.ml (mxL_at hux huy)]
    obtain ⟨p, hp, hpx⟩ := rowsW_mix hv H.mr (by rw [H.r]; exact hil)
    have hpx2 : A.rights[i]? = some p.xs := hpx.symm
    obtain ⟨y, hy⟩ := at_lt (l := B.rights) (k := i) (by rw [H.r2]; exact hil)
    have hpl : Unit → p.xs.length = n := fun _ => H.rr _ (List.mem_of_getElem? hpx2)
    have hyl : Unit → y.length = n := fun _ => H.rr2 _ (List.mem_of_getElem? hy)
    have hmx : Unit → (mxL p.xs y).length = p.xs.length := fun _ => mxL_len ((hyl ()).trans (hpl ()).symm)
    have v1 : (rowsW L)[((i : Nat) : Int).toNat]? = some [Tr.raw p.val] := rowsW_get hp
    have v0 := intsR_at hpx2
    have v2 := intsR_at hy
    have hpr := (intRows_len p.xs).trans (hpl ())
    have hyr := (intRows_len y).trans (hyl ())
    have hpv : p.val = .slice p.ad n p.cap := by unfold IL.val; rw [hpr]
    rw [hpv] at v1
    obtain ⟨u', hu'⟩ : ∃ u', u' = mixL (mxL A.used B.used) A.used (i + 1) := ⟨_, rfl⟩
    rw [← hu'] at e1
    have hul' : (intRows u').length = n := by rw [← e1, List.length_set]; exact hul
    clear hu hux huy hpx
    repeat' (first | refine goH ?_ | (refine Ops.k_store ?_; first | (refine Ops.store_own1 rfl rfl goPk (by first | rfl | assumption | (simp [*]; done)) (by decide) ?_; rw [e1])) | refine goV ?_ | refine goB (fun b => ?_) | refine goI ?_ | (refine Cw.k_cond ?_; first | (refine Cw.cond_dec rfl (fun hc => ?_) (fun hc => ?_) <;> try (exfalso; omega)) | refine Cw.cond_bool rfl (fun hc => ?_) (fun hc => ?_)) | refine goR ?_ | refine goP ?_ | apply PSeq.cons | apply PSeq.yes rfl rfl rfl | exact goW | fail)
    refine Cw.ent (ent_pullW (E := 3) hp (by exact goPk)) ?_
    clear e1 m1 m0 m2
    refine Cw.loopI [(2, _), (3, _), (4, _), (7, _), (8, _), (22, _), (23, _), (43, _)] _ (fun q e cc => ∃ (j : Nat) (xs : List Int), q = n - j ∧ (j ≤ n ∧ xs = mixL (mxL p.xs y) p.xs j ∧ (intRows xs).length = n) ∧ e = [(44, .int j)] ∧ cc = [Chunk.own p.ad p.cap 1 3 (intRows xs)])
      ⟨_, _, _, (Ent.mkP goSub goPm), 0, p.xs, rfl, ⟨by omega, (mixL_zero _ _).symm, hpr⟩, rfl, rfl⟩ ?_
    rintro _ _ _ ⟨j, xs, rfl, ⟨hj, hxs, hxl⟩, rfl, rfl⟩
    by_cases hjl : j < n
    · obtain ⟨px, hpx⟩ := at_lt (l := p.xs) (k := j) (by rw [hpl ()]; exact hjl)
      obtain ⟨py, hpy⟩ := at_lt (l := y) (k := j) (by rw [hyl ()]; exact hjl)
      have g1 : (intRows xs)[((j : Nat) : Int).toNat]? = some [.int px] := by rw [hxs]; exact intRows_at ((mixL_at (hmx ()) (by rw [hpl ()]; exact hjl)).trans hpx)
      have g0 := intRows_at hpx
      have g2 := intRows_at hpy
      have f1 : (intRows xs).set ((j : Nat) : Int).toNat ([Tr.int px].set 0 (Tr.int (max px py))) = intRows (mixL (mxL p.xs y) p.xs (j + 1)) := by rw [hxs, setI, mixL_set (hmx ()) (mxL_at hpx hpy)]
      obtain ⟨xs', hxs'⟩ : ∃ u', u' = mixL (mxL p.xs y) p.xs (j + 1) := ⟨_, rfl⟩
      rw [← hxs'] at f1
      have hxl' : (intRows xs').length = n := by rw [← f1, List.length_set]; exact hxl
      clear hxs hpx hpy
      repeat' (first | refine goH ?_ | (refine Ops.k_store ?_; first | (refine Ops.store_own1 rfl rfl goPk (by first | rfl | assumption | (simp [*]; done)) (by decide) ?_; rw [f1])) | refine goV ?_ | refine goB (fun b => ?_) | refine goI ?_ | (refine Cw.k_cond ?_; first | (refine Cw.cond_dec rfl (fun hc => ?_) (fun hc => ?_) <;> try (exfalso; omega)) | refine Cw.cond_bool rfl (fun hc => ?_) (fun hc => ?_)) | refine goR ?_ | refine goP ?_ | apply PSeq.cons | apply PSeq.yes rfl rfl rfl | exact goW | fail)
      exact ⟨_, _, _, (Ent.mk goSub goTk), ⟨j + 1, xs', rfl, ⟨by omega, hxs', hxl'⟩, rfl, rfl⟩, by omega⟩
    · have hfin : xs = mxL p.xs y := by rw [hxs, mixL_all (hmx ()) (by rw [hpl ()]; omega)]
      have hvl : (⟨p.ad, p.cap, xs⟩ : IL).val = p.val := by rw [hpv]; unfold IL.val; rw [hxl]
      have hv' : valsW (L.set i ⟨p.ad, p.cap, xs⟩) = mixL (mxR A.rights B.rights) A.rights (i + 1) := by rw [valsW_set, hv]; exact mixL_set H.mr (by rw [hfin]; exact mxR_at hpx2 hy)
      refine Cw.ent (ent_putW (E := 3) (q := ⟨p.ad, p.cap, xs⟩) hp (by exact goPk) (by exact goPk)) ?_
      rw [← rowsW_set hp hvl]
      have hLl' : (rowsW (L.set i ⟨p.ad, p.cap, xs⟩)).length = n := by rw [rowsW_set hp hvl]; exact hLl
      clear hxs v1 v0 v2 hpr hyr hLl
      repeat' (first | refine goH ?_ | refine goV ?_ | refine goB (fun b => ?_) | refine goI ?_ | (refine Cw.k_cond ?_; first | (refine Cw.cond_dec rfl (fun hc => ?_) (fun hc => ?_) <;> try (exfalso; omega)) | refine Cw.cond_bool rfl (fun hc => ?_) (fun hc => ?_)) | refine goR ?_ | refine goP ?_ | apply PSeq.cons | apply PSeq.yes rfl rfl rfl | exact goW | fail)
      exact ⟨_, _, _, (Ent.mk goSub goTk), ⟨i + 1, u', L.set i ⟨p.ad, p.cap, xs⟩, rfl, ⟨by omega, hu', hv', hul', hLl'⟩, rfl, rfl⟩, by omega⟩
  · have hu2 : u = (mrgW A B).used := by rw [hu, mixL_all H.ml (by rw [H.u]; omega)]; rfl
    have hv2 : valsW L = (mrgW A B).rights := by rw [hv, mixL_all H.mr (by rw [H.r]; omega)]; rfl
    repeat' (first | refine goH ?_ | ((fail_if_success refine Ops.k_load ?_); refine goV ?_) | ((fail_if_success refine Ops.k_load ?_); refine goB (fun b => ?_)) | refine goI ?_ | (refine Cw.k_cond ?_; first | (refine Cw.cond_dec rfl (fun hc => ?_) (fun hc => ?_) <;> try (exfalso; omega)) | refine Cw.cond_bool rfl (fun hc => ?_) (fun hc => ?_)) | fail)
    first
    | refine Cw.ent (Ent.trans (ent_nestW (E2 := 3) (by exact goPk) (by exact goPk)) (Ent.trans (Ent.settle_box (b := b) (i := 1) (ad := adR) (kk := 1) (rows := intsR (valsW L)) (by exact Perm.cons' goPk (Perm.cons' goPk (List.Perm.refl _))) rfl (by rw [hv2]; exact hmR) rfl) (Ent.settle_box (b := b) (i := 2) (ad := adU) (kk := 1) (rows := intRows u) (by exact Perm.cons' goPk (Perm.cons' goPk (List.Perm.refl _))) rfl hul.symm rfl))) ?_
    | refine Ops.ent (Ent.trans (ent_nestW (E2 := 3) (by exact goPk) (by exact goPk)) (Ent.trans (Ent.settle_box (b := b) (i := 1) (ad := adR) (kk := 1) (rows := intsR (valsW L)) (by exact Perm.cons' goPk (Perm.cons' goPk (List.Perm.refl _))) rfl (by rw [hv2]; exact hmR) rfl) (Ent.settle_box (b := b) (i := 2) (ad := adU) (kk := 1) (rows := intRows u) (by exact Perm.cons' goPk (Perm.cons' goPk (List.Perm.refl _))) rfl hul.symm rfl))) ?_
    rw [hu2, hv2]
    clear hu hv hu2 hv2 hul hLl hR2 hRA hU2 hS
    by_cases hc0 : c = 0
    · subst hc0
      rw [resW_ok rfl]
      try rw [resW_ok rfl] at kD
      repeat' (first | refine goH ?_ | refine goV ?_ | refine goB (fun b => ?_) | refine goI ?_ | (refine Cw.k_cond ?_; first | (refine Cw.cond_dec rfl (fun hc => ?_) (fun hc => ?_) <;> try (exfalso; omega)) | refine Cw.cond_bool rfl (fun hc => ?_) (fun hc => ?_)) | (refine Ops.k_calla ?_; first | (refine Ops.k_callf 6 ?_; refine Ops.callV kW (Evs.cons rfl Evs.nil) rfl ?_) | refine Ops.callV kD (Evs.cons rfl (Evs.cons rfl Evs.nil)) rfl ?_) | (apply OpW.k_call; first | (apply OpW.k_callf 6; exact OpW.callV kW (Evs.cons rfl Evs.nil)) | exact OpW.callV kD (Evs.cons rfl (Evs.cons rfl Evs.nil))) | refine goR ?_ | refine goP ?_ | apply PSeq.cons | apply PSeq.yes rfl rfl rfl | exact goW | fail)
      refine Fin.ret (Ent.trans (Ent.setbox (s := 4) rfl goPk) (Ent.take goTk)) (Outs.many rfl (OutL.cons goOe (OutL.cons goOe OutL.nil)) rfl) ⟨rfl, rfl⟩
    · rw [resW_bad hc0]
      try rw [resW_bad hc0] at kD
      repeat' (first | refine goH ?_ | refine goV ?_ | refine goB (fun b => ?_) | refine goI ?_ | (refine Cw.k_cond ?_; first | (refine Cw.cond_dec rfl (fun hc => ?_) (fun hc => ?_) <;> try (exfalso; omega)) | refine Cw.cond_bool rfl (fun hc => ?_) (fun hc => ?_)) | (refine Ops.k_calla ?_; first | (refine Ops.k_callf 6 ?_; refine Ops.callV kW (Evs.cons rfl Evs.nil) rfl ?_) | refine Ops.callV kD (Evs.cons rfl (Evs.cons rfl Evs.nil)) rfl ?_) | (apply OpW.k_call; first | (apply OpW.k_callf 6; exact OpW.callV kW (Evs.cons rfl Evs.nil)) | exact OpW.callV kD (Evs.cons rfl (Evs.cons rfl Evs.nil))) | refine goR ?_ | refine goP ?_ | apply PSeq.cons | apply PSeq.yes rfl rfl rfl | exact goW | fail)
      first | (refine Fin.ret (Ent.trans (Ent.setbox (s := 4) rfl goPk) (Ent.take goTk)) (Outs.many rfl (OutL.cons goOe (OutL.cons goOe OutL.nil)) rfl) ⟨rfl, rfl⟩) | (refine Fin.ret (Ent.trans (Ent.imp_box goPk impW0) (Ent.trans (Ent.setbox (s := 4) rfl goPk) (Ent.take goTk))) (Outs.many rfl (OutL.cons goOe (OutL.cons goOe OutL.nil)) rfl) ⟨rfl, rfl⟩)
end Lg
end
section
set_option linter.all false
set_option maxRecDepth 100000
set_option maxHeartbeats 8000000
namespace Lg
open Go Go.Proofs

attribute [local irreducible] intRows intsR strRows valsW rowsW

end Lg
end
section
set_option linter.all false
set_option maxRecDepth 100000
set_option maxHeartbeats 8000000
namespace Lg
open Go Go.Proofs

/-! ### the place of a word -/
def idxS (l : List ByteArray) (x : ByteArray) : Int := match l.findIdx? (fun y => decide (x = y)) with
  | some k => k
  | none => -1
theorem idxS_found {l : List ByteArray} {x : ByteArray} {k : Nat} (h : l[k]? = some x) (hn : ∀ j, j < k → l[j]? ≠ some x) : idxS l x = k := by
  unfold idxS
  have hk := (List.getElem?_eq_some_iff.1 h)
  obtain ⟨hlt, e⟩ := hk
  have : l.findIdx? (fun y => decide (x = y)) = some k := by
    rw [List.findIdx?_eq_some_iff_getElem]
    refine ⟨hlt, by simp [e], fun j hj => ?_⟩
    have := hn j hj
    rw [List.getElem?_eq_getElem (by omega)] at this
    simp
    intro e2
    exact this (by rw [← e2])
  rw [this]
theorem idxS_none {l : List ByteArray} {x : ByteArray} (hn : ∀ j, j < l.length → l[j]? ≠ some x) : idxS l x = -1 := by
  unfold idxS
  have : l.findIdx? (fun y => decide (x = y)) = none := by
    rw [List.findIdx?_eq_none_iff]
    intro y hy
    obtain ⟨j, hj, rfl⟩ := List.getElem_of_mem hy
    simp
    intro e
    exact hn j hj (by rw [List.getElem?_eq_getElem hj, ← e])
  rw [this]
theorem idxS_cases (l : List ByteArray) (x : ByteArray) : idxS l x = -1 ∨ ∃ k : Nat, idxS l x = k ∧ l[k]? = some x ∧ k < l.length := by
  unfold idxS
  cases h : l.findIdx? (fun y => decide (x = y)) with
  | none => exact .inl rfl
  | some k =>
    rw [List.findIdx?_eq_some_iff_getElem] at h
    obtain ⟨hlt, e, _⟩ := h
    refine .inr ⟨k, rfl, ?_, hlt⟩
    rw [List.getElem?_eq_getElem hlt]
    simp at e
    rw [e]
theorem index_fn (l : List ByteArray) (x : ByteArray) (hl : l.length ≤ 1000000) : PFn Tryz.prog 62 [.strs l, .str x] (· = .int (idxS l x)) := by
  refine PFn.mk (Spec.body Tryz.func62 rfl rfl (Tryz.ntmps62) rfl fun w0 own0 M => ?_)
  have hL := strRows_len l
  repeat' (first | refine goH ?_ | refine goV ?_ | refine goI ?_ | (refine Cw.k_cond ?_; first | (refine Cw.cond_dec rfl (fun hc => ?_) (fun hc => ?_) <;> try (exfalso; omega)) | refine Cw.cond_bool rfl (fun hc => ?_) (fun hc => ?_)) | fail)
  refine Cw.loopI [(0, _), (1, _), (7, _)] _ (fun q e cc => ∃ (k : Nat), q = l.length - k ∧ (k ≤ l.length ∧ ∀ j, j < k → l[j]? ≠ some x) ∧ e = [(8, .int k)] ∧ cc = []) ⟨_, _, _, (Ent.mkP goSub goPm), 0, rfl, ⟨by omega, fun j h => absurd h (by omega)⟩, rfl, rfl⟩ ?_
  rintro _ _ _ ⟨k, rfl, ⟨hk, hV⟩, rfl, rfl⟩
  by_cases hkl : k < l.length
  · obtain ⟨y, hy⟩ := at_lt hkl
    have hr := strRows_at hy
    by_cases hxy : x = y
    · subst hxy
      have e := idxS_found hy hV
      clear hV
      repeat' (first | refine goH ?_ | refine goV ?_ | refine goI ?_ | (refine Cw.k_cond ?_; first | (refine Cw.cond_dec rfl (fun hc => ?_) (fun hc => ?_) <;> try (exfalso; omega)) | refine Cw.cond_bool rfl (fun hc => ?_) (fun hc => ?_)) | fail)
      all_goals first | exact Fin.ret (Ent.take goTk) (Outs.one rfl rfl) ⟨rfl, congrArg Tr.int e.symm⟩ | exact absurd rfl hc
    · have nx : ∀ j, j < k + 1 → l[j]? ≠ some x := by
        intro j hj
        by_cases e : j = k
        · subst e; rw [hy]; intro h; cases h; exact hxy rfl
        · exact hV j (by omega)
      clear hV
      repeat' (first | refine goH ?_ | refine goV ?_ | refine goI ?_ | (refine Cw.k_cond ?_; first | (refine Cw.cond_dec rfl (fun hc => ?_) (fun hc => ?_) <;> try (exfalso; omega)) | refine Cw.cond_bool rfl (fun hc => ?_) (fun hc => ?_)) | fail)
      all_goals first | exact ⟨_, _, _, (Ent.mk goSub goTk), ⟨k + 1, rfl, ⟨by omega, nx⟩, rfl, rfl⟩, by omega⟩ | (exfalso; simp_all; done)
  · have e : idxS l x = -1 := idxS_none (fun j hj => hV j (by omega))
    clear hV
    repeat' (first | refine goH ?_ | refine goV ?_ | refine goI ?_ | (refine Cw.k_cond ?_; first | (refine Cw.cond_dec rfl (fun hc => ?_) (fun hc => ?_) <;> try (exfalso; omega)) | refine Cw.cond_bool rfl (fun hc => ?_) (fun hc => ?_)) | fail)
    exact Fin.ret (Ent.take goTk) (Outs.one rfl rfl) ⟨rfl, congrArg Tr.int e.symm⟩

/-! ### what is given and spent -/
def set2 (R : List (List Int)) (i j : Nat) (v : Int) : List (List Int) := R.set i ((R.getD i []).set j v)
def gvE (w : Wal) (a b : ByteArray) (c : Int) (cr : Bool) : Int :=
  if idxS w.sites a < 0 ∨ idxS w.sites b < 0 then 8 else if cr = false ∧ idxS w.sites a = idxS w.sites b then 6 else if c < 1 ∨ 1000000000 < c then 1
  else if cr = false ∧ rgt w (idxS w.sites a).toNat < c then 16 else if at2 w.rights (idxS w.sites a).toNat (idxS w.sites b).toNat + c > 1000000000 then 12 else 0
def gvW (w : Wal) (a b : ByteArray) (c : Int) : Wal := ⟨w.sites, set2 w.rights (idxS w.sites a).toNat (idxS w.sites b).toNat (at2 w.rights (idxS w.sites a).toNat (idxS w.sites b).toNat + c), w.used⟩
def spE (w : Wal) (a : ByteArray) (c : Int) : Int :=
  if idxS w.sites a < 0 then 8 else if c < 1 ∨ 1000000000 < c then 1 else if rgt w (idxS w.sites a).toNat < c then 16 else if w.used.getD (idxS w.sites a).toNat 0 + c > 1000000000 then 12 else 0
def spW (w : Wal) (a : ByteArray) (c : Int) : Wal := ⟨w.sites, w.rights, w.used.set (idxS w.sites a).toNat (w.used.getD (idxS w.sites a).toNat 0 + c)⟩
theorem setI_ok {l : List Int} {k : Nat} {v : Int} (h : ∀ x ∈ l, 0 ≤ x ∧ x ≤ 1000000000) (hv : 0 ≤ v ∧ v ≤ 1000000000) : ∀ x ∈ l.set k v, 0 ≤ x ∧ x ≤ 1000000000 := by
  intro x hx
  rcases List.mem_or_eq_of_mem_set hx with h1 | h1
  · exact h x h1
  · rw [h1]; exact hv
theorem spW_ok {w : Wal} (h : WOk w) {a : ByteArray} {c : Int} (he : spE w a c = 0) : WOk (spW w a c) := by
  unfold spE at he
  by_cases q1 : idxS w.sites a < 0
  · rw [if_pos q1] at he; omega
  rw [if_neg q1] at he
  by_cases q2 : c < 1 ∨ 1000000000 < c
  · rw [if_pos q2] at he; omega
  rw [if_neg q2] at he
  by_cases q3 : rgt w (idxS w.sites a).toNat < c
  · rw [if_pos q3] at he; omega
  rw [if_neg q3] at he
  by_cases q4 : w.used.getD (idxS w.sites a).toNat 0 + c > 1000000000
  · rw [if_pos q4] at he; omega
  rcases idxS_cases w.sites a with h1 | ⟨k, h1, _, hk⟩
  · omega
  obtain ⟨y, _, e2, h3, h4⟩ := h.us hk
  unfold spW
  rw [h1] at q4 ⊢
  rw [Int.toNat_natCast] at q4 ⊢
  rw [e2] at q4 ⊢
  exact ⟨h.n1, h.r, by simp only [List.length_set]; exact h.u, h.rr, setI_ok h.ru (by omega), h.rx⟩
theorem gvW_ok {w : Wal} (h : WOk w) {a b : ByteArray} {c : Int} {cr : Bool} (he : gvE w a b c cr = 0) : WOk (gvW w a b c) := by
  unfold gvE at he
  by_cases q1 : idxS w.sites a < 0 ∨ idxS w.sites b < 0
  · rw [if_pos q1] at he; omega
  rw [if_neg q1] at he
  by_cases q2 : cr = false ∧ idxS w.sites a = idxS w.sites b
  · rw [if_pos q2] at he; omega
  rw [if_neg q2] at he
  by_cases q3 : c < 1 ∨ 1000000000 < c
  · rw [if_pos q3] at he; omega
  rw [if_neg q3] at he
  by_cases q4 : cr = false ∧ rgt w (idxS w.sites a).toNat < c
  · rw [if_pos q4] at he; omega
  rw [if_neg q4] at he
  by_cases q5 : at2 w.rights (idxS w.sites a).toNat (idxS w.sites b).toNat + c > 1000000000
  · rw [if_pos q5] at he; omega
  rcases idxS_cases w.sites a with h1 | ⟨i, h1, _, hi⟩
  · omega
  rcases idxS_cases w.sites b with h2 | ⟨j, h2, _, hj⟩
  · omega
  obtain ⟨l, x, e1, e2, e3, b1, b2⟩ := h.at2 hi hj
  unfold gvW set2
  rw [h1, h2] at q5 ⊢
  rw [Int.toNat_natCast, Int.toNat_natCast] at q5 ⊢
  rw [e3] at q5 ⊢
  rw [List.getD_eq_getElem?_getD, e1, Option.getD_some]
  have ml := List.mem_of_getElem? e1
  refine ⟨h.n1, by simp only [List.length_set]; exact h.r, h.u, ?_, h.ru, ?_⟩
  · intro m hm
    rcases List.mem_or_eq_of_mem_set hm with h3 | h3
    · exact h.rr m h3
    · rw [h3, List.length_set]; exact h.rr l ml
  · intro m hm
    rcases List.mem_or_eq_of_mem_set hm with h3 | h3
    · exact h.rx m h3
    · rw [h3]; exact setI_ok (h.rx l ml) (by omega)
end Lg
end
