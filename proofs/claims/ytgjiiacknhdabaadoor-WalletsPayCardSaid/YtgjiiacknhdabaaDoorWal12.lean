/- A part of the proof of a law of this seat: it adds no condition. By an AI agent. -/
import Derived.Test.YtgjiiacknhdabaaDoorWal7
section
set_option linter.all false
set_option maxRecDepth 100000
set_option maxHeartbeats 8000000
namespace Lg
open Go Go.Proofs

def wNil : Wal := ⟨[], [], []⟩
def resW (w : Wal) (e : Int) : Tr := .tup [.wal (if e = 0 then w else wNil), .int e]
theorem resW_ok {w : Wal} {e : Int} (h : e = 0) : resW w e = .tup [.wal w, .int 0] := by
  subst h
  rfl
theorem resW_bad {w : Wal} {e : Int} (h : e ≠ 0) : resW w e = .tup [.wal wNil, .int e] := by
  unfold resW
  rw [if_neg h]
theorem impW0 : ImpL (List.map Tr.raw [.slice none 0 0, .slice none 0 0, .slice none 0 0]) [.strs [], .sl 1 (intsR []), .ints []] := .cons Imp.nil (.cons Imp.nil (.cons Imp.nil .nil))
theorem done_fn (w : Wal) (e : Int) : PFn Tryd.prog 39 [.wal w, .int e] (· = resW w e) := by
  refine PFn.mk (Spec.body Tryd.func39 rfl rfl (Tryd.ntmps39) rfl fun w0 own0 M => ?_)
  by_cases h : e = 0
  · rw [resW_ok h]
    repeat' (first | refine goH ?_ | refine goV ?_ | refine goB (fun b => ?_) | refine goI ?_ | (refine Cw.k_cond ?_; first | (refine Cw.cond_dec rfl (fun hc => ?_) (fun hc => ?_) <;> try (exfalso; omega)) | refine Cw.cond_bool rfl (fun hc => ?_) (fun hc => ?_)) | fail)
    refine Fin.ret (Ent.trans (Ent.setbox (s := 4) rfl goPk) (Ent.take goTk)) (Outs.many rfl (OutL.cons goOe (OutL.cons goOe OutL.nil)) rfl) ⟨rfl, rfl⟩
  · rw [resW_bad h]
    repeat' (first | refine goH ?_ | refine goV ?_ | refine goB (fun b => ?_) | refine goI ?_ | (refine Cw.k_cond ?_; first | (refine Cw.cond_dec rfl (fun hc => ?_) (fun hc => ?_) <;> try (exfalso; omega)) | refine Cw.cond_bool rfl (fun hc => ?_) (fun hc => ?_)) | fail)
    refine Fin.ret (Ent.trans (Ent.imp_box goPk impW0) (Ent.trans (Ent.setbox (s := 4) rfl goPk) (Ent.take goTk))) (Outs.many rfl (OutL.cons goOe (OutL.cons goOe OutL.nil)) rfl) ⟨rfl, rfl⟩
def mrgE (a b : Wal) : Int := if pairE a b ≠ 0 then pairE a b else walE (mrgW a b)
theorem rowsW_mix {L : List IL} {m x : List (List Int)} {i : Nat} (h : valsW L = mixL m x i) (hm : m.length = x.length) (hi : i < x.length) : ∃ p, L[i]? = some p ∧ some p.xs = x[i]? := by
  have e := congrArg (fun l => l[i]?) h
  simp only [mixL_at hm hi] at e
  unfold valsW at e
  rw [List.getElem?_map] at e
  cases hp : L[i]? with
  | none => rw [hp] at e; rw [List.getElem?_eq_getElem hi] at e; cases e
  | some p => rw [hp] at e; exact ⟨p, rfl, e⟩
end Lg
end
section
set_option linter.all false
set_option maxRecDepth 100000
set_option maxHeartbeats 8000000
namespace Lg
open Go Go.Proofs

theorem setI (l : List Int) (i : Nat) (old v : Int) : (intRows l).set ((i : Nat) : Int).toNat ([Tr.int old].set 0 (Tr.int v)) = intRows (l.set i v) := by
  simp [intRows]
theorem walV_n {s : List ByteArray} {adR adU : Option Addr} {capR capU n : Nat} {L : List IL} {u : List Int} (h1 : (rowsW L).length = n) (h2 : (intRows u).length = n) : walV s adR capR L adU capU u = [.strs s, Tr.raw (.slice adR n capR), Tr.raw (.slice adU n capU)] := by unfold walV; rw [h1, h2]
structure MrgL (A B : Wal) (n : Nat) : Prop where
  n12 : n ≤ 12
  s : A.sites.length = n
  s2 : B.sites = A.sites
  r : A.rights.length = n
  r2 : B.rights.length = n
  u : A.used.length = n
  u2 : B.used.length = n
  rr : ∀ l ∈ A.rights, l.length = n
  rr2 : ∀ l ∈ B.rights, l.length = n
  sS : (strRows A.sites).length = n
  rR : (intsR A.rights).length = n
  rR2 : (intsR B.rights).length = n
  uU : (intRows A.used).length = n
  uU2 : (intRows B.used).length = n
  ml : (mxL A.used B.used).length = A.used.length
  mr : (mxR A.rights B.rights).length = A.rights.length
theorem MrgL.mk' {A B : Wal} (oa : WOk A) (ob : WOk B) (hs : B.sites = A.sites) : ∃ n, MrgL A B n := by
  have n1 := oa.n1
  have r1 := oa.r
  have r2 := ob.r
  have u1 := oa.u
  have u2 := ob.u
  have q1 := oa.rr
  have q2 := ob.rr
  rw [hs] at r2 u2 q2
  refine ⟨A.sites.length, n1, rfl, hs, r1, r2, u1, u2, q1, q2, strRows_len _, (intsR_len _).trans r1, (intsR_len _).trans r2, (intRows_len _).trans u1, (intRows_len _).trans u2, mxL_len (by omega), mxR_len (by omega)⟩
attribute [local irreducible] intRows intsR strRows mxL mxR mixL valsW rowsW
theorem merge_fn (A B : Wal) (ha : WBd A) (hb : WBd B) : PFn Tryd.prog 10 [.wal A, .wal B] (· = resW (mrgW A B) (mrgE A B)) := by
  have kP := pairD_fn A B ha hb
  have kO := owned_fn A ha
  refine PFn.mk (Spec.body Tryd.func10 rfl rfl (Tryd.ntmps10) rfl fun w0 own0 M => ?_)
  by_cases h1 : pairE A B ≠ 0
  · have e : mrgE A B = pairE A B := by unfold mrgE; rw [if_pos h1]
    rw [e, resW_bad h1]
    generalize pairE A B = c at *
    repeat' (first | refine goH ?_ | refine goV ?_ | refine goB (fun b => ?_) | refine goI ?_ | (refine Cw.k_cond ?_; first | (refine Cw.cond_dec rfl (fun hc => ?_) (fun hc => ?_) <;> try (exfalso; omega)) | refine Cw.cond_bool rfl (fun hc => ?_) (fun hc => ?_)) | (refine Ops.k_calla ?_; first | (refine Ops.k_callf 37 ?_; refine Ops.callV kP (Evs.cons rfl (Evs.cons rfl Evs.nil)) rfl ?_)) | (apply OpW.k_call; first | (apply OpW.k_callf 37; exact OpW.callV kP (Evs.cons rfl (Evs.cons rfl Evs.nil)))) | refine goR ?_ | refine goP ?_ | apply PSeq.cons | apply PSeq.yes rfl rfl rfl | exact goW | fail)
    refine Fin.ret (Ent.trans (Ent.imp_box goPk impW0) (Ent.trans (Ent.setbox (s := 4) rfl goPk) (Ent.take goTk))) (Outs.many rfl (OutL.cons goOe (OutL.cons goOe OutL.nil)) rfl) ⟨rfl, rfl⟩
  have h0 : pairE A B = 0 := by omega
  have he : mrgE A B = walE (mrgW A B) := by unfold mrgE; rw [if_neg h1]
  rw [h0] at kP
  obtain ⟨wa, wb, hs⟩ := pairE_ok h0
  have oa := wok_E wa
  have ob := wok_E wb
  clear wa wb h1 h0
  have hm := oa.mrg ob hs
  have kW := checkWallet_fn (mrgW A B) hm.bd
  rw [← he] at kW
  obtain ⟨c, hc⟩ : ∃ c, c = mrgE A B := ⟨_, rfl⟩
  rw [← hc] at kW ⊢
  have kD := done_fn (mrgW A B) c
  clear he hc
  obtain ⟨n, H⟩ := MrgL.mk' oa ob hs
  have n12 := H.n12
  have hS := H.sS
  have hRA := H.rR
  have hUA := H.uU
  have hR2 := H.rR2
  have hU2 := H.uU2
  repeat' (first | refine goH ?_ | refine goV ?_ | refine goB (fun b => ?_) | refine goI ?_ | (refine Cw.k_cond ?_; first | (refine Cw.cond_dec rfl (fun hc => ?_) (fun hc => ?_) <;> try (exfalso; omega)) | refine Cw.cond_bool rfl (fun hc => ?_) (fun hc => ?_)) | (refine Ops.k_calla ?_; first | (refine Ops.k_callf 37 ?_; refine Ops.callV kP (Evs.cons rfl (Evs.cons rfl Evs.nil)) rfl ?_) | (refine Ops.k_callf 38 ?_; (refine Ops.call kO (Evs.cons rfl Evs.nil) goPm rfl ?_; rintro r cs' ⟨adR, capR, L, adU, capU, rfl, hv, rfl⟩; have hLl : (rowsW L).length = n := (by rw [rowsW_len, ← valsW_len, hv]; exact H.r); rw [walV_n hLl hUA]))) | (apply OpW.k_call; first | (apply OpW.k_callf 37; exact OpW.callV kP (Evs.cons rfl (Evs.cons rfl Evs.nil)))) | refine goR ?_ | refine goP ?_ | apply PSeq.cons | apply PSeq.yes rfl rfl rfl | exact goW | fail)
  refine Cw.loopI [(3, _), (4, _), (7, _), (21, _)] _ (fun q e cc => ∃ (i : Nat) (u : List Int) (L : List IL), q = n - i ∧ (i ≤ n ∧ u = mixL (mxL A.used B.used) A.used i ∧ valsW L = mixL (mxR A.rights B.rights) A.rights i ∧ (intRows u).length = n ∧ (rowsW L).length = n) ∧ e = [(22, .int i)] ∧ cc = [Chunk.own adU capU 1 3 (intRows u), Chunk.own adR capR 1 22 (rowsW L), Chunk.bun (ownsW 3 L)])
    ⟨_, _, _, (Ent.mkP goSub goPm), 0, A.used, L, rfl, ⟨by omega, (mixL_zero _ _).symm, by rw [hv, mixL_zero], hUA, hLl⟩, rfl, rfl⟩ ?_
  clear hv hLl hUA
  have hmR : n = (intsR (mrgW A B).rights).length := by rw [intsR_len, hm.r]; exact H.s.symm
  rintro _ _ _ ⟨i, u, L, rfl, ⟨hi, hu, hv, hul, hLl⟩, rfl, rfl⟩
  by_cases hil : i < n
  · obtain ⟨ux, hux⟩ := at_lt (l := A.used) (k := i) (by rw [H.u]; exact hil)
    obtain ⟨uy, huy⟩ := at_lt (l := B.used) (k := i) (by rw [H.u2]; exact hil)
    have m1 : (intRows u)[((i : Nat) : Int).toNat]? = some [.int ux] := by rw [hu]; exact intRows_at ((mixL_at H.ml (by rw [H.u]; exact hil)).trans hux)
    have m0 := intRows_at hux
    have m2 := intRows_at huy
    have e1 : (intRows u).set ((i : Nat) : Int).toNat ([Tr.int ux].set 0 (Tr.int (max ux uy))) = intRows (mixL (mxL A.used B.used) A.used (i + 1)) := by rw [hu, setI, mixL_set H.ml (mxL_at hux huy)]
    obtain ⟨p, hp, hpx⟩ := rowsW_mix hv H.mr (by rw [H.r]; exact hil)
    have hpx2 : A.rights[i]? = some p.xs := hpx.symm
    obtain ⟨y, hy⟩ := at_lt (l := B.rights) (k := i) (by rw [H.r2]; exact hil)
    have hpl : Unit → p.xs.length = n := fun _ => H.rr _ (List.mem_of_getElem? hpx2)
    have hyl : Unit → y.length = n := fun _ => H.rr2 _ (List.mem_of_getElem? hy)
    have hmx : Unit → (mxL p.xs y).length = p.xs.length := fun _ => mxL_len ((hyl ()).trans (hpl ()).symm)
    have v1 : (rowsW L)[((i : Nat) : Int).toNat]? = some [Tr.raw p.val] := rowsW_get hp
    have v0 := intsR_at hpx2
    have v2 := intsR_at hy
    have hpr := (intRows_len p.xs).trans (hpl ())
    have hyr := (intRows_len y).trans (hyl ())
    have hpv : p.val = .slice p.ad n p.cap := by unfold IL.val; rw [hpr]
    rw [hpv] at v1
    obtain ⟨u', hu'⟩ : ∃ u', u' = mixL (mxL A.used B.used) A.used (i + 1) := ⟨_, rfl⟩
    rw [← hu'] at e1
    have hul' : (intRows u').length = n := by rw [← e1, List.length_set]; exact hul
    clear hu hux huy hpx
    repeat' (first | refine goH ?_ | (refine Ops.k_store ?_; first | (refine Ops.store_own1 rfl rfl goPk (by first | rfl | assumption | (simp [*]; done)) (by decide) ?_; rw [e1])) | refine goV ?_ | refine goB (fun b => ?_) | refine goI ?_ | (refine Cw.k_cond ?_; first | (refine Cw.cond_dec rfl (fun hc => ?_) (fun hc => ?_) <;> try (exfalso; omega)) | refine Cw.cond_bool rfl (fun hc => ?_) (fun hc => ?_)) | refine goR ?_ | refine goP ?_ | apply PSeq.cons | apply PSeq.yes rfl rfl rfl | exact goW | fail)
    refine Cw.ent (ent_pullW (E := 3) hp (by exact goPk)) ?_
    clear e1 m1 m0 m2
    refine Cw.loopI [(3, _), (4, _), (7, _), (8, _), (21, _), (22, _), (42, _)] _ (fun q e cc => ∃ (j : Nat) (xs : List Int), q = n - j ∧ (j ≤ n ∧ xs = mixL (mxL p.xs y) p.xs j ∧ (intRows xs).length = n) ∧ e = [(43, .int j)] ∧ cc = [Chunk.own p.ad p.cap 1 3 (intRows xs)])
      ⟨_, _, _, (Ent.mkP goSub goPm), 0, p.xs, rfl, ⟨by omega, (mixL_zero _ _).symm, hpr⟩, rfl, rfl⟩ ?_
    rintro _ _ _ ⟨j, xs, rfl, ⟨hj, hxs, hxl⟩, rfl, rfl⟩
    by_cases hjl : j < n
    · obtain ⟨px, hpx⟩ := at_lt (l := p.xs) (k := j) (by rw [hpl ()]; exact hjl)
      obtain ⟨py, hpy⟩ := at_lt (l := y) (k := j) (by rw [hyl ()]; exact hjl)
      have g1 : (intRows xs)[((j : Nat) : Int).toNat]? = some [.int px] := by rw [hxs]; exact intRows_at ((mixL_at (hmx ()) (by rw [hpl ()]; exact hjl)).trans hpx)
      have g0 := intRows_at hpx
      have g2 := intRows_at hpy
      have f1 : (intRows xs).set ((j : Nat) : Int).toNat ([Tr.int px].set 0 (Tr.int (max px py))) = intRows (mixL (mxL p.xs y) p.xs (j + 1)) := by rw [hxs, setI, mixL_set (hmx ()) (mxL_at hpx hpy)]
      obtain ⟨xs', hxs'⟩ : ∃ u', u' = mixL (mxL p.xs y) p.xs (j + 1) := ⟨_, rfl⟩
      rw [← hxs'] at f1
      have hxl' : (intRows xs').length = n := by rw [← f1, List.length_set]; exact hxl
      clear hxs hpx hpy
      repeat' (first | refine goH ?_ | (refine Ops.k_store ?_; first | (refine Ops.store_own1 rfl rfl goPk (by first | rfl | assumption | (simp [*]; done)) (by decide) ?_; rw [f1])) | refine goV ?_ | refine goB (fun b => ?_) | refine goI ?_ | (refine Cw.k_cond ?_; first | (refine Cw.cond_dec rfl (fun hc => ?_) (fun hc => ?_) <;> try (exfalso; omega)) | refine Cw.cond_bool rfl (fun hc => ?_) (fun hc => ?_)) | refine goR ?_ | refine goP ?_ | apply PSeq.cons | apply PSeq.yes rfl rfl rfl | exact goW | fail)
      exact ⟨_, _, _, (Ent.mk goSub goTk), ⟨j + 1, xs', rfl, ⟨by omega, hxs', hxl'⟩, rfl, rfl⟩, by omega⟩
    · have hfin : xs = mxL p.xs y := by rw [hxs, mixL_all (hmx ()) (by rw [hpl ()]; omega)]
      have hvl : (⟨p.ad, p.cap, xs⟩ : IL).val = p.val := by rw [hpv]; unfold IL.val; rw [hxl]
      have hv' : valsW (L.set i ⟨p.ad, p.cap, xs⟩) = mixL (mxR A.rights B.rights) A.rights (i + 1) := by rw [valsW_set, hv]; exact mixL_set H.mr (by rw [hfin]; exact mxR_at hpx2 hy)
      refine Cw.ent (ent_putW (E := 3) (q := ⟨p.ad, p.cap, xs⟩) hp (by exact goPk) (by exact goPk)) ?_
      rw [← rowsW_set hp hvl]
      have hLl' : (rowsW (L.set i ⟨p.ad, p.cap, xs⟩)).length = n := by rw [rowsW_set hp hvl]; exact hLl
      clear hxs v1 v0 v2 hpr hyr hLl
      repeat' (first | refine goH ?_ | refine goV ?_ | refine goB (fun b => ?_) | refine goI ?_ | (refine Cw.k_cond ?_; first | (refine Cw.cond_dec rfl (fun hc => ?_) (fun hc => ?_) <;> try (exfalso; omega)) | refine Cw.cond_bool rfl (fun hc => ?_) (fun hc => ?_)) | refine goR ?_ | refine goP ?_ | apply PSeq.cons | apply PSeq.yes rfl rfl rfl | exact goW | fail)
      exact ⟨_, _, _, (Ent.mk goSub goTk), ⟨i + 1, u', L.set i ⟨p.ad, p.cap, xs⟩, rfl, ⟨by omega, hu', hv', hul', hLl'⟩, rfl, rfl⟩, by omega⟩
  · have hu2 : u = (mrgW A B).used := by rw [hu, mixL_all H.ml (by rw [H.u]; omega)]; rfl
    have hv2 : valsW L = (mrgW A B).rights := by rw [hv, mixL_all H.mr (by rw [H.r]; omega)]; rfl
    repeat' (first | refine goH ?_ | ((fail_if_success refine Ops.k_load ?_); refine goV ?_) | ((fail_if_success refine Ops.k_load ?_); refine goB (fun b => ?_)) | refine goI ?_ | (refine Cw.k_cond ?_; first | (refine Cw.cond_dec rfl (fun hc => ?_) (fun hc => ?_) <;> try (exfalso; omega)) | refine Cw.cond_bool rfl (fun hc => ?_) (fun hc => ?_)) | fail)
    first
    | refine Cw.ent (Ent.trans (ent_nestW (E2 := 3) (by exact goPk) (by exact goPk)) (Ent.trans (Ent.settle_box (b := b) (i := 1) (ad := adR) (kk := 1) (rows := intsR (valsW L)) (by exact Perm.cons' goPk (Perm.cons' goPk (List.Perm.refl _))) rfl (by rw [hv2]; exact hmR) rfl) (Ent.settle_box (b := b) (i := 2) (ad := adU) (kk := 1) (rows := intRows u) (by exact Perm.cons' goPk (Perm.cons' goPk (List.Perm.refl _))) rfl hul.symm rfl))) ?_
    | refine Ops.ent (Ent.trans (ent_nestW (E2 := 3) (by exact goPk) (by exact goPk)) (Ent.trans (Ent.settle_box (b := b) (i := 1) (ad := adR) (kk := 1) (rows := intsR (valsW L)) (by exact Perm.cons' goPk (Perm.cons' goPk (List.Perm.refl _))) rfl (by rw [hv2]; exact hmR) rfl) (Ent.settle_box (b := b) (i := 2) (ad := adU) (kk := 1) (rows := intRows u) (by exact Perm.cons' goPk (Perm.cons' goPk (List.Perm.refl _))) rfl hul.symm rfl))) ?_
    rw [hu2, hv2]
    clear hu hv hu2 hv2 hul hLl hR2 hRA hU2 hS
    by_cases hc0 : c = 0
    · subst hc0
      rw [resW_ok rfl] at kD ⊢
      repeat' (first | refine goH ?_ | refine goV ?_ | refine goB (fun b => ?_) | refine goI ?_ | (refine Cw.k_cond ?_; first | (refine Cw.cond_dec rfl (fun hc => ?_) (fun hc => ?_) <;> try (exfalso; omega)) | refine Cw.cond_bool rfl (fun hc => ?_) (fun hc => ?_)) | (refine Ops.k_calla ?_; first | (refine Ops.k_callf 21 ?_; refine Ops.callV kW (Evs.cons rfl Evs.nil) rfl ?_) | (refine Ops.k_callf 39 ?_; refine Ops.callV kD (Evs.cons rfl (Evs.cons rfl Evs.nil)) rfl ?_)) | (apply OpW.k_call; first | (apply OpW.k_callf 21; exact OpW.callV kW (Evs.cons rfl Evs.nil)) | (apply OpW.k_callf 39; exact OpW.callV kD (Evs.cons rfl (Evs.cons rfl Evs.nil)))) | refine goR ?_ | refine goP ?_ | apply PSeq.cons | apply PSeq.yes rfl rfl rfl | exact goW | fail)
      refine Fin.ret (Ent.trans (Ent.setbox (s := 4) rfl goPk) (Ent.take goTk)) (Outs.many rfl (OutL.cons goOe (OutL.cons goOe OutL.nil)) rfl) ⟨rfl, rfl⟩
    · rw [resW_bad hc0] at kD ⊢
      repeat' (first | refine goH ?_ | refine goV ?_ | refine goB (fun b => ?_) | refine goI ?_ | (refine Cw.k_cond ?_; first | (refine Cw.cond_dec rfl (fun hc => ?_) (fun hc => ?_) <;> try (exfalso; omega)) | refine Cw.cond_bool rfl (fun hc => ?_) (fun hc => ?_)) | (refine Ops.k_calla ?_; first | (refine Ops.k_callf 21 ?_; refine Ops.callV kW (Evs.cons rfl Evs.nil) rfl ?_) | (refine Ops.k_callf 39 ?_; refine Ops.callV kD (Evs.cons rfl (Evs.cons rfl Evs.nil)) rfl ?_)) | (apply OpW.k_call; first | (apply OpW.k_callf 21; exact OpW.callV kW (Evs.cons rfl Evs.nil)) | (apply OpW.k_callf 39; exact OpW.callV kD (Evs.cons rfl (Evs.cons rfl Evs.nil)))) | refine goR ?_ | refine goP ?_ | apply PSeq.cons | apply PSeq.yes rfl rfl rfl | exact goW | fail)
      first | (refine Fin.ret (Ent.trans (Ent.setbox (s := 4) rfl goPk) (Ent.take goTk)) (Outs.many rfl (OutL.cons goOe (OutL.cons goOe OutL.nil)) rfl) ⟨rfl, rfl⟩) | (refine Fin.ret (Ent.trans (Ent.imp_box goPk impW0) (Ent.trans (Ent.setbox (s := 4) rfl goPk) (Ent.take goTk))) (Outs.many rfl (OutL.cons goOe (OutL.cons goOe OutL.nil)) rfl) ⟨rfl, rfl⟩)
theorem merged_fn (A B : Wal) (ha : WBd A) (hb : WBd B) : PFn Tryd.prog 12 [.wal A, .wal B] (· = resW (mrgW A B) (mrgE A B)) := by
  have kP := pairR_fn A B ha hb
  have kO := walletCopy_fn A ha
  refine PFn.mk (Spec.body Tryd.func12 rfl rfl (Tryd.ntmps12) rfl fun w0 own0 M => ?_)
  by_cases h1 : pairE A B ≠ 0
  · have e : mrgE A B = pairE A B := by unfold mrgE; rw [if_pos h1]
    rw [e, resW_bad h1]
    generalize pairE A B = c at *
    repeat' (first | refine goH ?_ | refine goV ?_ | refine goB (fun b => ?_) | refine goI ?_ | (refine Cw.k_cond ?_; first | (refine Cw.cond_dec rfl (fun hc => ?_) (fun hc => ?_) <;> try (exfalso; omega)) | refine Cw.cond_bool rfl (fun hc => ?_) (fun hc => ?_)) | (refine Ops.k_calla ?_; first | (refine Ops.k_callf 40 ?_; refine Ops.callV kP (Evs.cons rfl (Evs.cons rfl Evs.nil)) rfl ?_)) | (apply OpW.k_call; first | (apply OpW.k_callf 40; exact OpW.callV kP (Evs.cons rfl (Evs.cons rfl Evs.nil)))) | refine goR ?_ | refine goP ?_ | apply PSeq.cons | apply PSeq.yes rfl rfl rfl | exact goW | fail)
    refine Fin.ret (Ent.trans (Ent.imp_box goPk impW0) (Ent.trans (Ent.setbox (s := 4) rfl goPk) (Ent.take goTk))) (Outs.many rfl (OutL.cons goOe (OutL.cons goOe OutL.nil)) rfl) ⟨rfl, rfl⟩
  have h0 : pairE A B = 0 := by omega
  have he : mrgE A B = walE (mrgW A B) := by unfold mrgE; rw [if_neg h1]
  rw [h0] at kP
  obtain ⟨wa, wb, hs⟩ := pairE_ok h0
  have oa := wok_E wa
  have ob := wok_E wb
  clear wa wb h1 h0
  have hm := oa.mrg ob hs
  have kW := walletFault_fn (mrgW A B) hm.bd
  rw [← he] at kW
  obtain ⟨c, hc⟩ : ∃ c, c = mrgE A B := ⟨_, rfl⟩
  rw [← hc] at kW ⊢
  have kD := done_fn (mrgW A B) c
  clear he hc
  obtain ⟨n, H⟩ := MrgL.mk' oa ob hs
  have n12 := H.n12
  have hS := H.sS
  have hRA := H.rR
  have hUA := H.uU
  have hR2 := H.rR2
  have hU2 := H.uU2
  repeat' (first | refine goH ?_ | refine goV ?_ | refine goB (fun b => ?_) | refine goI ?_ | (refine Cw.k_cond ?_; first | (refine Cw.cond_dec rfl (fun hc => ?_) (fun hc => ?_) <;> try (exfalso; omega)) | refine Cw.cond_bool rfl (fun hc => ?_) (fun hc => ?_)) | (refine Ops.k_calla ?_; first | (refine Ops.k_callf 40 ?_; refine Ops.callV kP (Evs.cons rfl (Evs.cons rfl Evs.nil)) rfl ?_) | (refine Ops.k_callf 41 ?_; (refine Ops.call kO (Evs.cons rfl Evs.nil) goPm rfl ?_; rintro r cs' ⟨adR, capR, L, adU, capU, rfl, hv, rfl⟩; have hLl : (rowsW L).length = n := (by rw [rowsW_len, ← valsW_len, hv]; exact H.r); rw [walV_n hLl hUA]))) | (apply OpW.k_call; first | (apply OpW.k_callf 40; exact OpW.callV kP (Evs.cons rfl (Evs.cons rfl Evs.nil)))) | refine goR ?_ | refine goP ?_ | apply PSeq.cons | apply PSeq.yes rfl rfl rfl | exact goW | fail)
  refine Cw.loopI [(2, _), (3, _), (4, _), (7, _), (22, _)] _ (fun q e cc => ∃ (i : Nat) (u : List Int) (L : List IL), q = n - i ∧ (i ≤ n ∧ u = mixL (mxL A.used B.used) A.used i ∧ valsW L = mixL (mxR A.rights B.rights) A.rights i ∧ (intRows u).length = n ∧ (rowsW L).length = n) ∧ e = [(23, .int i)] ∧ cc = [Chunk.own adU capU 1 3 (intRows u), Chunk.own adR capR 1 22 (rowsW L), Chunk.bun (ownsW 3 L)])
    ⟨_, _, _, (Ent.mkP goSub goPm), 0, A.used, L, rfl, ⟨by omega, (mixL_zero _ _).symm, by rw [hv, mixL_zero], hUA, hLl⟩, rfl, rfl⟩ ?_
  clear hv hLl hUA
  have hmR : n = (intsR (mrgW A B).rights).length := by rw [intsR_len, hm.r]; exact H.s.symm
  rintro _ _ _ ⟨i, u, L, rfl, ⟨hi, hu, hv, hul, hLl⟩, rfl, rfl⟩
  by_cases hil : i < n
  · obtain ⟨ux, hux⟩ := at_lt (l := A.used) (k := i) (by rw [H.u]; exact hil)
    obtain ⟨uy, huy⟩ := at_lt (l := B.used) (k := i) (by rw [H.u2]; exact hil)
    have m1 : (intRows u)[((i : Nat) : Int).toNat]? = some [.int ux] := by rw [hu]; exact intRows_at ((mixL_at H.ml (by rw [H.u]; exact hil)).trans hux)
    have m0 := intRows_at hux
    have m2 := intRows_at huy
    have e1 : (intRows u).set ((i : Nat) : Int).toNat ([Tr.int ux].set 0 (Tr.int (max ux uy))) = intRows (mixL (mxL A.used B.used) A.used (i + 1)) := by rw [hu, setI, mixL_set H.ml (mxL_at hux huy)]
    obtain ⟨p, hp, hpx⟩ := rowsW_mix hv H.mr (by rw [H.r]; exact hil)
    have hpx2 : A.rights[i]? = some p.xs := hpx.symm
    obtain ⟨y, hy⟩ := at_lt (l := B.rights) (k := i) (by rw [H.r2]; exact hil)
    have hpl : Unit → p.xs.length = n := fun _ => H.rr _ (List.mem_of_getElem? hpx2)
    have hyl : Unit → y.length = n := fun _ => H.rr2 _ (List.mem_of_getElem? hy)
    have hmx : Unit → (mxL p.xs y).length = p.xs.length := fun _ => mxL_len ((hyl ()).trans (hpl ()).symm)
    have v1 : (rowsW L)[((i : Nat) : Int).toNat]? = some [Tr.raw p.val] := rowsW_get hp
    have v0 := intsR_at hpx2
    have v2 := intsR_at hy
    have hpr := (intRows_len p.xs).trans (hpl ())
    have hyr := (intRows_len y).trans (hyl ())
    have hpv : p.val = .slice p.ad n p.cap := by unfold IL.val; rw [hpr]
    rw [hpv] at v1
    obtain ⟨u', hu'⟩ : ∃ u', u' = mixL (mxL A.used B.used) A.used (i + 1) := ⟨_, rfl⟩
    rw [← hu'] at e1
    have hul' : (intRows u').length = n := by rw [← e1, List.length_set]; exact hul
    clear hu hux huy hpx
    repeat' (first | refine goH ?_ | (refine Ops.k_store ?_; first | (refine Ops.store_own1 rfl rfl goPk (by first | rfl | assumption | (simp [*]; done)) (by decide) ?_; rw [e1])) | refine goV ?_ | refine goB (fun b => ?_) | refine goI ?_ | (refine Cw.k_cond ?_; first | (refine Cw.cond_dec rfl (fun hc => ?_) (fun hc => ?_) <;> try (exfalso; omega)) | refine Cw.cond_bool rfl (fun hc => ?_) (fun hc => ?_)) | refine goR ?_ | refine goP ?_ | apply PSeq.cons | apply PSeq.yes rfl rfl rfl | exact goW | fail)
    refine Cw.ent (ent_pullW (E := 3) hp (by exact goPk)) ?_
    clear e1 m1 m0 m2
    refine Cw.loopI [(2, _), (3, _), (4, _), (7, _), (8, _), (22, _), (23, _), (43, _)] _ (fun q e cc => ∃ (j : Nat) (xs : List Int), q = n - j ∧ (j ≤ n ∧ xs = mixL (mxL p.xs y) p.xs j ∧ (intRows xs).length = n) ∧ e = [(44, .int j)] ∧ cc = [Chunk.own p.ad p.cap 1 3 (intRows xs)])
      ⟨_, _, _, (Ent.mkP goSub goPm), 0, p.xs, rfl, ⟨by omega, (mixL_zero _ _).symm, hpr⟩, rfl, rfl⟩ ?_
    rintro _ _ _ ⟨j, xs, rfl, ⟨hj, hxs, hxl⟩, rfl, rfl⟩
    by_cases hjl : j < n
    · obtain ⟨px, hpx⟩ := at_lt (l := p.xs) (k := j) (by rw [hpl ()]; exact hjl)
      obtain ⟨py, hpy⟩ := at_lt (l := y) (k := j) (by rw [hyl ()]; exact hjl)
      have g1 : (intRows xs)[((j : Nat) : Int).toNat]? = some [.int px] := by rw [hxs]; exact intRows_at ((mixL_at (hmx ()) (by rw [hpl ()]; exact hjl)).trans hpx)
      have g0 := intRows_at hpx
      have g2 := intRows_at hpy
      have f1 : (intRows xs).set ((j : Nat) : Int).toNat ([Tr.int px].set 0 (Tr.int (max px py))) = intRows (mixL (mxL p.xs y) p.xs (j + 1)) := by rw [hxs, setI, mixL_set (hmx ()) (mxL_at hpx hpy)]
      obtain ⟨xs', hxs'⟩ : ∃ u', u' = mixL (mxL p.xs y) p.xs (j + 1) := ⟨_, rfl⟩
      rw [← hxs'] at f1
      have hxl' : (intRows xs').length = n := by rw [← f1, List.length_set]; exact hxl
      clear hxs hpx hpy
      repeat' (first | refine goH ?_ | (refine Ops.k_store ?_; first | (refine Ops.store_own1 rfl rfl goPk (by first | rfl | assumption | (simp [*]; done)) (by decide) ?_; rw [f1])) | refine goV ?_ | refine goB (fun b => ?_) | refine goI ?_ | (refine Cw.k_cond ?_; first | (refine Cw.cond_dec rfl (fun hc => ?_) (fun hc => ?_) <;> try (exfalso; omega)) | refine Cw.cond_bool rfl (fun hc => ?_) (fun hc => ?_)) | refine goR ?_ | refine goP ?_ | apply PSeq.cons | apply PSeq.yes rfl rfl rfl | exact goW | fail)
      exact ⟨_, _, _, (Ent.mk goSub goTk), ⟨j + 1, xs', rfl, ⟨by omega, hxs', hxl'⟩, rfl, rfl⟩, by omega⟩
    · have hfin : xs = mxL p.xs y := by rw [hxs, mixL_all (hmx ()) (by rw [hpl ()]; omega)]
      have hvl : (⟨p.ad, p.cap, xs⟩ : IL).val = p.val := by rw [hpv]; unfold IL.val; rw [hxl]
      have hv' : valsW (L.set i ⟨p.ad, p.cap, xs⟩) = mixL (mxR A.rights B.rights) A.rights (i + 1) := by rw [valsW_set, hv]; exact mixL_set H.mr (by rw [hfin]; exact mxR_at hpx2 hy)
      refine Cw.ent (ent_putW (E := 3) (q := ⟨p.ad, p.cap, xs⟩) hp (by exact goPk) (by exact goPk)) ?_
      rw [← rowsW_set hp hvl]
      have hLl' : (rowsW (L.set i ⟨p.ad, p.cap, xs⟩)).length = n := by rw [rowsW_set hp hvl]; exact hLl
      clear hxs v1 v0 v2 hpr hyr hLl
      repeat' (first | refine goH ?_ | refine goV ?_ | refine goB (fun b => ?_) | refine goI ?_ | (refine Cw.k_cond ?_; first | (refine Cw.cond_dec rfl (fun hc => ?_) (fun hc => ?_) <;> try (exfalso; omega)) | refine Cw.cond_bool rfl (fun hc => ?_) (fun hc => ?_)) | refine goR ?_ | refine goP ?_ | apply PSeq.cons | apply PSeq.yes rfl rfl rfl | exact goW | fail)
      exact ⟨_, _, _, (Ent.mk goSub goTk), ⟨i + 1, u', L.set i ⟨p.ad, p.cap, xs⟩, rfl, ⟨by omega, hu', hv', hul', hLl'⟩, rfl, rfl⟩, by omega⟩
  · have hu2 : u = (mrgW A B).used := by rw [hu, mixL_all H.ml (by rw [H.u]; omega)]; rfl
    have hv2 : valsW L = (mrgW A B).rights := by rw [hv, mixL_all H.mr (by rw [H.r]; omega)]; rfl
    repeat' (first | refine goH ?_ | ((fail_if_success refine Ops.k_load ?_); refine goV ?_) | ((fail_if_success refine Ops.k_load ?_); refine goB (fun b => ?_)) | refine goI ?_ | (refine Cw.k_cond ?_; first | (refine Cw.cond_dec rfl (fun hc => ?_) (fun hc => ?_) <;> try (exfalso; omega)) | refine Cw.cond_bool rfl (fun hc => ?_) (fun hc => ?_)) | fail)
    first
    | refine Cw.ent (Ent.trans (ent_nestW (E2 := 3) (by exact goPk) (by exact goPk)) (Ent.trans (Ent.settle_box (b := b) (i := 1) (ad := adR) (kk := 1) (rows := intsR (valsW L)) (by exact Perm.cons' goPk (Perm.cons' goPk (List.Perm.refl _))) rfl (by rw [hv2]; exact hmR) rfl) (Ent.settle_box (b := b) (i := 2) (ad := adU) (kk := 1) (rows := intRows u) (by exact Perm.cons' goPk (Perm.cons' goPk (List.Perm.refl _))) rfl hul.symm rfl))) ?_
    | refine Ops.ent (Ent.trans (ent_nestW (E2 := 3) (by exact goPk) (by exact goPk)) (Ent.trans (Ent.settle_box (b := b) (i := 1) (ad := adR) (kk := 1) (rows := intsR (valsW L)) (by exact Perm.cons' goPk (Perm.cons' goPk (List.Perm.refl _))) rfl (by rw [hv2]; exact hmR) rfl) (Ent.settle_box (b := b) (i := 2) (ad := adU) (kk := 1) (rows := intRows u) (by exact Perm.cons' goPk (Perm.cons' goPk (List.Perm.refl _))) rfl hul.symm rfl))) ?_
    rw [hu2, hv2]
    clear hu hv hu2 hv2 hul hLl hR2 hRA hU2 hS
    by_cases hc0 : c = 0
    · subst hc0
      rw [resW_ok rfl] at kD ⊢
      repeat' (first | refine goH ?_ | refine goV ?_ | refine goB (fun b => ?_) | refine goI ?_ | (refine Cw.k_cond ?_; first | (refine Cw.cond_dec rfl (fun hc => ?_) (fun hc => ?_) <;> try (exfalso; omega)) | refine Cw.cond_bool rfl (fun hc => ?_) (fun hc => ?_)) | (refine Ops.k_calla ?_; first | (refine Ops.k_callf 20 ?_; refine Ops.callV kW (Evs.cons rfl Evs.nil) rfl ?_) | (refine Ops.k_callf 39 ?_; refine Ops.callV kD (Evs.cons rfl (Evs.cons rfl Evs.nil)) rfl ?_)) | (apply OpW.k_call; first | (apply OpW.k_callf 20; exact OpW.callV kW (Evs.cons rfl Evs.nil)) | (apply OpW.k_callf 39; exact OpW.callV kD (Evs.cons rfl (Evs.cons rfl Evs.nil)))) | refine goR ?_ | refine goP ?_ | apply PSeq.cons | apply PSeq.yes rfl rfl rfl | exact goW | fail)
      refine Fin.ret (Ent.trans (Ent.setbox (s := 4) rfl goPk) (Ent.take goTk)) (Outs.many rfl (OutL.cons goOe (OutL.cons goOe OutL.nil)) rfl) ⟨rfl, rfl⟩
    · rw [resW_bad hc0] at kD ⊢
      repeat' (first | refine goH ?_ | refine goV ?_ | refine goB (fun b => ?_) | refine goI ?_ | (refine Cw.k_cond ?_; first | (refine Cw.cond_dec rfl (fun hc => ?_) (fun hc => ?_) <;> try (exfalso; omega)) | refine Cw.cond_bool rfl (fun hc => ?_) (fun hc => ?_)) | (refine Ops.k_calla ?_; first | (refine Ops.k_callf 20 ?_; refine Ops.callV kW (Evs.cons rfl Evs.nil) rfl ?_) | (refine Ops.k_callf 39 ?_; refine Ops.callV kD (Evs.cons rfl (Evs.cons rfl Evs.nil)) rfl ?_)) | (apply OpW.k_call; first | (apply OpW.k_callf 20; exact OpW.callV kW (Evs.cons rfl Evs.nil)) | (apply OpW.k_callf 39; exact OpW.callV kD (Evs.cons rfl (Evs.cons rfl Evs.nil)))) | refine goR ?_ | refine goP ?_ | apply PSeq.cons | apply PSeq.yes rfl rfl rfl | exact goW | fail)
      first | (refine Fin.ret (Ent.trans (Ent.setbox (s := 4) rfl goPk) (Ent.take goTk)) (Outs.many rfl (OutL.cons goOe (OutL.cons goOe OutL.nil)) rfl) ⟨rfl, rfl⟩) | (refine Fin.ret (Ent.trans (Ent.imp_box goPk impW0) (Ent.trans (Ent.setbox (s := 4) rfl goPk) (Ent.take goTk))) (Outs.many rfl (OutL.cons goOe (OutL.cons goOe OutL.nil)) rfl) ⟨rfl, rfl⟩)
end Lg
end
section
set_option linter.all false
set_option maxRecDepth 100000
set_option maxHeartbeats 8000000
namespace Lg
open Go Go.Proofs

def geTo (x y : List Int) (j : Nat) : Prop := ∀ k, k < j → ∀ a b : Int, x[k]? = some a → y[k]? = some b → ¬ a < b
theorem geTo_step {x y : List Int} {j : Nat} {a b : Int} (h : geTo x y j) (ha : x[j]? = some a) (hb : y[j]? = some b) (hn : ¬ a < b) : geTo x y (j + 1) := by
  intro k hk a' b' h1 h2
  by_cases e : k = j
  · subst e
    rw [ha] at h1
    rw [hb] at h2
    cases h1
    cases h2
    exact hn
  · exact h k (by omega) a' b' h1 h2
theorem geTo_all {x y : List Int} {j : Nat} (h : geTo x y j) (hj : x.length ≤ j) : geL x y := fun k a b h1 h2 => h k (by have := (List.getElem?_eq_some_iff.1 h1).1; omega) a b h1 h2
def rowsTo (A B : List (List Int)) (i : Nat) : Prop := ∀ k, k < i → ∀ l m : List Int, A[k]? = some l → B[k]? = some m → geL l m
theorem rowsTo_step {A B : List (List Int)} {i : Nat} {l m : List Int} (h : rowsTo A B i) (hl : A[i]? = some l) (hm : B[i]? = some m) (hg : geL l m) : rowsTo A B (i + 1) := by
  intro k hk l' m' h1 h2
  by_cases e : k = i
  · subst e
    rw [hl] at h1
    rw [hm] at h2
    cases h1
    cases h2
    exact hg
  · exact h k (by omega) l' m' h1 h2
theorem knB_no {A B : Wal} (oa : WOk A) (ob : WOk B) (hs : B.sites = A.sites) (h : ¬ (geL A.used B.used ∧ ∀ (i : Nat) (l m : List Int), A.rights[i]? = some l → B.rights[i]? = some m → geL l m)) : knB A B = false := by
  have := knB_iff oa ob hs
  cases hk : knB A B
  · rfl
  · exact absurd (this.1 hk) h
def kwE (A B : Wal) : Int := pairE A B
noncomputable def kwO (A B : Wal) : Tr := if pairE A B = 0 then .tup [.bool (knB A B), .int 0] else .tup [.bool false, .int (pairE A B)]
theorem kwO_bad {A B : Wal} (h : pairE A B ≠ 0) : kwO A B = .tup [.bool false, .int (pairE A B)] := by unfold kwO; rw [if_neg h]
theorem kwO_ok {A B : Wal} (h : pairE A B = 0) : kwO A B = .tup [.bool (knB A B), .int 0] := by unfold kwO; rw [if_pos h]
attribute [local irreducible] intRows intsR strRows valsW rowsW knB
theorem knows_fn (A B : Wal) (ha : WBd A) (hb : WBd B) : PFn Tryd.prog 11 [.wal A, .wal B] (· = kwO A B) := by
  have kP := pairD_fn A B ha hb
  refine PFn.mk (Spec.body Tryd.func11 rfl rfl (Tryd.ntmps11) rfl fun w0 own0 M => ?_)
  by_cases h1 : pairE A B ≠ 0
  · rw [kwO_bad h1]
    generalize pairE A B = c at *
    repeat' (first | refine goH ?_ | refine goV ?_ | refine goB (fun b => ?_) | refine goI ?_ | (refine Cw.k_cond ?_; first | (refine Cw.cond_dec rfl (fun hc => ?_) (fun hc => ?_) <;> try (exfalso; omega)) | refine Cw.cond_bool rfl (fun hc => ?_) (fun hc => ?_)) | (refine Ops.k_calla ?_; first | (refine Ops.k_callf 37 ?_; refine Ops.callV kP (Evs.cons rfl (Evs.cons rfl Evs.nil)) rfl ?_)) | (apply OpW.k_call; first | (apply OpW.k_callf 37; exact OpW.callV kP (Evs.cons rfl (Evs.cons rfl Evs.nil)))) | refine goR ?_ | refine goP ?_ | apply PSeq.cons | apply PSeq.yes rfl rfl rfl | exact goW | fail)
    refine Fin.ret (Ent.take goTk) (Outs.many rfl (OutL.cons goOe (OutL.cons goOe OutL.nil)) rfl) ⟨rfl, rfl⟩
  have h0 : pairE A B = 0 := by omega
  rw [kwO_ok h0]
  rw [h0] at kP
  obtain ⟨wa, wb, hs⟩ := pairE_ok h0
  have oa := wok_E wa
  have ob := wok_E wb
  clear wa wb h1 h0
  obtain ⟨n, H⟩ := MrgL.mk' oa ob hs
  have n12 := H.n12
  have hS := H.sS
  have hRA := H.rR
  have hUA := H.uU
  have hR2 := H.rR2
  have hU2 := H.uU2
  have K : Unit → (knB A B = true ↔ geL A.used B.used ∧ ∀ (i : Nat) (l m : List Int), A.rights[i]? = some l → B.rights[i]? = some m → geL l m) := fun _ => knB_iff oa ob hs
  have N : Unit → _ := fun _ => knB_no oa ob hs
  repeat' (first | refine goH ?_ | refine goV ?_ | refine goB (fun b => ?_) | refine goI ?_ | (refine Cw.k_cond ?_; first | (refine Cw.cond_dec rfl (fun hc => ?_) (fun hc => ?_) <;> try (exfalso; omega)) | refine Cw.cond_bool rfl (fun hc => ?_) (fun hc => ?_)) | (refine Ops.k_calla ?_; first | (refine Ops.k_callf 37 ?_; refine Ops.callV kP (Evs.cons rfl (Evs.cons rfl Evs.nil)) rfl ?_)) | (apply OpW.k_call; first | (apply OpW.k_callf 37; exact OpW.callV kP (Evs.cons rfl (Evs.cons rfl Evs.nil)))) | refine goR ?_ | refine goP ?_ | apply PSeq.cons | apply PSeq.yes rfl rfl rfl | exact goW | fail)
  refine Cw.loopI [(2, _), (3, _), (17, _)] _ (fun q e cc => ∃ (i : Nat), q = n - i ∧ (i ≤ n ∧ geTo A.used B.used i ∧ rowsTo A.rights B.rights i) ∧ e = [(18, .int i)] ∧ cc = []) ⟨_, _, _, (Ent.mkP goSub goPm), 0, rfl, ⟨by omega, fun k h => absurd h (by omega), fun k h => absurd h (by omega)⟩, rfl, rfl⟩ ?_
  rintro _ _ _ ⟨i, rfl, ⟨hi, hgu, hgr⟩, rfl, rfl⟩
  by_cases hil : i < n
  rotate_left
  · have e : knB A B = true := (K ()).2 ⟨geTo_all hgu (by rw [H.u]; omega), fun k l m h1 h2 => hgr k (by have := (List.getElem?_eq_some_iff.1 h1).1; rw [H.r] at this; omega) l m h1 h2⟩
    clear hgu hgr K N
    repeat' (first | refine goH ?_ | refine goV ?_ | refine goB (fun b => ?_) | refine goI ?_ | (refine Cw.k_cond ?_; first | (refine Cw.cond_dec rfl (fun hc => ?_) (fun hc => ?_) <;> try (exfalso; omega)) | refine Cw.cond_bool rfl (fun hc => ?_) (fun hc => ?_)) | refine goR ?_ | refine goP ?_ | apply PSeq.cons | apply PSeq.yes rfl rfl rfl | exact goW | fail)
    refine Fin.ret (Ent.take goTk) (Outs.many rfl (OutL.cons goOe (OutL.cons goOe OutL.nil)) rfl) ⟨rfl, by rw [e]⟩
  obtain ⟨ux, hux⟩ := at_lt (l := A.used) (k := i) (by rw [H.u]; exact hil)
  obtain ⟨uy, huy⟩ := at_lt (l := B.used) (k := i) (by rw [H.u2]; exact hil)
  have m1 := intRows_at hux
  have m2 := intRows_at huy
  obtain ⟨x, hx⟩ := at_lt (l := A.rights) (k := i) (by rw [H.r]; exact hil)
  obtain ⟨y, hy⟩ := at_lt (l := B.rights) (k := i) (by rw [H.r2]; exact hil)
  have v1 := intsR_at hx
  have v2 := intsR_at hy
  have hxl : Unit → x.length = n := fun _ => H.rr _ (List.mem_of_getElem? hx)
  have hyl : Unit → y.length = n := fun _ => H.rr2 _ (List.mem_of_getElem? hy)
  have hxr := (intRows_len x).trans (hxl ())
  have hyr := (intRows_len y).trans (hyl ())
  by_cases g : ux < uy
  · have e := N () (fun h => h.1 i ux uy hux huy g)
    clear hgu hgr K N hux huy hx hy
    repeat' (first | refine goH ?_ | refine goV ?_ | refine goB (fun b => ?_) | refine goI ?_ | (refine Cw.k_cond ?_; first | (refine Cw.cond_dec rfl (fun hc => ?_) (fun hc => ?_) <;> try (exfalso; omega)) | refine Cw.cond_bool rfl (fun hc => ?_) (fun hc => ?_)) | refine goR ?_ | refine goP ?_ | apply PSeq.cons | apply PSeq.yes rfl rfl rfl | exact goW | fail)
    refine Fin.ret (Ent.take goTk) (Outs.many rfl (OutL.cons goOe (OutL.cons goOe OutL.nil)) rfl) ⟨rfl, by rw [e]⟩
  have hgu' := geTo_step hgu hux huy g
  clear hgu hux huy
  repeat' (first | refine goH ?_ | refine goV ?_ | refine goB (fun b => ?_) | refine goI ?_ | (refine Cw.k_cond ?_; first | (refine Cw.cond_dec rfl (fun hc => ?_) (fun hc => ?_) <;> try (exfalso; omega)) | refine Cw.cond_bool rfl (fun hc => ?_) (fun hc => ?_)) | refine goR ?_ | refine goP ?_ | apply PSeq.cons | apply PSeq.yes rfl rfl rfl | exact goW | fail)
  clear m1 m2
  refine Cw.loopI [(2, _), (3, _), (7, _), (17, _), (18, _), (34, _)] _ (fun q e cc => ∃ (j : Nat), q = n - j ∧ (j ≤ n ∧ geTo x y j) ∧ e = [(35, .int j)] ∧ cc = []) ⟨_, _, _, (Ent.mkP goSub goPm), 0, rfl, ⟨by omega, fun k h => absurd h (by omega)⟩, rfl, rfl⟩ ?_
  rintro _ _ _ ⟨j, rfl, ⟨hj, hgj⟩, rfl, rfl⟩
  by_cases hjl : j < n
  rotate_left
  · have hgr' := rowsTo_step hgr hx hy (geTo_all hgj (by rw [hxl ()]; omega))
    clear hgr hgj K N
    repeat' (first | refine goH ?_ | refine goV ?_ | refine goB (fun b => ?_) | refine goI ?_ | (refine Cw.k_cond ?_; first | (refine Cw.cond_dec rfl (fun hc => ?_) (fun hc => ?_) <;> try (exfalso; omega)) | refine Cw.cond_bool rfl (fun hc => ?_) (fun hc => ?_)) | refine goR ?_ | refine goP ?_ | apply PSeq.cons | apply PSeq.yes rfl rfl rfl | exact goW | fail)
    exact ⟨_, _, _, (Ent.mk goSub goTk), ⟨i + 1, rfl, ⟨by omega, hgu', hgr'⟩, rfl, rfl⟩, by omega⟩
  obtain ⟨px, hpx⟩ := at_lt (l := x) (k := j) (by rw [hxl ()]; exact hjl)
  obtain ⟨py, hpy⟩ := at_lt (l := y) (k := j) (by rw [hyl ()]; exact hjl)
  have g1 := intRows_at hpx
  have g2 := intRows_at hpy
  by_cases g : px < py
  · have e := N () (fun h => h.2 i x y hx hy j px py hpx hpy g)
    clear hgu' hgr K N hgj
    repeat' (first | refine goH ?_ | refine goV ?_ | refine goB (fun b => ?_) | refine goI ?_ | (refine Cw.k_cond ?_; first | (refine Cw.cond_dec rfl (fun hc => ?_) (fun hc => ?_) <;> try (exfalso; omega)) | refine Cw.cond_bool rfl (fun hc => ?_) (fun hc => ?_)) | refine goR ?_ | refine goP ?_ | apply PSeq.cons | apply PSeq.yes rfl rfl rfl | exact goW | fail)
    refine Fin.ret (Ent.take goTk) (Outs.many rfl (OutL.cons goOe (OutL.cons goOe OutL.nil)) rfl) ⟨rfl, by rw [e]⟩
  have hgj' := geTo_step hgj hpx hpy g
  clear hgj
  repeat' (first | refine goH ?_ | refine goV ?_ | refine goB (fun b => ?_) | refine goI ?_ | (refine Cw.k_cond ?_; first | (refine Cw.cond_dec rfl (fun hc => ?_) (fun hc => ?_) <;> try (exfalso; omega)) | refine Cw.cond_bool rfl (fun hc => ?_) (fun hc => ?_)) | refine goR ?_ | refine goP ?_ | apply PSeq.cons | apply PSeq.yes rfl rfl rfl | exact goW | fail)
  exact ⟨_, _, _, (Ent.mk goSub goTk), ⟨j + 1, rfl, ⟨by omega, hgj'⟩, rfl, rfl⟩, by omega⟩
theorem flat_n {L : List (List Int)} {n : Nat} (h : ∀ l ∈ L, l.length = n) : L.flatten.length = L.length * n := by
  induction L with
  | nil => simp
  | cons l L ih =>
    rw [List.flatten_cons, List.length_append, ih (fun l hl => h l (List.mem_cons_of_mem _ hl)), h l (List.mem_cons_self ..), List.length_cons, Nat.succ_mul, Nat.add_comm]
theorem knowsAll_fn (A B : Wal) (ha : WBd A) (hb : WBd B) : PFn Tryd.prog 13 [.wal A, .wal B] (· = kwO A B) := by
  have kP := pairR_fn A B ha hb
  refine PFn.mk (Spec.body Tryd.func13 rfl rfl (Tryd.ntmps13) rfl fun w0 own0 M => ?_)
  by_cases h1 : pairE A B ≠ 0
  · rw [kwO_bad h1]
    generalize pairE A B = c at *
    repeat' (first | refine goH ?_ | refine goV ?_ | refine goB (fun b => ?_) | refine goC (fun ad cap => ?_) | refine goI ?_ | (refine Cw.k_cond ?_; first | (refine Cw.cond_dec rfl (fun hc => ?_) (fun hc => ?_) <;> try (exfalso; omega)) | refine Cw.cond_bool rfl (fun hc => ?_) (fun hc => ?_)) | (refine Ops.k_calla ?_; first | (refine Ops.k_callf 40 ?_; refine Ops.callV kP (Evs.cons rfl (Evs.cons rfl Evs.nil)) rfl ?_)) | (apply OpW.k_call; first | (apply OpW.k_callf 40; exact OpW.callV kP (Evs.cons rfl (Evs.cons rfl Evs.nil)))) | refine goR ?_ | refine goP ?_ | apply PSeq.cons | apply PSeq.yes rfl rfl rfl | exact goW | fail)
    refine Fin.ret (Ent.take goTk) (Outs.many rfl (OutL.cons goOe (OutL.cons goOe OutL.nil)) rfl) ⟨rfl, rfl⟩
  have h0 : pairE A B = 0 := by omega
  rw [kwO_ok h0]
  rw [h0] at kP
  obtain ⟨wa, wb, hs⟩ := pairE_ok h0
  have oa := wok_E wa
  have ob := wok_E wb
  clear wa wb h1 h0
  have b1 := oa.bd
  have b2 := ob.bd
  have q1 : A.rights.flatten.length ≤ 10000 := flat_bd (n := 100) (m := 100) b1.rr b1.r
  have q2 : B.rights.flatten.length ≤ 10000 := flat_bd (n := 100) (m := 100) b2.rr b2.r
  have p1 := b1.u
  have p2 := b2.u
  have p3 := b1.r
  have p4 := b2.r
  have kC := concat_fn A.rights (by omega) (by omega)
  have kC2 := concat_fn B.rights (by omega) (by omega)
  have f1 := intRows_len A.rights.flatten
  have f2 := intRows_len B.rights.flatten
  have f3 := intRows_len A.used
  have f4 := intRows_len B.used
  repeat' (first | refine goH ?_ | refine goV ?_ | refine goB (fun b => ?_) | refine goC (fun ad cap => ?_) | refine goI ?_ | (refine Cw.k_cond ?_; first | (refine Cw.cond_dec rfl (fun hc => ?_) (fun hc => ?_) <;> try (exfalso; omega)) | refine Cw.cond_bool rfl (fun hc => ?_) (fun hc => ?_)) | (refine Ops.k_calla ?_; first | (refine Ops.k_callf 40 ?_; refine Ops.callV kP (Evs.cons rfl (Evs.cons rfl Evs.nil)) rfl ?_)) | (apply OpW.k_call; first | (apply OpW.k_callf 40; exact OpW.callV kP (Evs.cons rfl (Evs.cons rfl Evs.nil)))) | fail)
  rename_i b2
  rename Nat => b3
  obtain ⟨m, hm⟩ : ∃ m, m = A.rights.flatten.length + A.used.length := ⟨_, rfl⟩
  have m2 : B.rights.flatten.length + B.used.length = m := by
    rw [hm, flat_n oa.rr, flat_n ob.rr, oa.r, ob.r, oa.u, ob.u, hs]
  refine Cw.region_YP (fun ξ S => Chunk.box b2 31 [.strs A.sites, .sl 1 (intsR A.rights), .ints A.used] :: Chunk.box b3 31 [.strs B.sites, .sl 1 (intsR B.rights), .ints B.used] :: (stg (S 2) [] (stg (S 5) [ownV (ξ 2) 1 3 (intRows A.rights.flatten)] [ownV (ξ 5) 1 3 (intRows A.rights.flatten ++ intRows A.used)]) ++ (stg (S 8) [] (stg (S 11) [ownV (ξ 8) 1 3 (intRows B.rights.flatten)] [ownV (ξ 11) 1 3 (intRows B.rights.flatten ++ intRows B.used)]) ++ []))) rfl (by decide +kernel) rfl ((fun (ξ : Nat → Value) (S : Nat → Bool) => Chunk.box b2 31 [.strs A.sites, .sl 1 (intsR A.rights), .ints A.used] :: Chunk.box b3 31 [.strs B.sites, .sl 1 (intsR B.rights), .ints B.used] :: (stg (S 2) [] (stg (S 5) [ownV (ξ 2) 1 3 (intRows A.rights.flatten)] [ownV (ξ 5) 1 3 (intRows A.rights.flatten ++ intRows A.used)]) ++ (stg (S 8) [] (stg (S 11) [ownV (ξ 8) 1 3 (intRows B.rights.flatten)] [ownV (ξ 11) 1 3 (intRows B.rights.flatten ++ intRows B.used)]) ++ []))) (fun _ => undef) (fun _ => false)) (by simp only [upd_same, updD_same, upd_ne, updD_ne, ne_eq, Nat.reduceEqDiff, not_false_eq_true, stg_t, stg_f, vAd_s, vCap_s, blk_p, List.cons_append, List.nil_append, b2n_t, b2n_f]; exact goXm) (fun _ => rfl) ?_
  apply YSeq.w (by intro _ _ _; rfl)
  · intro ξ S h1 h2 h3 h4
    have hN0_1 := closed_false h1 h3 (k := 1) rfl (by decide)
    have hN0_2 := closed_false hN0_1 h3 (k := 2) rfl (by decide)
    have hN0_5 := closed_false hN0_2 h3 (k := 5) rfl (by decide)
    have hN0_8 := closed_false hN0_5 h3 (k := 8) rfl (by decide)
    have hN0_11 := closed_false hN0_8 h3 (k := 11) rfl (by decide)
    try simp only [upd_same, updD_same, upd_ne, updD_ne, ne_eq, Nat.reduceEqDiff, not_false_eq_true, stg_t, stg_f, vAd_s, vCap_s, blk_p, List.cons_append, List.nil_append, b2n_t, b2n_f, hN0_2, hN0_5, hN0_8, hN0_11]
    exact goW
  · intro ξ v; rfl
  · intro ξ k v S h3 hn hk
    first
    | rfl
  apply YSeq.w (by intro _ _ _; rfl)
  · intro ξ S h1 h2 h3 h4
    have hN1_2 := closed_false h1 h3 (k := 2) rfl (by decide)
    have hN1_5 := closed_false hN1_2 h3 (k := 5) rfl (by decide)
    have hN1_8 := closed_false hN1_5 h3 (k := 8) rfl (by decide)
    have hN1_11 := closed_false hN1_8 h3 (k := 11) rfl (by decide)
    try simp only [upd_same, updD_same, upd_ne, updD_ne, ne_eq, Nat.reduceEqDiff, not_false_eq_true, stg_t, stg_f, vAd_s, vCap_s, blk_p, List.cons_append, List.nil_append, b2n_t, b2n_f, hN1_2, hN1_5, hN1_8, hN1_11]
    exact goW
  · intro ξ v; rfl
  · intro ξ k v S h3 hn hk
    first
    | rfl
  apply YSeq.callO ((intRows A.rights.flatten).length)
  · intro ξ S h1 h2 h3 h4
    have hN2_5 := closed_false h1 h3 (k := 5) rfl (by decide)
    have hN2_8 := closed_false hN2_5 h3 (k := 8) rfl (by decide)
    have hN2_11 := closed_false hN2_8 h3 (k := 11) rfl (by decide)
    refine ⟨_, _, kC, (Evs.cons rfl Evs.nil), (by first | rfl | simp | omega), fun ad cap => ?_⟩
    simp only [upd_same, updD_same, upd_ne, updD_ne, ne_eq, Nat.reduceEqDiff, not_false_eq_true, stg_t, stg_f, vAd_s, vCap_s, blk_p, List.cons_append, List.nil_append, b2n_t, b2n_f, h1, hN2_5, hN2_8, hN2_11]
    exact goXm
  apply YSeq.w (by intro _ _ _; rfl)
  · intro ξ S h1 h2 h3 h4
    have hN3_4 := closed_false h1 h3 (k := 4) rfl (by decide)
    have hN3_5 := closed_false hN3_4 h3 (k := 5) rfl (by decide)
    have hN3_8 := closed_false hN3_5 h3 (k := 8) rfl (by decide)
    have hN3_11 := closed_false hN3_8 h3 (k := 11) rfl (by decide)
    try simp only [upd_same, updD_same, upd_ne, updD_ne, ne_eq, Nat.reduceEqDiff, not_false_eq_true, stg_t, stg_f, vAd_s, vCap_s, blk_p, List.cons_append, List.nil_append, b2n_t, b2n_f, hN3_5, hN3_8, hN3_11]
    exact goW
  · intro ξ v; rfl
  · intro ξ k v S h3 hn hk
    first
    | rfl
  apply YSeq.w (by intro _ _ _; rfl)
  · intro ξ S h1 h2 h3 h4
    have hN4_5 := closed_false h1 h3 (k := 5) rfl (by decide)
    have hN4_8 := closed_false hN4_5 h3 (k := 8) rfl (by decide)
    have hN4_11 := closed_false hN4_8 h3 (k := 11) rfl (by decide)
    try simp only [upd_same, updD_same, upd_ne, updD_ne, ne_eq, Nat.reduceEqDiff, not_false_eq_true, stg_t, stg_f, vAd_s, vCap_s, blk_p, List.cons_append, List.nil_append, b2n_t, b2n_f, hN4_5, hN4_8, hN4_11]
    exact goW
  · intro ξ v; rfl
  · intro ξ k v S h3 hn hk
    first
    | rfl
  apply YSeq.append (m)
  · intro ξ S h1 h2 h3 h4
    have hY5_2 : S 2 = true := h2 2 (by decide)
    have hN5_8 := closed_false h1 h3 (k := 8) rfl (by decide)
    have hN5_11 := closed_false hN5_8 h3 (k := 11) rfl (by decide)
    simp only [upd_same, updD_same, upd_ne, updD_ne, ne_eq, Nat.reduceEqDiff, not_false_eq_true, stg_t, stg_f, vAd_s, vCap_s, blk_p, List.cons_append, List.nil_append, b2n_t, b2n_f, hY5_2, h1, hN5_8, hN5_11]
    refine ⟨_, _, _, _, _, _, rfl, rfl, goXp, (by first | rfl | (simp; done) | omega), (by first | rfl | omega | (simp; done) | (simp; omega)), (by first | omega | (simp; omega)), (by first | omega | (simp; omega)), fun ad' cap' => ?_⟩
    exact goXm
  apply YSeq.w (by intro _ _ _; rfl)
  · intro ξ S h1 h2 h3 h4
    have hN6_7 := closed_false h1 h3 (k := 7) rfl (by decide)
    have hN6_8 := closed_false hN6_7 h3 (k := 8) rfl (by decide)
    have hN6_11 := closed_false hN6_8 h3 (k := 11) rfl (by decide)
    try simp only [upd_same, updD_same, upd_ne, updD_ne, ne_eq, Nat.reduceEqDiff, not_false_eq_true, stg_t, stg_f, vAd_s, vCap_s, blk_p, List.cons_append, List.nil_append, b2n_t, b2n_f, hN6_8, hN6_11]
    exact goW
  · intro ξ v; rfl
  · intro ξ k v S h3 hn hk
    first
    | rfl
  apply YSeq.w (by intro _ _ _; rfl)
  · intro ξ S h1 h2 h3 h4
    have hN7_8 := closed_false h1 h3 (k := 8) rfl (by decide)
    have hN7_11 := closed_false hN7_8 h3 (k := 11) rfl (by decide)
    try simp only [upd_same, updD_same, upd_ne, updD_ne, ne_eq, Nat.reduceEqDiff, not_false_eq_true, stg_t, stg_f, vAd_s, vCap_s, blk_p, List.cons_append, List.nil_append, b2n_t, b2n_f, hN7_8, hN7_11]
    exact goW
  · intro ξ v; rfl
  · intro ξ k v S h3 hn hk
    first
    | rfl
  apply YSeq.callO ((intRows B.rights.flatten).length)
  · intro ξ S h1 h2 h3 h4
    have hY8_5 : S 5 = true := h2 5 (by decide)
    have hY8_2 : S 2 = true := h3 5 _ rfl hY8_5 2 (by decide)
    have hN8_11 := closed_false h1 h3 (k := 11) rfl (by decide)
    refine ⟨_, _, kC2, (Evs.cons rfl Evs.nil), (by first | rfl | simp | omega), fun ad cap => ?_⟩
    simp only [upd_same, updD_same, upd_ne, updD_ne, ne_eq, Nat.reduceEqDiff, not_false_eq_true, stg_t, stg_f, vAd_s, vCap_s, blk_p, List.cons_append, List.nil_append, b2n_t, b2n_f, hY8_2, hY8_5, h1, hN8_11]
    exact goXm
  apply YSeq.w (by intro _ _ _; rfl)
  · intro ξ S h1 h2 h3 h4
    have hN9_10 := closed_false h1 h3 (k := 10) rfl (by decide)
    have hN9_11 := closed_false hN9_10 h3 (k := 11) rfl (by decide)
    try simp only [upd_same, updD_same, upd_ne, updD_ne, ne_eq, Nat.reduceEqDiff, not_false_eq_true, stg_t, stg_f, vAd_s, vCap_s, blk_p, List.cons_append, List.nil_append, b2n_t, b2n_f, hN9_11]
    exact goW
  · intro ξ v; rfl
  · intro ξ k v S h3 hn hk
    first
    | rfl
  apply YSeq.w (by intro _ _ _; rfl)
  · intro ξ S h1 h2 h3 h4
    have hN10_11 := closed_false h1 h3 (k := 11) rfl (by decide)
    try simp only [upd_same, updD_same, upd_ne, updD_ne, ne_eq, Nat.reduceEqDiff, not_false_eq_true, stg_t, stg_f, vAd_s, vCap_s, blk_p, List.cons_append, List.nil_append, b2n_t, b2n_f, hN10_11]
    exact goW
  · intro ξ v; rfl
  · intro ξ k v S h3 hn hk
    first
    | rfl
  apply YSeq.append (m)
  · intro ξ S h1 h2 h3 h4
    have hY11_8 : S 8 = true := h2 8 (by decide)
    have hY11_5 : S 5 = true := h3 8 _ rfl hY11_8 5 (by decide)
    have hY11_2 : S 2 = true := h3 5 _ rfl hY11_5 2 (by decide)
    simp only [upd_same, updD_same, upd_ne, updD_ne, ne_eq, Nat.reduceEqDiff, not_false_eq_true, stg_t, stg_f, vAd_s, vCap_s, blk_p, List.cons_append, List.nil_append, b2n_t, b2n_f, hY11_2, hY11_5, hY11_8, h1]
    refine ⟨_, _, _, _, _, _, rfl, rfl, goXp, (by first | rfl | (simp; done) | omega), (by first | rfl | omega | (simp; done) | (simp; omega)), (by first | omega | (simp; omega)), (by first | omega | (simp; omega)), fun ad' cap' => ?_⟩
    exact goXm
  apply YSeq.w (by intro _ _ _; rfl)
  · intro ξ S h1 h2 h3 h4
    have hY12_2 : S 2 = true := h2 2 (by decide)
    have hY12_5 : S 5 = true := h2 5 (by decide)
    have hY12_11 : S 11 = true := h2 11 (by decide)
    have hY12_8 : S 8 = true := h3 11 _ rfl hY12_11 8 (by decide)
    try simp only [upd_same, updD_same, upd_ne, updD_ne, ne_eq, Nat.reduceEqDiff, not_false_eq_true, stg_t, stg_f, vAd_s, vCap_s, blk_p, List.cons_append, List.nil_append, b2n_t, b2n_f, hY12_2, hY12_5, hY12_8, hY12_11]
    exact goW
  · intro ξ v; rfl
  · intro ξ k v S h3 hn hk
    first
    | rfl
    | skip
      have hY12_2 : S 2 = true := h3 12 _ rfl hn 2 (by decide)
      have hY12_5 : S 5 = true := h3 12 _ rfl hn 5 (by decide)
      have hY12_11 : S 11 = true := h3 12 _ rfl hn 11 (by decide)
      have hY12_8 : S 8 = true := h3 11 _ rfl hY12_11 8 (by decide)
      simp only [upd_S hY12_2 hk, upd_S hY12_5 hk, upd_S hY12_8 hk, upd_S hY12_11 hk]
  apply YSeq.w (by intro _ _ _; rfl)
  · intro ξ S h1 h2 h3 h4
    have hY13_2 : S 2 = true := h2 2 (by decide)
    have hY13_5 : S 5 = true := h2 5 (by decide)
    have hY13_8 : S 8 = true := h2 8 (by decide)
    have hY13_11 : S 11 = true := h2 11 (by decide)
    try simp only [upd_same, updD_same, upd_ne, updD_ne, ne_eq, Nat.reduceEqDiff, not_false_eq_true, stg_t, stg_f, vAd_s, vCap_s, blk_p, List.cons_append, List.nil_append, b2n_t, b2n_f, hY13_2, hY13_5, hY13_8, hY13_11]
    exact goW
  · intro ξ v; rfl
  · intro ξ k v S h3 hn hk
    first
    | rfl
    | skip
      have hY13_2 : S 2 = true := h3 13 _ rfl hn 2 (by decide)
      have hY13_5 : S 5 = true := h3 13 _ rfl hn 5 (by decide)
      have hY13_8 : S 8 = true := h3 13 _ rfl hn 8 (by decide)
      have hY13_11 : S 11 = true := h3 13 _ rfl hn 11 (by decide)
      simp only [upd_S hY13_2 hk, upd_S hY13_5 hk, upd_S hY13_8 hk, upd_S hY13_11 hk]
  refine YSeq.nil fun ξ hf => ?_
  refine ⟨[(7, _), (8, _)], _, Ent.trans (Ent.eqc rfl (by simp only [upd_same, updD_same, upd_ne, updD_ne, ne_eq, Nat.reduceEqDiff, not_false_eq_true, stg_t, stg_f, vAd_s, vCap_s, blk_p, List.cons_append, List.nil_append, b2n_t, b2n_f, ownV, slV, ptV] <;> rfl)) (Ent.sub goSub), ?_⟩
  clear hf
  generalize vAd (ξ 2) = ad18
  generalize vCap (ξ 2) = cap18
  generalize vAd (ξ 5) = ad21
  generalize vCap (ξ 5) = cap21
  generalize vAd (ξ 8) = ad24
  generalize vCap (ξ 8) = cap24
  generalize vAd (ξ 11) = ad27
  generalize vCap (ξ 11) = cap27
  have hxy : (A.rights.flatten ++ A.used).length = m := by rw [List.length_append, hm]
  have hyy : (B.rights.flatten ++ B.used).length = m := by rw [List.length_append, m2]
  rw [← intRows_app, ← intRows_app]
  have hm9 : m ≤ 100000 := by omega
  have K : knB A B = decide (geL (A.rights.flatten ++ A.used) (B.rights.flatten ++ B.used)) := by unfold knB; rfl
  rw [K]
  clear K hm m2 f1 f2 f3 f4 kC kC2 p1 p2 p3 p4 q1 q2 b1 oa ob
  generalize A.rights.flatten ++ A.used = x at *
  generalize B.rights.flatten ++ B.used = y at *
  have hxr := (intRows_len x).trans hxy
  have hyr := (intRows_len y).trans hyy
  have hX : Unit → x.length = m := fun _ => hxy
  have hY : Unit → y.length = m := fun _ => hyy
  clear hxy hyy
  refine Then.norm ?_
  repeat' (first | refine goH ?_ | refine goV ?_ | refine goB (fun b => ?_) | refine goC (fun ad cap => ?_) | refine goI ?_ | (refine Cw.k_cond ?_; first | (refine Cw.cond_dec rfl (fun hc => ?_) (fun hc => ?_) <;> try (exfalso; omega)) | refine Cw.cond_bool rfl (fun hc => ?_) (fun hc => ?_)) | refine goR ?_ | refine goP ?_ | apply PSeq.cons | apply PSeq.yes rfl rfl rfl | exact goW | fail)
  refine Cw.loopI [(7, _), (8, _), (29, _)] _ (fun q e cc => ∃ (j : Nat), q = m - j ∧ (j ≤ m ∧ geTo x y j) ∧ e = [(30, .int j)] ∧ cc = []) ⟨_, _, _, (Ent.mkP goSub goPm), 0, rfl, ⟨by omega, fun k h => absurd h (by omega)⟩, rfl, rfl⟩ ?_
  rintro _ _ _ ⟨j, rfl, ⟨hj, hgj⟩, rfl, rfl⟩
  by_cases hjl : j < m
  rotate_left
  · have e : decide (geL x y) = true := decide_eq_true (geTo_all hgj (by rw [hX ()]; omega))
    clear hgj
    repeat' (first | refine goH ?_ | refine goV ?_ | refine goB (fun b => ?_) | refine goC (fun ad cap => ?_) | refine goI ?_ | (refine Cw.k_cond ?_; first | (refine Cw.cond_dec rfl (fun hc => ?_) (fun hc => ?_) <;> try (exfalso; omega)) | refine Cw.cond_bool rfl (fun hc => ?_) (fun hc => ?_)) | refine goR ?_ | refine goP ?_ | apply PSeq.cons | apply PSeq.yes rfl rfl rfl | exact goW | fail)
    refine Fin.ret (Ent.take goTk) (Outs.many rfl (OutL.cons goOe (OutL.cons goOe OutL.nil)) rfl) ⟨rfl, by rw [e]⟩
  obtain ⟨px, hpx⟩ := at_lt (l := x) (k := j) (by rw [hX ()]; exact hjl)
  obtain ⟨py, hpy⟩ := at_lt (l := y) (k := j) (by rw [hY ()]; exact hjl)
  have g1 := intRows_at hpx
  have g2 := intRows_at hpy
  by_cases g : px < py
  · have e : decide (geL x y) = false := decide_eq_false (fun h => h j px py hpx hpy g)
    clear hgj
    repeat' (first | refine goH ?_ | refine goV ?_ | refine goB (fun b => ?_) | refine goC (fun ad cap => ?_) | refine goI ?_ | (refine Cw.k_cond ?_; first | (refine Cw.cond_dec rfl (fun hc => ?_) (fun hc => ?_) <;> try (exfalso; omega)) | refine Cw.cond_bool rfl (fun hc => ?_) (fun hc => ?_)) | refine goR ?_ | refine goP ?_ | apply PSeq.cons | apply PSeq.yes rfl rfl rfl | exact goW | fail)
    refine Fin.ret (Ent.take goTk) (Outs.many rfl (OutL.cons goOe (OutL.cons goOe OutL.nil)) rfl) ⟨rfl, by rw [e]⟩
  have hgj' := geTo_step hgj hpx hpy g
  clear hgj
  repeat' (first | refine goH ?_ | refine goV ?_ | refine goB (fun b => ?_) | refine goC (fun ad cap => ?_) | refine goI ?_ | (refine Cw.k_cond ?_; first | (refine Cw.cond_dec rfl (fun hc => ?_) (fun hc => ?_) <;> try (exfalso; omega)) | refine Cw.cond_bool rfl (fun hc => ?_) (fun hc => ?_)) | refine goR ?_ | refine goP ?_ | apply PSeq.cons | apply PSeq.yes rfl rfl rfl | exact goW | fail)
  exact ⟨_, _, _, (Ent.mk goSub goTk), ⟨j + 1, rfl, ⟨by omega, hgj'⟩, rfl, rfl⟩, by omega⟩
end Lg
end
section
set_option linter.all false
set_option maxRecDepth 100000
set_option maxHeartbeats 8000000
namespace Lg
open Go Go.Proofs

/-! ### the place of a word -/
def idxS (l : List ByteArray) (x : ByteArray) : Int := match l.findIdx? (fun y => decide (x = y)) with
  | some k => k
  | none => -1
theorem idxS_found {l : List ByteArray} {x : ByteArray} {k : Nat} (h : l[k]? = some x) (hn : ∀ j, j < k → l[j]? ≠ some x) : idxS l x = k := by
  unfold idxS
  have hk := (List.getElem?_eq_some_iff.1 h)
  obtain ⟨hlt, e⟩ := hk
  have : l.findIdx? (fun y => decide (x = y)) = some k := by
    rw [List.findIdx?_eq_some_iff_getElem]
    refine ⟨hlt, by simp [e], fun j hj => ?_⟩
    have := hn j hj
    rw [List.getElem?_eq_getElem (by omega)] at this
    simp
    intro e2
    exact this (by rw [← e2])
  rw [this]
theorem idxS_none {l : List ByteArray} {x : ByteArray} (hn : ∀ j, j < l.length → l[j]? ≠ some x) : idxS l x = -1 := by
  unfold idxS
  have : l.findIdx? (fun y => decide (x = y)) = none := by
    rw [List.findIdx?_eq_none_iff]
    intro y hy
    obtain ⟨j, hj, rfl⟩ := List.getElem_of_mem hy
    simp
    intro e
    exact hn j hj (by rw [List.getElem?_eq_getElem hj, ← e])
  rw [this]
theorem idxS_cases (l : List ByteArray) (x : ByteArray) : idxS l x = -1 ∨ ∃ k : Nat, idxS l x = k ∧ l[k]? = some x ∧ k < l.length := by
  unfold idxS
  cases h : l.findIdx? (fun y => decide (x = y)) with
  | none => exact .inl rfl
  | some k =>
    rw [List.findIdx?_eq_some_iff_getElem] at h
    obtain ⟨hlt, e, _⟩ := h
    refine .inr ⟨k, rfl, ?_, hlt⟩
    rw [List.getElem?_eq_getElem hlt]
    simp at e
    rw [e]
theorem index_fn (l : List ByteArray) (x : ByteArray) (hl : l.length ≤ 1000000) : PFn Tryd.prog 58 [.strs l, .str x] (· = .int (idxS l x)) := by
  refine PFn.mk (Spec.body Tryd.func58 rfl rfl (Tryd.ntmps58) rfl fun w0 own0 M => ?_)
  have hL := strRows_len l
  repeat' (first | refine goH ?_ | refine goV ?_ | refine goI ?_ | (refine Cw.k_cond ?_; first | (refine Cw.cond_dec rfl (fun hc => ?_) (fun hc => ?_) <;> try (exfalso; omega)) | refine Cw.cond_bool rfl (fun hc => ?_) (fun hc => ?_)) | fail)
  refine Cw.loopI [(0, _), (1, _), (7, _)] _ (fun q e cc => ∃ (k : Nat), q = l.length - k ∧ (k ≤ l.length ∧ ∀ j, j < k → l[j]? ≠ some x) ∧ e = [(8, .int k)] ∧ cc = []) ⟨_, _, _, (Ent.mkP goSub goPm), 0, rfl, ⟨by omega, fun j h => absurd h (by omega)⟩, rfl, rfl⟩ ?_
  rintro _ _ _ ⟨k, rfl, ⟨hk, hV⟩, rfl, rfl⟩
  by_cases hkl : k < l.length
  · obtain ⟨y, hy⟩ := at_lt hkl
    have hr := strRows_at hy
    by_cases hxy : x = y
    · subst hxy
      have e := idxS_found hy hV
      clear hV
      repeat' (first | refine goH ?_ | refine goV ?_ | refine goI ?_ | (refine Cw.k_cond ?_; first | (refine Cw.cond_dec rfl (fun hc => ?_) (fun hc => ?_) <;> try (exfalso; omega)) | refine Cw.cond_bool rfl (fun hc => ?_) (fun hc => ?_)) | fail)
      all_goals first | exact Fin.ret (Ent.take goTk) (Outs.one rfl rfl) ⟨rfl, congrArg Tr.int e.symm⟩ | exact absurd rfl hc
    · have nx : ∀ j, j < k + 1 → l[j]? ≠ some x := by
        intro j hj
        by_cases e : j = k
        · subst e; rw [hy]; intro h; cases h; exact hxy rfl
        · exact hV j (by omega)
      clear hV
      repeat' (first | refine goH ?_ | refine goV ?_ | refine goI ?_ | (refine Cw.k_cond ?_; first | (refine Cw.cond_dec rfl (fun hc => ?_) (fun hc => ?_) <;> try (exfalso; omega)) | refine Cw.cond_bool rfl (fun hc => ?_) (fun hc => ?_)) | fail)
      all_goals first | exact ⟨_, _, _, (Ent.mk goSub goTk), ⟨k + 1, rfl, ⟨by omega, nx⟩, rfl, rfl⟩, by omega⟩ | (exfalso; simp_all; done)
  · have e : idxS l x = -1 := idxS_none (fun j hj => hV j (by omega))
    clear hV
    repeat' (first | refine goH ?_ | refine goV ?_ | refine goI ?_ | (refine Cw.k_cond ?_; first | (refine Cw.cond_dec rfl (fun hc => ?_) (fun hc => ?_) <;> try (exfalso; omega)) | refine Cw.cond_bool rfl (fun hc => ?_) (fun hc => ?_)) | fail)
    exact Fin.ret (Ent.take goTk) (Outs.one rfl rfl) ⟨rfl, congrArg Tr.int e.symm⟩

/-! ### what is given and spent -/
def set2 (R : List (List Int)) (i j : Nat) (v : Int) : List (List Int) := R.set i ((R.getD i []).set j v)
def gvE (w : Wal) (a b : ByteArray) (c : Int) (cr : Bool) : Int :=
  if idxS w.sites a < 0 ∨ idxS w.sites b < 0 then 8 else if cr = false ∧ idxS w.sites a = idxS w.sites b then 6 else if c < 1 ∨ 1000000000 < c then 1
  else if cr = false ∧ rgt w (idxS w.sites a).toNat < c then 16 else if at2 w.rights (idxS w.sites a).toNat (idxS w.sites b).toNat + c > 1000000000 then 12 else 0
def gvW (w : Wal) (a b : ByteArray) (c : Int) : Wal := ⟨w.sites, set2 w.rights (idxS w.sites a).toNat (idxS w.sites b).toNat (at2 w.rights (idxS w.sites a).toNat (idxS w.sites b).toNat + c), w.used⟩
def spE (w : Wal) (a : ByteArray) (c : Int) : Int :=
  if idxS w.sites a < 0 then 8 else if c < 1 ∨ 1000000000 < c then 1 else if rgt w (idxS w.sites a).toNat < c then 16 else if w.used.getD (idxS w.sites a).toNat 0 + c > 1000000000 then 12 else 0
def spW (w : Wal) (a : ByteArray) (c : Int) : Wal := ⟨w.sites, w.rights, w.used.set (idxS w.sites a).toNat (w.used.getD (idxS w.sites a).toNat 0 + c)⟩
theorem setI_ok {l : List Int} {k : Nat} {v : Int} (h : ∀ x ∈ l, 0 ≤ x ∧ x ≤ 1000000000) (hv : 0 ≤ v ∧ v ≤ 1000000000) : ∀ x ∈ l.set k v, 0 ≤ x ∧ x ≤ 1000000000 := by
  intro x hx
  rcases List.mem_or_eq_of_mem_set hx with h1 | h1
  · exact h x h1
  · rw [h1]; exact hv
theorem spW_ok {w : Wal} (h : WOk w) {a : ByteArray} {c : Int} (he : spE w a c = 0) : WOk (spW w a c) := by
  unfold spE at he
  by_cases q1 : idxS w.sites a < 0
  · rw [if_pos q1] at he; omega
  rw [if_neg q1] at he
  by_cases q2 : c < 1 ∨ 1000000000 < c
  · rw [if_pos q2] at he; omega
  rw [if_neg q2] at he
  by_cases q3 : rgt w (idxS w.sites a).toNat < c
  · rw [if_pos q3] at he; omega
  rw [if_neg q3] at he
  by_cases q4 : w.used.getD (idxS w.sites a).toNat 0 + c > 1000000000
  · rw [if_pos q4] at he; omega
  rcases idxS_cases w.sites a with h1 | ⟨k, h1, _, hk⟩
  · omega
  obtain ⟨y, _, e2, h3, h4⟩ := h.us hk
  unfold spW
  rw [h1] at q4 ⊢
  rw [Int.toNat_natCast] at q4 ⊢
  rw [e2] at q4 ⊢
  exact ⟨h.n1, h.r, by simp only [List.length_set]; exact h.u, h.rr, setI_ok h.ru (by omega), h.rx⟩
theorem gvW_ok {w : Wal} (h : WOk w) {a b : ByteArray} {c : Int} {cr : Bool} (he : gvE w a b c cr = 0) : WOk (gvW w a b c) := by
  unfold gvE at he
  by_cases q1 : idxS w.sites a < 0 ∨ idxS w.sites b < 0
  · rw [if_pos q1] at he; omega
  rw [if_neg q1] at he
  by_cases q2 : cr = false ∧ idxS w.sites a = idxS w.sites b
  · rw [if_pos q2] at he; omega
  rw [if_neg q2] at he
  by_cases q3 : c < 1 ∨ 1000000000 < c
  · rw [if_pos q3] at he; omega
  rw [if_neg q3] at he
  by_cases q4 : cr = false ∧ rgt w (idxS w.sites a).toNat < c
  · rw [if_pos q4] at he; omega
  rw [if_neg q4] at he
  by_cases q5 : at2 w.rights (idxS w.sites a).toNat (idxS w.sites b).toNat + c > 1000000000
  · rw [if_pos q5] at he; omega
  rcases idxS_cases w.sites a with h1 | ⟨i, h1, _, hi⟩
  · omega
  rcases idxS_cases w.sites b with h2 | ⟨j, h2, _, hj⟩
  · omega
  obtain ⟨l, x, e1, e2, e3, b1, b2⟩ := h.at2 hi hj
  unfold gvW set2
  rw [h1, h2] at q5 ⊢
  rw [Int.toNat_natCast, Int.toNat_natCast] at q5 ⊢
  rw [e3] at q5 ⊢
  rw [List.getD_eq_getElem?_getD, e1, Option.getD_some]
  have ml := List.mem_of_getElem? e1
  refine ⟨h.n1, by simp only [List.length_set]; exact h.r, h.u, ?_, h.ru, ?_⟩
  · intro m hm
    rcases List.mem_or_eq_of_mem_set hm with h3 | h3
    · exact h.rr m h3
    · rw [h3, List.length_set]; exact h.rr l ml
  · intro m hm
    rcases List.mem_or_eq_of_mem_set hm with h3 | h3
    · exact h.rx m h3
    · rw [h3]; exact setI_ok (h.rx l ml) (by omega)
end Lg
end
section
set_option linter.all false
set_option maxRecDepth 100000
set_option maxHeartbeats 8000000
namespace Lg
open Go Go.Proofs

theorem Fin.ent {P : Program} {Γ : Ctx} {env env1 : Env} {cs cs1 : List Chunk} {fn : Func} {post : Tr → List Chunk → Prop} {ex : Exit} (h : Ent Γ env cs env1 cs1) (k : Fin P fn Γ post ex env1 cs1) : Fin P fn Γ post ex env cs := by
  unfold Fin at k ⊢
  obtain ⟨h0, e2, c2, r, h1, h2, h3⟩ := k
  exact ⟨h0, e2, c2, r, h.trans h1, h2, h3⟩
/-- a wallet of one's own is written no more -/
theorem Ent.settle_wal {Γ : Ctx} {env : Env} {cs cf : List Chunk} {adR adU : Option Addr} {capR capU n b : Nat} {E E2 T : TypeId} {L : List IL} {u : List Int} {s : List ByteArray} (hp : cs.Perm (Chunk.own adR capR 1 E (rowsW L) :: Chunk.bun (ownsW E2 L) :: Chunk.own adU capU 1 E2 (intRows u) :: Chunk.box b T [.strs s, Tr.raw (.slice adR n capR), Tr.raw (.slice adU n capU)] :: cf)) (h1 : (rowsW L).length = n) (h2 : (intRows u).length = n) :
    Ent Γ env cs env (Chunk.box b T [.strs s, .sl 1 (intsR (valsW L)), .ints u] :: cf) := by
  have h3 : n = (intsR (valsW L)).length := by rw [intsR_len, valsW_len, ← rowsW_len, h1]
  exact Ent.trans (ent_nestW (E2 := E2) hp (List.Perm.refl _)) (Ent.trans (Ent.settle_box (b := b) (i := 1) (ad := adR) (kk := 1) (rows := intsR (valsW L)) (List.Perm.cons _ (List.Perm.swap _ _ _)) rfl h3 rfl) (Ent.settle_box (b := b) (i := 2) (ad := adU) (kk := 1) (rows := intRows u) (List.Perm.swap _ _ _) rfl h2.symm rfl))
theorem if_no {p : Prop} [Decidable p] {a b : Int} (h : ¬ p) : (if p then a else b) = b := if_neg h
attribute [local irreducible] intRows intsR strRows valsW rowsW idxS rgt at2 set2
theorem spent_fn (w : Wal) (h : WOk w) (a : ByteArray) (c : Int) (hc64 : -1000000000000 ≤ c ∧ c ≤ 1000000000000) : PFn Tryd.prog 28 [.wal w, .str a, .int c] (· = resW (spW w a c) (spE w a c)) := by
  have n12 := h.n1
  have kI := index_fn w.sites a (by omega)
  have kO := walletCopy_fn w h.bd
  have hcs := idxS_cases w.sites a
  have he : spE w a c = if idxS w.sites a < 0 then 8 else if c < 1 ∨ 1000000000 < c then 1 else if rgt w (idxS w.sites a).toNat < c then 16 else if w.used.getD (idxS w.sites a).toNat 0 + c > 1000000000 then 12 else 0 := rfl
  have hW : spW w a c = ⟨w.sites, w.rights, w.used.set (idxS w.sites a).toNat (w.used.getD (idxS w.sites a).toNat 0 + c)⟩ := rfl
  generalize idxS w.sites a = i at *
  generalize spW w a c = W at *
  generalize spE w a c = E at *
  refine PFn.mk (Spec.body Tryd.func28 rfl rfl (Tryd.ntmps28) rfl fun w0 own0 M => ?_)
  rcases hcs with rfl | ⟨k, rfl, _, hk⟩
  · rw [if_pos (by omega)] at he
    subst he
    rw [resW_bad (by decide)]
    repeat' (first | refine goH ?_ | refine goV ?_ | refine goB (fun b => ?_) | refine goG ?_ | (refine Ops.k_guard ?_; first | (refine Ops.guard_dec rfl rfl (fun hc => ?_) (fun hc => ?_) <;> try (exfalso; omega)) | refine Ops.guard_split rfl rfl (fun hc => ?_) (fun hc => ?_)) | refine goI ?_ | (refine Cw.k_cond ?_; first | (refine Cw.cond_dec rfl (fun hc => ?_) (fun hc => ?_) <;> try (exfalso; omega)) | refine Cw.cond_bool rfl (fun hc => ?_) (fun hc => ?_)) | (refine Ops.k_calla ?_; first | (refine Ops.k_callf 58 ?_; refine Ops.callV kI (Evs.cons rfl (Evs.cons rfl Evs.nil)) rfl ?_)) | fail)
    refine Fin.ret (Ent.trans (Ent.imp_box goPk impW0) (Ent.trans (Ent.setbox (s := 6) rfl goPk) (Ent.take goTk))) (Outs.many rfl (OutL.cons goOe (OutL.cons goOe OutL.nil)) rfl) ⟨rfl, rfl⟩
  rw [if_neg (by omega)] at he
  rw [Int.toNat_natCast] at he hW
  have kR := rightsR_fn w h k hk
  obtain ⟨y, hy, hyd, hy1, hy2⟩ := h.us hk
  rw [hyd] at he hW
  have hUk := intRows_at hy
  have hUl := (intRows_len w.used).trans h.u
  have hUw := intRows_len w.used
  have hRw : Unit → (intsR w.rights).length = w.sites.length := fun _ => (intsR_len _).trans h.r
  by_cases q2 : c < 1 ∨ 1000000000 < c
  · rw [if_pos q2] at he
    subst he
    rw [resW_bad (by decide)]
    repeat' (first | refine goH ?_ | refine goV ?_ | refine goB (fun b => ?_) | refine goG ?_ | (refine Ops.k_guard ?_; first | (refine Ops.guard_dec rfl rfl (fun hc => ?_) (fun hc => ?_) <;> try (exfalso; omega)) | refine Ops.guard_split rfl rfl (fun hc => ?_) (fun hc => ?_)) | refine goI ?_ | (refine Cw.k_cond ?_; first | (refine Cw.cond_dec rfl (fun hc => ?_) (fun hc => ?_) <;> try (exfalso; omega)) | refine Cw.cond_bool rfl (fun hc => ?_) (fun hc => ?_)) | (refine Ops.k_calla ?_; first | (refine Ops.k_callf 58 ?_; refine Ops.callV kI (Evs.cons rfl (Evs.cons rfl Evs.nil)) rfl ?_)) | fail)
    all_goals refine Fin.ret (Ent.trans (Ent.imp_box goPk impW0) (Ent.trans (Ent.setbox (s := 6) rfl goPk) (Ent.take goTk))) (Outs.many rfl (OutL.cons goOe (OutL.cons goOe OutL.nil)) rfl) ⟨rfl, rfl⟩
  rw [if_neg q2] at he
  have q2' : 1 ≤ c ∧ c ≤ 1000000000 := by omega
  clear q2 hc64
  by_cases q3 : rgt w k < c
  · rw [if_pos q3] at he
    subst he
    rw [resW_bad (by decide)]
    repeat' (first | refine goH ?_ | refine goV ?_ | refine goB (fun b => ?_) | refine goG ?_ | (refine Ops.k_guard ?_; first | (refine Ops.guard_dec rfl rfl (fun hc => ?_) (fun hc => ?_) <;> try (exfalso; omega)) | refine Ops.guard_split rfl rfl (fun hc => ?_) (fun hc => ?_)) | refine goI ?_ | (refine Cw.k_cond ?_; first | (refine Cw.cond_dec rfl (fun hc => ?_) (fun hc => ?_) <;> try (exfalso; omega)) | refine Cw.cond_bool rfl (fun hc => ?_) (fun hc => ?_)) | (refine Ops.k_calla ?_; first | (refine Ops.k_callf 58 ?_; refine Ops.callV kI (Evs.cons rfl (Evs.cons rfl Evs.nil)) rfl ?_) | (refine Ops.k_callf 50 ?_; refine Ops.callV kR (Evs.cons rfl (Evs.cons rfl Evs.nil)) rfl ?_)) | fail)
    all_goals refine Fin.ret (Ent.trans (Ent.imp_box goPk impW0) (Ent.trans (Ent.setbox (s := 6) rfl goPk) (Ent.take goTk))) (Outs.many rfl (OutL.cons goOe (OutL.cons goOe OutL.nil)) rfl) ⟨rfl, rfl⟩
  rw [if_neg q3] at he
  by_cases q4 : y + c > 1000000000
  · rw [if_pos q4] at he
    subst he
    rw [resW_bad (by decide)]
    repeat' (first | refine goH ?_ | refine goV ?_ | refine goB (fun b => ?_) | refine goG ?_ | (refine Ops.k_guard ?_; first | (refine Ops.guard_dec rfl rfl (fun hc => ?_) (fun hc => ?_) <;> try (exfalso; omega)) | refine Ops.guard_split rfl rfl (fun hc => ?_) (fun hc => ?_)) | refine goI ?_ | (refine Cw.k_cond ?_; first | (refine Cw.cond_dec rfl (fun hc => ?_) (fun hc => ?_) <;> try (exfalso; omega)) | refine Cw.cond_bool rfl (fun hc => ?_) (fun hc => ?_)) | (refine Ops.k_calla ?_; first | (refine Ops.k_callf 58 ?_; refine Ops.callV kI (Evs.cons rfl (Evs.cons rfl Evs.nil)) rfl ?_) | (refine Ops.k_callf 50 ?_; refine Ops.callV kR (Evs.cons rfl (Evs.cons rfl Evs.nil)) rfl ?_)) | fail)
    all_goals refine Fin.ret (Ent.trans (Ent.imp_box goPk impW0) (Ent.trans (Ent.setbox (s := 6) rfl goPk) (Ent.take goTk))) (Outs.many rfl (OutL.cons goOe (OutL.cons goOe OutL.nil)) rfl) ⟨rfl, rfl⟩
  rw [if_neg q4] at he
  subst he
  rw [resW_ok rfl]
  have e1 : (intRows w.used).set ((k : Nat) : Int).toNat ([Tr.int y].set 0 (Tr.int (y + c))) = intRows (w.used.set k (y + c)) := setI _ _ _ _
  have hUs : (intRows (w.used.set k (y + c))).length = w.sites.length := by rw [intRows_len, List.length_set]; exact h.u
  repeat' (first | refine goH ?_ | (refine Ops.k_store ?_; first | (refine Ops.store_own1 rfl rfl goPk (by first | rfl | assumption | (simp [*]; done)) (by decide) ?_; rw [e1])) | refine goV ?_ | refine goB (fun b => ?_) | refine goG ?_ | (refine Ops.k_guard ?_; first | (refine Ops.guard_dec rfl rfl (fun hc => ?_) (fun hc => ?_) <;> try (exfalso; omega)) | refine Ops.guard_split rfl rfl (fun hc => ?_) (fun hc => ?_)) | refine goI ?_ | (refine Cw.k_cond ?_; first | (refine Cw.cond_dec rfl (fun hc => ?_) (fun hc => ?_) <;> try (exfalso; omega)) | refine Cw.cond_bool rfl (fun hc => ?_) (fun hc => ?_)) | (refine Ops.k_calla ?_; first | (refine Ops.k_callf 58 ?_; refine Ops.callV kI (Evs.cons rfl (Evs.cons rfl Evs.nil)) rfl ?_) | (refine Ops.k_callf 50 ?_; refine Ops.callV kR (Evs.cons rfl (Evs.cons rfl Evs.nil)) rfl ?_) | (refine Ops.k_callf 41 ?_; (refine Ops.call kO (Evs.cons rfl Evs.nil) goPm rfl ?_; rintro r cs' ⟨adR, capR, L, adU, capU, rfl, hv, rfl⟩; have hLl : (rowsW L).length = w.sites.length := (by rw [rowsW_len, ← valsW_len, hv]; exact h.r); rw [walV_n hLl hUl]))) | fail)
  rename_i b3 b6 g1 g2 g3
  refine Fin.ret (Ent.trans (Ent.settle_wal (b := b6) (by exact Perm.cons' goPk (Perm.cons' goPk (Perm.cons' goPk (Perm.cons' goPk (List.Perm.refl _))))) hLl hUs) (Ent.trans (Ent.setbox (s := 6) rfl goPk) (Ent.take goTk))) (Outs.many rfl (OutL.cons goOe (OutL.cons goOe OutL.nil)) rfl) ⟨rfl, ?_⟩
  rw [hW, hv]
end Lg
end
