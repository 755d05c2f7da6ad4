/- A part of the proof of a law of this seat: it adds no condition. By an AI agent. -/
import Derived.Test.YtgjiiacknhdabaaDoorWal9
set_option linter.all false
set_option maxRecDepth 100000
set_option maxHeartbeats 8000000
namespace Lg
open Go Go.Proofs

def geTo (x y : List Int) (j : Nat) : Prop := ∀ k, k < j → ∀ a b : Int, x[k]? = some a → y[k]? = some b → ¬ a < b
theorem geTo_step {x y : List Int} {j : Nat} {a b : Int} (h : geTo x y j) (ha : x[j]? = some a) (hb : y[j]? = some b) (hn : ¬ a < b) : geTo x y (j + 1) := by
  intro k hk a' b' h1 h2
  by_cases e : k = j
  · subst e
    rw [ha] at h1
    rw [hb] at h2
    cases h1
    cases h2
    exact hn
  · exact h k (by omega) a' b' h1 h2
theorem geTo_all {x y : List Int} {j : Nat} (h : geTo x y j) (hj : x.length ≤ j) : geL x y := fun k a b h1 h2 => h k (by have := (List.getElem?_eq_some_iff.1 h1).1; omega) a b h1 h2
def rowsTo (A B : List (List Int)) (i : Nat) : Prop := ∀ k, k < i → ∀ l m : List Int, A[k]? = some l → B[k]? = some m → geL l m
theorem rowsTo_step {A B : List (List Int)} {i : Nat} {l m : List Int} (h : rowsTo A B i) (hl : A[i]? = some l) (hm : B[i]? = some m) (hg : geL l m) : rowsTo A B (i + 1) := by
  intro k hk l' m' h1 h2
  by_cases e : k = i
  · subst e
    rw [hl] at h1
    rw [hm] at h2
    cases h1
    cases h2
    exact hg
  · exact h k (by omega) l' m' h1 h2
theorem knB_no {A B : Wal} (oa : WOk A) (ob : WOk B) (hs : B.sites = A.sites) (h : ¬ (geL A.used B.used ∧ ∀ (i : Nat) (l m : List Int), A.rights[i]? = some l → B.rights[i]? = some m → geL l m)) : knB A B = false := by
  have := knB_iff oa ob hs
  cases hk : knB A B
  · rfl
  · exact absurd (this.1 hk) h
def kwE (A B : Wal) : Int := pairE A B
noncomputable def kwO (A B : Wal) : Tr := if pairE A B = 0 then .tup [.bool (knB A B), .int 0] else .tup [.bool false, .int (pairE A B)]
theorem kwO_bad {A B : Wal} (h : pairE A B ≠ 0) : kwO A B = .tup [.bool false, .int (pairE A B)] := by unfold kwO; rw [if_neg h]
theorem kwO_ok {A B : Wal} (h : pairE A B = 0) : kwO A B = .tup [.bool (knB A B), .int 0] := by unfold kwO; rw [if_pos h]
attribute [local irreducible] intRows intsR strRows valsW rowsW knB
theorem knows_fn (A B : Wal) (ha : WBd A) (hb : WBd B) : PFn Tryd.prog 11 [.wal A, .wal B] (· = kwO A B) := by
  have kP := pairD_fn A B ha hb
  refine PFn.mk (Spec.body Tryd.func11 rfl rfl (Tryd.ntmps11) rfl fun w0 own0 M => ?_)
  by_cases h1 : pairE A B ≠ 0
  · rw [kwO_bad h1]
    generalize pairE A B = c at *
    repeat' (first | refine goH ?_ | refine goV ?_ | refine goB (fun b => ?_) | refine goI ?_ | (refine Cw.k_cond ?_; first | (refine Cw.cond_dec rfl (fun hc => ?_) (fun hc => ?_) <;> try (exfalso; omega)) | refine Cw.cond_bool rfl (fun hc => ?_) (fun hc => ?_)) | (refine Ops.k_calla ?_; first | (refine Ops.k_callf 37 ?_; refine Ops.callV kP (Evs.cons rfl (Evs.cons rfl Evs.nil)) rfl ?_)) | (apply OpW.k_call; first | (apply OpW.k_callf 37; exact OpW.callV kP (Evs.cons rfl (Evs.cons rfl Evs.nil)))) | refine goR ?_ | refine goP ?_ | apply PSeq.cons | apply PSeq.yes rfl rfl rfl | exact goW | fail)
    refine Fin.ret (Ent.take (by repeat' (first | exact Take.nil | refine Take.cons (by first | exact pick0 | (apply pickS; first | exact pick0 | (apply pickS; first | exact pick0 | (apply pickS; first | exact pick0 | (apply pickS; first | exact pick0 | (apply pickS; first | exact pick0 | (apply pickS; first | exact pick0 | (apply pickS; first | exact pick0 | (apply pickS; first | exact pick0 | (apply pickS; first | exact pick0 | (apply pickS; exact pick0))))))))))) ?_))) (Outs.many rfl (OutL.cons (by first | exact OutE.tmp rfl | exact OutE.agg inferInstance rfl rfl | exact OutE.one inferInstance rfl) (OutL.cons (by first | exact OutE.tmp rfl | exact OutE.agg inferInstance rfl rfl | exact OutE.one inferInstance rfl) OutL.nil)) rfl) ⟨rfl, rfl⟩
  have h0 : pairE A B = 0 := by omega
  rw [kwO_ok h0]
  rw [h0] at kP
  obtain ⟨wa, wb, hs⟩ := pairE_ok h0
  have oa := wok_E wa
  have ob := wok_E wb
  clear wa wb h1 h0
  obtain ⟨n, H⟩ := MrgL.mk' oa ob hs
  have n12 := H.n12
  have hS := H.sS
  have hRA := H.rR
  have hUA := H.uU
  have hR2 := H.rR2
  have hU2 := H.uU2
  have K : Unit → (knB A B = true ↔ geL A.used B.used ∧ ∀ (i : Nat) (l m : List Int), A.rights[i]? = some l → B.rights[i]? = some m → geL l m) := fun _ => knB_iff oa ob hs
  have N : Unit → _ := fun _ => knB_no oa ob hs
  repeat' (first | refine goH ?_ | refine goV ?_ | refine goB (fun b => ?_) | refine goI ?_ | (refine Cw.k_cond ?_; first | (refine Cw.cond_dec rfl (fun hc => ?_) (fun hc => ?_) <;> try (exfalso; omega)) | refine Cw.cond_bool rfl (fun hc => ?_) (fun hc => ?_)) | (refine Ops.k_calla ?_; first | (refine Ops.k_callf 37 ?_; refine Ops.callV kP (Evs.cons rfl (Evs.cons rfl Evs.nil)) rfl ?_)) | (apply OpW.k_call; first | (apply OpW.k_callf 37; exact OpW.callV kP (Evs.cons rfl (Evs.cons rfl Evs.nil)))) | refine goR ?_ | refine goP ?_ | apply PSeq.cons | apply PSeq.yes rfl rfl rfl | exact goW | fail)
  refine Cw.loopI [(2, _), (3, _), (17, _)] _ (fun q e cc => ∃ (i : Nat), q = n - i ∧ (i ≤ n ∧ geTo A.used B.used i ∧ rowsTo A.rights B.rights i) ∧ e = [(18, .int i)] ∧ cc = []) ⟨_, _, _, (Ent.mkP (by repeat' (first | exact Sub.nil | refine Sub.cons rfl ?_)) (by repeat' (first | exact List.Perm.refl _ | refine Perm.cons' (by first | exact pick0 | (apply pickS; first | exact pick0 | (apply pickS; first | exact pick0 | (apply pickS; first | exact pick0 | (apply pickS; first | exact pick0 | (apply pickS; first | exact pick0 | (apply pickS; first | exact pick0 | (apply pickS; first | exact pick0 | (apply pickS; first | exact pick0 | (apply pickS; first | exact pick0 | (apply pickS; exact pick0))))))))))) ?_))), 0, rfl, ⟨by omega, fun k h => absurd h (by omega), fun k h => absurd h (by omega)⟩, rfl, rfl⟩ ?_
  rintro _ _ _ ⟨i, rfl, ⟨hi, hgu, hgr⟩, rfl, rfl⟩
  by_cases hil : i < n
  rotate_left
  · have e : knB A B = true := (K ()).2 ⟨geTo_all hgu (by rw [H.u]; omega), fun k l m h1 h2 => hgr k (by have := (List.getElem?_eq_some_iff.1 h1).1; rw [H.r] at this; omega) l m h1 h2⟩
    clear hgu hgr K N
    repeat' (first | refine goH ?_ | refine goV ?_ | refine goB (fun b => ?_) | refine goI ?_ | (refine Cw.k_cond ?_; first | (refine Cw.cond_dec rfl (fun hc => ?_) (fun hc => ?_) <;> try (exfalso; omega)) | refine Cw.cond_bool rfl (fun hc => ?_) (fun hc => ?_)) | refine goR ?_ | refine goP ?_ | apply PSeq.cons | apply PSeq.yes rfl rfl rfl | exact goW | fail)
    refine Fin.ret (Ent.take (by repeat' (first | exact Take.nil | refine Take.cons (by first | exact pick0 | (apply pickS; first | exact pick0 | (apply pickS; first | exact pick0 | (apply pickS; first | exact pick0 | (apply pickS; first | exact pick0 | (apply pickS; first | exact pick0 | (apply pickS; first | exact pick0 | (apply pickS; first | exact pick0 | (apply pickS; first | exact pick0 | (apply pickS; first | exact pick0 | (apply pickS; exact pick0))))))))))) ?_))) (Outs.many rfl (OutL.cons (by first | exact OutE.tmp rfl | exact OutE.agg inferInstance rfl rfl | exact OutE.one inferInstance rfl) (OutL.cons (by first | exact OutE.tmp rfl | exact OutE.agg inferInstance rfl rfl | exact OutE.one inferInstance rfl) OutL.nil)) rfl) ⟨rfl, by rw [e]⟩
  obtain ⟨ux, hux⟩ := at_lt (l := A.used) (k := i) (by rw [H.u]; exact hil)
  obtain ⟨uy, huy⟩ := at_lt (l := B.used) (k := i) (by rw [H.u2]; exact hil)
  have m1 := intRows_at hux
  have m2 := intRows_at huy
  obtain ⟨x, hx⟩ := at_lt (l := A.rights) (k := i) (by rw [H.r]; exact hil)
  obtain ⟨y, hy⟩ := at_lt (l := B.rights) (k := i) (by rw [H.r2]; exact hil)
  have v1 := intsR_at hx
  have v2 := intsR_at hy
  have hxl : Unit → x.length = n := fun _ => H.rr _ (List.mem_of_getElem? hx)
  have hyl : Unit → y.length = n := fun _ => H.rr2 _ (List.mem_of_getElem? hy)
  have hxr := (intRows_len x).trans (hxl ())
  have hyr := (intRows_len y).trans (hyl ())
  by_cases g : ux < uy
  · have e := N () (fun h => h.1 i ux uy hux huy g)
    clear hgu hgr K N hux huy hx hy
    repeat' (first | refine goH ?_ | refine goV ?_ | refine goB (fun b => ?_) | refine goI ?_ | (refine Cw.k_cond ?_; first | (refine Cw.cond_dec rfl (fun hc => ?_) (fun hc => ?_) <;> try (exfalso; omega)) | refine Cw.cond_bool rfl (fun hc => ?_) (fun hc => ?_)) | refine goR ?_ | refine goP ?_ | apply PSeq.cons | apply PSeq.yes rfl rfl rfl | exact goW | fail)
    refine Fin.ret (Ent.take (by repeat' (first | exact Take.nil | refine Take.cons (by first | exact pick0 | (apply pickS; first | exact pick0 | (apply pickS; first | exact pick0 | (apply pickS; first | exact pick0 | (apply pickS; first | exact pick0 | (apply pickS; first | exact pick0 | (apply pickS; first | exact pick0 | (apply pickS; first | exact pick0 | (apply pickS; first | exact pick0 | (apply pickS; first | exact pick0 | (apply pickS; exact pick0))))))))))) ?_))) (Outs.many rfl (OutL.cons (by first | exact OutE.tmp rfl | exact OutE.agg inferInstance rfl rfl | exact OutE.one inferInstance rfl) (OutL.cons (by first | exact OutE.tmp rfl | exact OutE.agg inferInstance rfl rfl | exact OutE.one inferInstance rfl) OutL.nil)) rfl) ⟨rfl, by rw [e]⟩
  have hgu' := geTo_step hgu hux huy g
  clear hgu hux huy
  repeat' (first | refine goH ?_ | refine goV ?_ | refine goB (fun b => ?_) | refine goI ?_ | (refine Cw.k_cond ?_; first | (refine Cw.cond_dec rfl (fun hc => ?_) (fun hc => ?_) <;> try (exfalso; omega)) | refine Cw.cond_bool rfl (fun hc => ?_) (fun hc => ?_)) | refine goR ?_ | refine goP ?_ | apply PSeq.cons | apply PSeq.yes rfl rfl rfl | exact goW | fail)
  clear m1 m2
  refine Cw.loopI [(2, _), (3, _), (7, _), (17, _), (18, _), (34, _)] _ (fun q e cc => ∃ (j : Nat), q = n - j ∧ (j ≤ n ∧ geTo x y j) ∧ e = [(35, .int j)] ∧ cc = []) ⟨_, _, _, (Ent.mkP (by repeat' (first | exact Sub.nil | refine Sub.cons rfl ?_)) (by repeat' (first | exact List.Perm.refl _ | refine Perm.cons' (by first | exact pick0 | (apply pickS; first | exact pick0 | (apply pickS; first | exact pick0 | (apply pickS; first | exact pick0 | (apply pickS; first | exact pick0 | (apply pickS; first | exact pick0 | (apply pickS; first | exact pick0 | (apply pickS; first | exact pick0 | (apply pickS; first | exact pick0 | (apply pickS; first | exact pick0 | (apply pickS; exact pick0))))))))))) ?_))), 0, rfl, ⟨by omega, fun k h => absurd h (by omega)⟩, rfl, rfl⟩ ?_
  rintro _ _ _ ⟨j, rfl, ⟨hj, hgj⟩, rfl, rfl⟩
  by_cases hjl : j < n
  rotate_left
  · have hgr' := rowsTo_step hgr hx hy (geTo_all hgj (by rw [hxl ()]; omega))
    clear hgr hgj K N
    repeat' (first | refine goH ?_ | refine goV ?_ | refine goB (fun b => ?_) | refine goI ?_ | (refine Cw.k_cond ?_; first | (refine Cw.cond_dec rfl (fun hc => ?_) (fun hc => ?_) <;> try (exfalso; omega)) | refine Cw.cond_bool rfl (fun hc => ?_) (fun hc => ?_)) | refine goR ?_ | refine goP ?_ | apply PSeq.cons | apply PSeq.yes rfl rfl rfl | exact goW | fail)
    exact ⟨_, _, _, (Ent.mk (by repeat' (first | exact Sub.nil | refine Sub.cons rfl ?_)) (by repeat' (first | exact Take.nil | refine Take.cons (by first | exact pick0 | (apply pickS; first | exact pick0 | (apply pickS; first | exact pick0 | (apply pickS; first | exact pick0 | (apply pickS; first | exact pick0 | (apply pickS; first | exact pick0 | (apply pickS; first | exact pick0 | (apply pickS; first | exact pick0 | (apply pickS; first | exact pick0 | (apply pickS; first | exact pick0 | (apply pickS; exact pick0))))))))))) ?_))), ⟨i + 1, rfl, ⟨by omega, hgu', hgr'⟩, rfl, rfl⟩, by omega⟩
  obtain ⟨px, hpx⟩ := at_lt (l := x) (k := j) (by rw [hxl ()]; exact hjl)
  obtain ⟨py, hpy⟩ := at_lt (l := y) (k := j) (by rw [hyl ()]; exact hjl)
  have g1 := intRows_at hpx
  have g2 := intRows_at hpy
  by_cases g : px < py
  · have e := N () (fun h => h.2 i x y hx hy j px py hpx hpy g)
    clear hgu' hgr K N hgj
    repeat' (first | refine goH ?_ | refine goV ?_ | refine goB (fun b => ?_) | refine goI ?_ | (refine Cw.k_cond ?_; first | (refine Cw.cond_dec rfl (fun hc => ?_) (fun hc => ?_) <;> try (exfalso; omega)) | refine Cw.cond_bool rfl (fun hc => ?_) (fun hc => ?_)) | refine goR ?_ | refine goP ?_ | apply PSeq.cons | apply PSeq.yes rfl rfl rfl | exact goW | fail)
    refine Fin.ret (Ent.take (by repeat' (first | exact Take.nil | refine Take.cons (by first | exact pick0 | (apply pickS; first | exact pick0 | (apply pickS; first | exact pick0 | (apply pickS; first | exact pick0 | (apply pickS; first | exact pick0 | (apply pickS; first | exact pick0 | (apply pickS; first | exact pick0 | (apply pickS; first | exact pick0 | (apply pickS; first | exact pick0 | (apply pickS; first | exact pick0 | (apply pickS; exact pick0))))))))))) ?_))) (Outs.many rfl (OutL.cons (by first | exact OutE.tmp rfl | exact OutE.agg inferInstance rfl rfl | exact OutE.one inferInstance rfl) (OutL.cons (by first | exact OutE.tmp rfl | exact OutE.agg inferInstance rfl rfl | exact OutE.one inferInstance rfl) OutL.nil)) rfl) ⟨rfl, by rw [e]⟩
  have hgj' := geTo_step hgj hpx hpy g
  clear hgj
  repeat' (first | refine goH ?_ | refine goV ?_ | refine goB (fun b => ?_) | refine goI ?_ | (refine Cw.k_cond ?_; first | (refine Cw.cond_dec rfl (fun hc => ?_) (fun hc => ?_) <;> try (exfalso; omega)) | refine Cw.cond_bool rfl (fun hc => ?_) (fun hc => ?_)) | refine goR ?_ | refine goP ?_ | apply PSeq.cons | apply PSeq.yes rfl rfl rfl | exact goW | fail)
  exact ⟨_, _, _, (Ent.mk (by repeat' (first | exact Sub.nil | refine Sub.cons rfl ?_)) (by repeat' (first | exact Take.nil | refine Take.cons (by first | exact pick0 | (apply pickS; first | exact pick0 | (apply pickS; first | exact pick0 | (apply pickS; first | exact pick0 | (apply pickS; first | exact pick0 | (apply pickS; first | exact pick0 | (apply pickS; first | exact pick0 | (apply pickS; first | exact pick0 | (apply pickS; first | exact pick0 | (apply pickS; first | exact pick0 | (apply pickS; exact pick0))))))))))) ?_))), ⟨j + 1, rfl, ⟨by omega, hgj'⟩, rfl, rfl⟩, by omega⟩
theorem flat_n {L : List (List Int)} {n : Nat} (h : ∀ l ∈ L, l.length = n) : L.flatten.length = L.length * n := by
  induction L with
  | nil => simp
  | cons l L ih =>
    rw [List.flatten_cons, List.length_append, ih (fun l hl => h l (List.mem_cons_of_mem _ hl)), h l (List.mem_cons_self ..), List.length_cons, Nat.succ_mul, Nat.add_comm]
theorem knowsAll_fn (A B : Wal) (ha : WBd A) (hb : WBd B) : PFn Tryd.prog 13 [.wal A, .wal B] (· = kwO A B) := by
  have kP := pairR_fn A B ha hb
  refine PFn.mk (Spec.body Tryd.func13 rfl rfl (Tryd.ntmps13) rfl fun w0 own0 M => ?_)
  by_cases h1 : pairE A B ≠ 0
  · rw [kwO_bad h1]
    generalize pairE A B = c at *
    repeat' (first | refine goH ?_ | refine goV ?_ | refine goB (fun b => ?_) | refine goC (fun ad cap => ?_) | refine goI ?_ | (refine Cw.k_cond ?_; first | (refine Cw.cond_dec rfl (fun hc => ?_) (fun hc => ?_) <;> try (exfalso; omega)) | refine Cw.cond_bool rfl (fun hc => ?_) (fun hc => ?_)) | (refine Ops.k_calla ?_; first | (refine Ops.k_callf 40 ?_; refine Ops.callV kP (Evs.cons rfl (Evs.cons rfl Evs.nil)) rfl ?_)) | (apply OpW.k_call; first | (apply OpW.k_callf 40; exact OpW.callV kP (Evs.cons rfl (Evs.cons rfl Evs.nil)))) | refine goR ?_ | refine goP ?_ | apply PSeq.cons | apply PSeq.yes rfl rfl rfl | exact goW | fail)
    refine Fin.ret (Ent.take (by repeat' (first | exact Take.nil | refine Take.cons (by first | exact pick0 | (apply pickS; first | exact pick0 | (apply pickS; first | exact pick0 | (apply pickS; first | exact pick0 | (apply pickS; first | exact pick0 | (apply pickS; first | exact pick0 | (apply pickS; first | exact pick0 | (apply pickS; first | exact pick0 | (apply pickS; first | exact pick0 | (apply pickS; first | exact pick0 | (apply pickS; exact pick0))))))))))) ?_))) (Outs.many rfl (OutL.cons (by first | exact OutE.tmp rfl | exact OutE.agg inferInstance rfl rfl | exact OutE.one inferInstance rfl) (OutL.cons (by first | exact OutE.tmp rfl | exact OutE.agg inferInstance rfl rfl | exact OutE.one inferInstance rfl) OutL.nil)) rfl) ⟨rfl, rfl⟩
  have h0 : pairE A B = 0 := by omega
  rw [kwO_ok h0]
  rw [h0] at kP
  obtain ⟨wa, wb, hs⟩ := pairE_ok h0
  have oa := wok_E wa
  have ob := wok_E wb
  clear wa wb h1 h0
  have b1 := oa.bd
  have b2 := ob.bd
  have q1 : A.rights.flatten.length ≤ 10000 := flat_bd (n := 100) (m := 100) b1.rr b1.r
  have q2 : B.rights.flatten.length ≤ 10000 := flat_bd (n := 100) (m := 100) b2.rr b2.r
  have p1 := b1.u
  have p2 := b2.u
  have p3 := b1.r
  have p4 := b2.r
  have kC := concat_fn A.rights (by omega) (by omega)
  have kC2 := concat_fn B.rights (by omega) (by omega)
  have f1 := intRows_len A.rights.flatten
  have f2 := intRows_len B.rights.flatten
  have f3 := intRows_len A.used
  have f4 := intRows_len B.used
  repeat' (first | refine goH ?_ | refine goV ?_ | refine goB (fun b => ?_) | refine goC (fun ad cap => ?_) | refine goI ?_ | (refine Cw.k_cond ?_; first | (refine Cw.cond_dec rfl (fun hc => ?_) (fun hc => ?_) <;> try (exfalso; omega)) | refine Cw.cond_bool rfl (fun hc => ?_) (fun hc => ?_)) | (refine Ops.k_calla ?_; first | (refine Ops.k_callf 40 ?_; refine Ops.callV kP (Evs.cons rfl (Evs.cons rfl Evs.nil)) rfl ?_)) | (apply OpW.k_call; first | (apply OpW.k_callf 40; exact OpW.callV kP (Evs.cons rfl (Evs.cons rfl Evs.nil)))) | fail)
  rename_i b2
  rename Nat => b3
  obtain ⟨m, hm⟩ : ∃ m, m = A.rights.flatten.length + A.used.length := ⟨_, rfl⟩
  have m2 : B.rights.flatten.length + B.used.length = m := by
    rw [hm, flat_n oa.rr, flat_n ob.rr, oa.r, ob.r, oa.u, ob.u, hs]
  refine Cw.region_YP (fun ξ S => Chunk.box b2 31 [.strs A.sites, .sl 1 (intsR A.rights), .ints A.used] :: Chunk.box b3 31 [.strs B.sites, .sl 1 (intsR B.rights), .ints B.used] :: (stg (S 2) [] (stg (S 5) [ownV (ξ 2) 1 3 (intRows A.rights.flatten)] [ownV (ξ 5) 1 3 (intRows A.rights.flatten ++ intRows A.used)]) ++ (stg (S 8) [] (stg (S 11) [ownV (ξ 8) 1 3 (intRows B.rights.flatten)] [ownV (ξ 11) 1 3 (intRows B.rights.flatten ++ intRows B.used)]) ++ []))) rfl (by decide +kernel) rfl ((fun (ξ : Nat → Value) (S : Nat → Bool) => Chunk.box b2 31 [.strs A.sites, .sl 1 (intsR A.rights), .ints A.used] :: Chunk.box b3 31 [.strs B.sites, .sl 1 (intsR B.rights), .ints B.used] :: (stg (S 2) [] (stg (S 5) [ownV (ξ 2) 1 3 (intRows A.rights.flatten)] [ownV (ξ 5) 1 3 (intRows A.rights.flatten ++ intRows A.used)]) ++ (stg (S 8) [] (stg (S 11) [ownV (ξ 8) 1 3 (intRows B.rights.flatten)] [ownV (ξ 11) 1 3 (intRows B.rights.flatten ++ intRows B.used)]) ++ []))) (fun _ => undef) (fun _ => false)) (by simp only [upd_same, updD_same, upd_ne, updD_ne, ne_eq, Nat.reduceEqDiff, not_false_eq_true, stg_t, stg_f, vAd_s, vCap_s, blk_p, List.cons_append, List.nil_append, b2n_t, b2n_f]; exact (by repeat' (first | exact List.Perm.refl _ | refine Perm.cons' (by repeat' (first | exact pick0 | apply pickS | apply pickA)) ?_ | refine Perm.app' (by repeat' (first | exact pickL0 | apply pickLS | apply pickLA)) ?_))) (fun _ => rfl) ?_
  apply YSeq.w (by intro _ _ _; rfl)
  · intro ξ S h1 h2 h3 h4
    have hN0_1 := closed_false h1 h3 (k := 1) rfl (by decide)
    have hN0_2 := closed_false hN0_1 h3 (k := 2) rfl (by decide)
    have hN0_5 := closed_false hN0_2 h3 (k := 5) rfl (by decide)
    have hN0_8 := closed_false hN0_5 h3 (k := 8) rfl (by decide)
    have hN0_11 := closed_false hN0_8 h3 (k := 11) rfl (by decide)
    try simp only [upd_same, updD_same, upd_ne, updD_ne, ne_eq, Nat.reduceEqDiff, not_false_eq_true, stg_t, stg_f, vAd_s, vCap_s, blk_p, List.cons_append, List.nil_append, b2n_t, b2n_f, hN0_2, hN0_5, hN0_8, hN0_11]
    exact goW
  · intro ξ v; rfl
  · intro ξ k v S h3 hn hk
    first
    | rfl
  apply YSeq.w (by intro _ _ _; rfl)
  · intro ξ S h1 h2 h3 h4
    have hN1_2 := closed_false h1 h3 (k := 2) rfl (by decide)
    have hN1_5 := closed_false hN1_2 h3 (k := 5) rfl (by decide)
    have hN1_8 := closed_false hN1_5 h3 (k := 8) rfl (by decide)
    have hN1_11 := closed_false hN1_8 h3 (k := 11) rfl (by decide)
    try simp only [upd_same, updD_same, upd_ne, updD_ne, ne_eq, Nat.reduceEqDiff, not_false_eq_true, stg_t, stg_f, vAd_s, vCap_s, blk_p, List.cons_append, List.nil_append, b2n_t, b2n_f, hN1_2, hN1_5, hN1_8, hN1_11]
    exact goW
  · intro ξ v; rfl
  · intro ξ k v S h3 hn hk
    first
    | rfl
  apply YSeq.callO ((intRows A.rights.flatten).length)
  · intro ξ S h1 h2 h3 h4
    have hN2_5 := closed_false h1 h3 (k := 5) rfl (by decide)
    have hN2_8 := closed_false hN2_5 h3 (k := 8) rfl (by decide)
    have hN2_11 := closed_false hN2_8 h3 (k := 11) rfl (by decide)
    refine ⟨_, _, kC, (Evs.cons rfl Evs.nil), (by first | rfl | simp | omega), fun ad cap => ?_⟩
    simp only [upd_same, updD_same, upd_ne, updD_ne, ne_eq, Nat.reduceEqDiff, not_false_eq_true, stg_t, stg_f, vAd_s, vCap_s, blk_p, List.cons_append, List.nil_append, b2n_t, b2n_f, h1, hN2_5, hN2_8, hN2_11]
    exact (by repeat' (first | exact List.Perm.refl _ | refine Perm.cons' (by repeat' (first | exact pick0 | apply pickS | apply pickA)) ?_ | refine Perm.app' (by repeat' (first | exact pickL0 | apply pickLS | apply pickLA)) ?_))
  apply YSeq.w (by intro _ _ _; rfl)
  · intro ξ S h1 h2 h3 h4
    have hN3_4 := closed_false h1 h3 (k := 4) rfl (by decide)
    have hN3_5 := closed_false hN3_4 h3 (k := 5) rfl (by decide)
    have hN3_8 := closed_false hN3_5 h3 (k := 8) rfl (by decide)
    have hN3_11 := closed_false hN3_8 h3 (k := 11) rfl (by decide)
    try simp only [upd_same, updD_same, upd_ne, updD_ne, ne_eq, Nat.reduceEqDiff, not_false_eq_true, stg_t, stg_f, vAd_s, vCap_s, blk_p, List.cons_append, List.nil_append, b2n_t, b2n_f, hN3_5, hN3_8, hN3_11]
    exact goW
  · intro ξ v; rfl
  · intro ξ k v S h3 hn hk
    first
    | rfl
  apply YSeq.w (by intro _ _ _; rfl)
  · intro ξ S h1 h2 h3 h4
    have hN4_5 := closed_false h1 h3 (k := 5) rfl (by decide)
    have hN4_8 := closed_false hN4_5 h3 (k := 8) rfl (by decide)
    have hN4_11 := closed_false hN4_8 h3 (k := 11) rfl (by decide)
    try simp only [upd_same, updD_same, upd_ne, updD_ne, ne_eq, Nat.reduceEqDiff, not_false_eq_true, stg_t, stg_f, vAd_s, vCap_s, blk_p, List.cons_append, List.nil_append, b2n_t, b2n_f, hN4_5, hN4_8, hN4_11]
    exact goW
  · intro ξ v; rfl
  · intro ξ k v S h3 hn hk
    first
    | rfl
  apply YSeq.append (m)
  · intro ξ S h1 h2 h3 h4
    have hY5_2 : S 2 = true := h2 2 (by decide)
    have hN5_8 := closed_false h1 h3 (k := 8) rfl (by decide)
    have hN5_11 := closed_false hN5_8 h3 (k := 11) rfl (by decide)
    simp only [upd_same, updD_same, upd_ne, updD_ne, ne_eq, Nat.reduceEqDiff, not_false_eq_true, stg_t, stg_f, vAd_s, vCap_s, blk_p, List.cons_append, List.nil_append, b2n_t, b2n_f, hY5_2, h1, hN5_8, hN5_11]
    refine ⟨_, _, _, _, _, _, rfl, rfl, (by repeat' (first | exact pick0 | apply pickS | apply pickA)), (by first | rfl | (simp; done) | omega), (by first | rfl | omega | (simp; done) | (simp; omega)), (by first | omega | (simp; omega)), (by first | omega | (simp; omega)), fun ad' cap' => ?_⟩
    exact (by repeat' (first | exact List.Perm.refl _ | refine Perm.cons' (by repeat' (first | exact pick0 | apply pickS | apply pickA)) ?_ | refine Perm.app' (by repeat' (first | exact pickL0 | apply pickLS | apply pickLA)) ?_))
  apply YSeq.w (by intro _ _ _; rfl)
  · intro ξ S h1 h2 h3 h4
    have hN6_7 := closed_false h1 h3 (k := 7) rfl (by decide)
    have hN6_8 := closed_false hN6_7 h3 (k := 8) rfl (by decide)
    have hN6_11 := closed_false hN6_8 h3 (k := 11) rfl (by decide)
    try simp only [upd_same, updD_same, upd_ne, updD_ne, ne_eq, Nat.reduceEqDiff, not_false_eq_true, stg_t, stg_f, vAd_s, vCap_s, blk_p, List.cons_append, List.nil_append, b2n_t, b2n_f, hN6_8, hN6_11]
    exact goW
  · intro ξ v; rfl
  · intro ξ k v S h3 hn hk
    first
    | rfl
  apply YSeq.w (by intro _ _ _; rfl)
  · intro ξ S h1 h2 h3 h4
    have hN7_8 := closed_false h1 h3 (k := 8) rfl (by decide)
    have hN7_11 := closed_false hN7_8 h3 (k := 11) rfl (by decide)
    try simp only [upd_same, updD_same, upd_ne, updD_ne, ne_eq, Nat.reduceEqDiff, not_false_eq_true, stg_t, stg_f, vAd_s, vCap_s, blk_p, List.cons_append, List.nil_append, b2n_t, b2n_f, hN7_8, hN7_11]
    exact goW
  · intro ξ v; rfl
  · intro ξ k v S h3 hn hk
    first
    | rfl
  apply YSeq.callO ((intRows B.rights.flatten).length)
  · intro ξ S h1 h2 h3 h4
    have hY8_5 : S 5 = true := h2 5 (by decide)
    have hY8_2 : S 2 = true := h3 5 _ rfl hY8_5 2 (by decide)
    have hN8_11 := closed_false h1 h3 (k := 11) rfl (by decide)
    refine ⟨_, _, kC2, (Evs.cons rfl Evs.nil), (by first | rfl | simp | omega), fun ad cap => ?_⟩
    simp only [upd_same, updD_same, upd_ne, updD_ne, ne_eq, Nat.reduceEqDiff, not_false_eq_true, stg_t, stg_f, vAd_s, vCap_s, blk_p, List.cons_append, List.nil_append, b2n_t, b2n_f, hY8_2, hY8_5, h1, hN8_11]
    exact (by repeat' (first | exact List.Perm.refl _ | refine Perm.cons' (by repeat' (first | exact pick0 | apply pickS | apply pickA)) ?_ | refine Perm.app' (by repeat' (first | exact pickL0 | apply pickLS | apply pickLA)) ?_))
  apply YSeq.w (by intro _ _ _; rfl)
  · intro ξ S h1 h2 h3 h4
    have hN9_10 := closed_false h1 h3 (k := 10) rfl (by decide)
    have hN9_11 := closed_false hN9_10 h3 (k := 11) rfl (by decide)
    try simp only [upd_same, updD_same, upd_ne, updD_ne, ne_eq, Nat.reduceEqDiff, not_false_eq_true, stg_t, stg_f, vAd_s, vCap_s, blk_p, List.cons_append, List.nil_append, b2n_t, b2n_f, hN9_11]
    exact goW
  · intro ξ v; rfl
  · intro ξ k v S h3 hn hk
    first
    | rfl
  apply YSeq.w (by intro _ _ _; rfl)
  · intro ξ S h1 h2 h3 h4
    have hN10_11 := closed_false h1 h3 (k := 11) rfl (by decide)
    try simp only [upd_same, updD_same, upd_ne, updD_ne, ne_eq, Nat.reduceEqDiff, not_false_eq_true, stg_t, stg_f, vAd_s, vCap_s, blk_p, List.cons_append, List.nil_append, b2n_t, b2n_f, hN10_11]
    exact goW
  · intro ξ v; rfl
  · intro ξ k v S h3 hn hk
    first
    | rfl
  apply YSeq.append (m)
  · intro ξ S h1 h2 h3 h4
    have hY11_8 : S 8 = true := h2 8 (by decide)
    have hY11_5 : S 5 = true := h3 8 _ rfl hY11_8 5 (by decide)
    have hY11_2 : S 2 = true := h3 5 _ rfl hY11_5 2 (by decide)
    simp only [upd_same, updD_same, upd_ne, updD_ne, ne_eq, Nat.reduceEqDiff, not_false_eq_true, stg_t, stg_f, vAd_s, vCap_s, blk_p, List.cons_append, List.nil_append, b2n_t, b2n_f, hY11_2, hY11_5, hY11_8, h1]
    refine ⟨_, _, _, _, _, _, rfl, rfl, (by repeat' (first | exact pick0 | apply pickS | apply pickA)), (by first | rfl | (simp; done) | omega), (by first | rfl | omega | (simp; done) | (simp; omega)), (by first | omega | (simp; omega)), (by first | omega | (simp; omega)), fun ad' cap' => ?_⟩
    exact (by repeat' (first | exact List.Perm.refl _ | refine Perm.cons' (by repeat' (first | exact pick0 | apply pickS | apply pickA)) ?_ | refine Perm.app' (by repeat' (first | exact pickL0 | apply pickLS | apply pickLA)) ?_))
  apply YSeq.w (by intro _ _ _; rfl)
  · intro ξ S h1 h2 h3 h4
    have hY12_2 : S 2 = true := h2 2 (by decide)
    have hY12_5 : S 5 = true := h2 5 (by decide)
    have hY12_11 : S 11 = true := h2 11 (by decide)
    have hY12_8 : S 8 = true := h3 11 _ rfl hY12_11 8 (by decide)
    try simp only [upd_same, updD_same, upd_ne, updD_ne, ne_eq, Nat.reduceEqDiff, not_false_eq_true, stg_t, stg_f, vAd_s, vCap_s, blk_p, List.cons_append, List.nil_append, b2n_t, b2n_f, hY12_2, hY12_5, hY12_8, hY12_11]
    exact goW
  · intro ξ v; rfl
  · intro ξ k v S h3 hn hk
    first
    | rfl
    | skip
      have hY12_2 : S 2 = true := h3 12 _ rfl hn 2 (by decide)
      have hY12_5 : S 5 = true := h3 12 _ rfl hn 5 (by decide)
      have hY12_11 : S 11 = true := h3 12 _ rfl hn 11 (by decide)
      have hY12_8 : S 8 = true := h3 11 _ rfl hY12_11 8 (by decide)
      simp only [upd_S hY12_2 hk, upd_S hY12_5 hk, upd_S hY12_8 hk, upd_S hY12_11 hk]
  apply YSeq.w (by intro _ _ _; rfl)
  · intro ξ S h1 h2 h3 h4
    have hY13_2 : S 2 = true := h2 2 (by decide)
    have hY13_5 : S 5 = true := h2 5 (by decide)
    have hY13_8 : S 8 = true := h2 8 (by decide)
    have hY13_11 : S 11 = true := h2 11 (by decide)
    try simp only [upd_same, updD_same, upd_ne, updD_ne, ne_eq, Nat.reduceEqDiff, not_false_eq_true, stg_t, stg_f, vAd_s, vCap_s, blk_p, List.cons_append, List.nil_append, b2n_t, b2n_f, hY13_2, hY13_5, hY13_8, hY13_11]
    exact goW
  · intro ξ v; rfl
  · intro ξ k v S h3 hn hk
    first
    | rfl
    | skip
      have hY13_2 : S 2 = true := h3 13 _ rfl hn 2 (by decide)
      have hY13_5 : S 5 = true := h3 13 _ rfl hn 5 (by decide)
      have hY13_8 : S 8 = true := h3 13 _ rfl hn 8 (by decide)
      have hY13_11 : S 11 = true := h3 13 _ rfl hn 11 (by decide)
      simp only [upd_S hY13_2 hk, upd_S hY13_5 hk, upd_S hY13_8 hk, upd_S hY13_11 hk]
  refine YSeq.nil fun ξ hf => ?_
  refine ⟨[(7, _), (8, _)], _, Ent.trans (Ent.eqc rfl (by simp only [upd_same, updD_same, upd_ne, updD_ne, ne_eq, Nat.reduceEqDiff, not_false_eq_true, stg_t, stg_f, vAd_s, vCap_s, blk_p, List.cons_append, List.nil_append, b2n_t, b2n_f, ownV, slV, ptV] <;> rfl)) (Ent.sub (by repeat' (first | exact Sub.nil | refine Sub.cons rfl ?_))), ?_⟩
  clear hf
  generalize vAd (ξ 2) = ad18
  generalize vCap (ξ 2) = cap18
  generalize vAd (ξ 5) = ad21
  generalize vCap (ξ 5) = cap21
  generalize vAd (ξ 8) = ad24
  generalize vCap (ξ 8) = cap24
  generalize vAd (ξ 11) = ad27
  generalize vCap (ξ 11) = cap27
  have hxy : (A.rights.flatten ++ A.used).length = m := by rw [List.length_append, hm]
  have hyy : (B.rights.flatten ++ B.used).length = m := by rw [List.length_append, m2]
  rw [← intRows_app, ← intRows_app]
  have hm9 : m ≤ 100000 := by omega
  have K : knB A B = decide (geL (A.rights.flatten ++ A.used) (B.rights.flatten ++ B.used)) := by unfold knB; rfl
  rw [K]
  clear K hm m2 f1 f2 f3 f4 kC kC2 p1 p2 p3 p4 q1 q2 b1 oa ob
  generalize A.rights.flatten ++ A.used = x at *
  generalize B.rights.flatten ++ B.used = y at *
  have hxr := (intRows_len x).trans hxy
  have hyr := (intRows_len y).trans hyy
  have hX : Unit → x.length = m := fun _ => hxy
  have hY : Unit → y.length = m := fun _ => hyy
  clear hxy hyy
  refine Then.norm ?_
  repeat' (first | refine goH ?_ | refine goV ?_ | refine goB (fun b => ?_) | refine goC (fun ad cap => ?_) | refine goI ?_ | (refine Cw.k_cond ?_; first | (refine Cw.cond_dec rfl (fun hc => ?_) (fun hc => ?_) <;> try (exfalso; omega)) | refine Cw.cond_bool rfl (fun hc => ?_) (fun hc => ?_)) | refine goR ?_ | refine goP ?_ | apply PSeq.cons | apply PSeq.yes rfl rfl rfl | exact goW | fail)
  refine Cw.loopI [(7, _), (8, _), (29, _)] _ (fun q e cc => ∃ (j : Nat), q = m - j ∧ (j ≤ m ∧ geTo x y j) ∧ e = [(30, .int j)] ∧ cc = []) ⟨_, _, _, (Ent.mkP (by repeat' (first | exact Sub.nil | refine Sub.cons rfl ?_)) (by repeat' (first | exact List.Perm.refl _ | refine Perm.cons' (by first | exact pick0 | (apply pickS; first | exact pick0 | (apply pickS; first | exact pick0 | (apply pickS; first | exact pick0 | (apply pickS; first | exact pick0 | (apply pickS; first | exact pick0 | (apply pickS; first | exact pick0 | (apply pickS; first | exact pick0 | (apply pickS; first | exact pick0 | (apply pickS; first | exact pick0 | (apply pickS; exact pick0))))))))))) ?_))), 0, rfl, ⟨by omega, fun k h => absurd h (by omega)⟩, rfl, rfl⟩ ?_
  rintro _ _ _ ⟨j, rfl, ⟨hj, hgj⟩, rfl, rfl⟩
  by_cases hjl : j < m
  rotate_left
  · have e : decide (geL x y) = true := decide_eq_true (geTo_all hgj (by rw [hX ()]; omega))
    clear hgj
    repeat' (first | refine goH ?_ | refine goV ?_ | refine goB (fun b => ?_) | refine goC (fun ad cap => ?_) | refine goI ?_ | (refine Cw.k_cond ?_; first | (refine Cw.cond_dec rfl (fun hc => ?_) (fun hc => ?_) <;> try (exfalso; omega)) | refine Cw.cond_bool rfl (fun hc => ?_) (fun hc => ?_)) | refine goR ?_ | refine goP ?_ | apply PSeq.cons | apply PSeq.yes rfl rfl rfl | exact goW | fail)
    refine Fin.ret (Ent.take (by repeat' (first | exact Take.nil | refine Take.cons (by first | exact pick0 | (apply pickS; first | exact pick0 | (apply pickS; first | exact pick0 | (apply pickS; first | exact pick0 | (apply pickS; first | exact pick0 | (apply pickS; first | exact pick0 | (apply pickS; first | exact pick0 | (apply pickS; first | exact pick0 | (apply pickS; first | exact pick0 | (apply pickS; first | exact pick0 | (apply pickS; exact pick0))))))))))) ?_))) (Outs.many rfl (OutL.cons (by first | exact OutE.tmp rfl | exact OutE.agg inferInstance rfl rfl | exact OutE.one inferInstance rfl) (OutL.cons (by first | exact OutE.tmp rfl | exact OutE.agg inferInstance rfl rfl | exact OutE.one inferInstance rfl) OutL.nil)) rfl) ⟨rfl, by rw [e]⟩
  obtain ⟨px, hpx⟩ := at_lt (l := x) (k := j) (by rw [hX ()]; exact hjl)
  obtain ⟨py, hpy⟩ := at_lt (l := y) (k := j) (by rw [hY ()]; exact hjl)
  have g1 := intRows_at hpx
  have g2 := intRows_at hpy
  by_cases g : px < py
  · have e : decide (geL x y) = false := decide_eq_false (fun h => h j px py hpx hpy g)
    clear hgj
    repeat' (first | refine goH ?_ | refine goV ?_ | refine goB (fun b => ?_) | refine goC (fun ad cap => ?_) | refine goI ?_ | (refine Cw.k_cond ?_; first | (refine Cw.cond_dec rfl (fun hc => ?_) (fun hc => ?_) <;> try (exfalso; omega)) | refine Cw.cond_bool rfl (fun hc => ?_) (fun hc => ?_)) | refine goR ?_ | refine goP ?_ | apply PSeq.cons | apply PSeq.yes rfl rfl rfl | exact goW | fail)
    refine Fin.ret (Ent.take (by repeat' (first | exact Take.nil | refine Take.cons (by first | exact pick0 | (apply pickS; first | exact pick0 | (apply pickS; first | exact pick0 | (apply pickS; first | exact pick0 | (apply pickS; first | exact pick0 | (apply pickS; first | exact pick0 | (apply pickS; first | exact pick0 | (apply pickS; first | exact pick0 | (apply pickS; first | exact pick0 | (apply pickS; first | exact pick0 | (apply pickS; exact pick0))))))))))) ?_))) (Outs.many rfl (OutL.cons (by first | exact OutE.tmp rfl | exact OutE.agg inferInstance rfl rfl | exact OutE.one inferInstance rfl) (OutL.cons (by first | exact OutE.tmp rfl | exact OutE.agg inferInstance rfl rfl | exact OutE.one inferInstance rfl) OutL.nil)) rfl) ⟨rfl, by rw [e]⟩
  have hgj' := geTo_step hgj hpx hpy g
  clear hgj
  repeat' (first | refine goH ?_ | refine goV ?_ | refine goB (fun b => ?_) | refine goC (fun ad cap => ?_) | refine goI ?_ | (refine Cw.k_cond ?_; first | (refine Cw.cond_dec rfl (fun hc => ?_) (fun hc => ?_) <;> try (exfalso; omega)) | refine Cw.cond_bool rfl (fun hc => ?_) (fun hc => ?_)) | refine goR ?_ | refine goP ?_ | apply PSeq.cons | apply PSeq.yes rfl rfl rfl | exact goW | fail)
  exact ⟨_, _, _, (Ent.mk (by repeat' (first | exact Sub.nil | refine Sub.cons rfl ?_)) (by repeat' (first | exact Take.nil | refine Take.cons (by first | exact pick0 | (apply pickS; first | exact pick0 | (apply pickS; first | exact pick0 | (apply pickS; first | exact pick0 | (apply pickS; first | exact pick0 | (apply pickS; first | exact pick0 | (apply pickS; first | exact pick0 | (apply pickS; first | exact pick0 | (apply pickS; first | exact pick0 | (apply pickS; first | exact pick0 | (apply pickS; exact pick0))))))))))) ?_))), ⟨j + 1, rfl, ⟨by omega, hgj'⟩, rfl, rfl⟩, by omega⟩
end Lg
