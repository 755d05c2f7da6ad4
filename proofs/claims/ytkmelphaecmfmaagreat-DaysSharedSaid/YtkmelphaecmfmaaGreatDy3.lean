/- A part of the proof of a law of this seat: it adds no condition. By an AI agent. -/
import Derived.Test.YtkmelphaecmfmaaGreatDy2
section
set_option linter.all false
set_option maxRecDepth 100000
set_option maxHeartbeats 8000000
namespace Lg
open Go Go.Proofs

attribute [local irreducible] intRows limE difE difL stpsOf stpOf srtO soldF addL addH
theorem sold_fn (c t f : Int) (l : List Rdg) (hl : l.length ≤ 12) (hv : ∀ r ∈ l, r.vs.length ≤ 1000) (ht : -1000000000000 ≤ t ∧ t ≤ 1000000000000) {D : List Rdg} {e : Int} (hs : srtO c t f l = .tup [.sl 2 (D.map Rdg.row), .int e]) (h0 : e = 0 → mtrE c t f = 0 ∧ (∀ r ∈ D, ROk c t r) ∧ D.length ≤ l.length) : PFn Tryz.prog 56 [.mtr c t f, .sl 2 (l.map Rdg.row)] (· = sldO c t f D e) := by
  have k1 := steps_fn c t f l hl hv ht hs h0
  clear hs
  unfold stsO at k1
  unfold sldO
  refine PFn.mk (Spec.body Tryz.func56 rfl rfl (Tryz.ntmps56) rfl fun w0 own0 M => ?_)
  by_cases he : e = 0
  rotate_left
  · rw [if_neg he] at k1 ⊢
    repeat' (first | refine goH ?_ | refine goV ?_ | refine goB (fun b => ?_) | refine goC (fun ad cap => ?_) | refine goI ?_ | (refine Cw.k_cond ?_; first | (refine Cw.cond_dec rfl (fun hc => ?_) (fun hc => ?_) <;> try (exfalso; omega)) | refine Cw.cond_bool rfl (fun hc => ?_) (fun hc => ?_)) | (refine Ops.k_calla ?_; first | (refine Ops.k_callf 46 ?_; refine Ops.callV k1 (Evs.cons rfl (Evs.cons rfl Evs.nil)) rfl ?_)) | fail)
    refine Fin.ret (Ent.trans (Ent.nilsl 1 (s := 4) rfl) (Ent.take goTk)) (Outs.many rfl (OutL.cons goOe (OutL.cons goOe OutL.nil)) rfl) ⟨rfl, rfl⟩
  rw [if_pos he] at k1 ⊢
  obtain ⟨hm, hD, hDl⟩ := h0 he
  obtain ⟨⟨hc1, hc2⟩, _⟩ := mtrE_ok hm
  have hSok := stpsOf_ok hm hD
  have hsl := stpsOf_len t f D
  unfold soldL
  obtain ⟨S, hS⟩ : ∃ S, S = stpsOf t f D := ⟨_, rfl⟩
  rw [← hS] at hsl hSok k1 ⊢
  have hSL : (S.map Stp.row).length = S.length := List.length_map _
  obtain ⟨n, hn⟩ : ∃ n : Nat, c.toNat = n := ⟨_, rfl⟩
  have hcn : c = n := by omega
  rw [hn] at hSok ⊢
  clear hn
  subst hcn
  repeat' (first | refine goH ?_ | refine goV ?_ | refine goB (fun b => ?_) | refine goC (fun ad cap => ?_) | refine goI ?_ | (refine Cw.k_cond ?_; first | (refine Cw.cond_dec rfl (fun hc => ?_) (fun hc => ?_) <;> try (exfalso; omega)) | refine Cw.cond_bool rfl (fun hc => ?_) (fun hc => ?_)) | (refine Ops.k_calla ?_; first | (refine Ops.k_callf 46 ?_; refine Ops.callV k1 (Evs.cons rfl (Evs.cons rfl Evs.nil)) rfl ?_)) | fail)
  rw [show List.map Tr.raw [Value.int .i64 0] = [Tr.int 0] from rfl, intRows_rep]

  refine Cw.loopI [(8, _), (25, _), (26, _)] _ (fun q e cc => ∃ (k : Nat) (acc : List Int), q = S.length - k ∧ (k ≤ S.length ∧ acc.length = n ∧ soldF (List.replicate n 0) S = soldF acc (S.drop k) ∧ ∀ x ∈ acc, 0 ≤ x ∧ x ≤ k * 1000000) ∧ e = [(27, .int k)] ∧ cc = [Chunk.own ad cap 1 3 (intRows acc)])
    ⟨_, _, _, (Ent.mkP goSub goPm), 0, List.replicate n 0, rfl, ⟨by omega, List.length_replicate, rfl, by intro x hx; rw [List.eq_of_mem_replicate hx]; omega⟩, rfl, rfl⟩ ?_
  rintro _ _ _ ⟨k, acc, rfl, ⟨hk, hal, hV, hab⟩, rfl, rfl⟩
  by_cases hkl : k < S.length
  rotate_left
  · rw [soldF_end (by omega)] at hV
    rw [hV]
    have hrl := (intRows_len acc).trans hal
    clear hV
    subst hrl
    repeat' (first | refine goH ?_ | refine goV ?_ | refine goB (fun b => ?_) | refine goC (fun ad cap => ?_) | refine goI ?_ | (refine Cw.k_cond ?_; first | (refine Cw.cond_dec rfl (fun hc => ?_) (fun hc => ?_) <;> try (exfalso; omega)) | refine Cw.cond_bool rfl (fun hc => ?_) (fun hc => ?_)) | fail)
    refine Fin.ret (Ent.trans (Ent.settle (s := 4) rfl goPk rfl) (Ent.take goTk)) (Outs.many rfl (OutL.cons goOe (OutL.cons goOe OutL.nil)) rfl) ⟨rfl, rfl⟩
  obtain ⟨s, hs⟩ := at_lt hkl
  have hrow : (S.map Stp.row)[k]? = some [.int s.a, .int s.b, .bool s.r, .ints s.s] := rows_at hs
  rw [soldF_drop hs] at hV
  obtain ⟨hsn, hsv, _⟩ := hSok s (List.mem_of_getElem? hs)
  have hsl : (intRows s.s).length = n := (intRows_len s.s).trans hsn
  have hkl8 : k ≤ 12 := by omega
  repeat' (first | refine goH ?_ | refine goV ?_ | refine goB (fun b => ?_) | refine goC (fun ad cap => ?_) | refine goI ?_ | (refine Cw.k_cond ?_; first | (refine Cw.cond_dec rfl (fun hc => ?_) (fun hc => ?_) <;> try (exfalso; omega)) | refine Cw.cond_bool rfl (fun hc => ?_) (fun hc => ?_)) | fail)
  rename Nat => b10
  refine Cw.loopI [(8, _), (25, _), (26, _), (27, _), (10, _), (32, _), (33, _)] _ (fun q e cc => ∃ (j : Nat) (cur : List Int), q = n - j ∧ (j ≤ n ∧ cur = addH acc s.s j ∧ (intRows cur).length = n) ∧ e = [(34, .int j)] ∧ cc = [Chunk.own ad cap 1 3 (intRows cur)])
    ⟨_, _, _, (Ent.mkP goSub goPm), 0, acc, rfl, ⟨by omega, (addH_zero _ _).symm, (intRows_len acc).trans hal⟩, rfl, rfl⟩ ?_
  rintro _ _ _ ⟨j, cur, rfl, ⟨hj, hcur, hcl⟩, rfl, rfl⟩
  by_cases hjn : j < n
  · obtain ⟨x, hx⟩ := at_lt (l := acc) (k := j) (by omega)
    obtain ⟨y, hy⟩ := at_lt (l := s.s) (k := j) (by omega)
    have hxb := hab x (List.mem_of_getElem? hx)
    have hyb := hsv y (List.mem_of_getElem? hy)
    have r1 : (intRows cur)[j]? = some [Tr.int x] := intRows_at (by rw [hcur]; exact addH_at hal hsn hjn hx)
    have r2 := intRows_at hy
    have hset : (intRows cur).set j [Tr.int (x + y)] = intRows (addH acc s.s (j + 1)) := by rw [intRows_set, hcur, addH_set hal hsn hjn hx hy]
    have hcl2 : (intRows (addH acc s.s (j + 1))).length = n := by rw [intRows_len]; exact addH_len hal hsn (by omega)
    clear hcur hV
    repeat' (first | refine goH ?_ | refine goV ?_ | refine goB (fun b => ?_) | refine goC (fun ad cap => ?_) | refine goI ?_ | (refine Cw.k_cond ?_; first | (refine Cw.cond_dec rfl (fun hc => ?_) (fun hc => ?_) <;> try (exfalso; omega)) | refine Cw.cond_bool rfl (fun hc => ?_) (fun hc => ?_)) | fail)
    erw [hset]
    exact ⟨_, _, _, (Ent.mk goSub goTk), ⟨j + 1, _, rfl, ⟨by omega, rfl, hcl2⟩, rfl, rfl⟩, by omega⟩
  · have hjn2 : j = n := by omega
    rw [hjn2, addH_end hal hsn] at hcur
    have hb2 := addL_bd hab hsv
    have hl2 := addL_len hal hsn
    rw [← hcur] at hb2 hl2 hV
    clear hcur
    repeat' (first | refine goH ?_ | refine goV ?_ | refine goB (fun b => ?_) | refine goC (fun ad cap => ?_) | refine goI ?_ | (refine Cw.k_cond ?_; first | (refine Cw.cond_dec rfl (fun hc => ?_) (fun hc => ?_) <;> try (exfalso; omega)) | refine Cw.cond_bool rfl (fun hc => ?_) (fun hc => ?_)) | fail)
    exact ⟨_, _, _, (Ent.mk goSub goTk), ⟨k + 1, cur, rfl, ⟨by omega, hl2, hV, fun x hx => by have := hb2 x hx; omega⟩, rfl, rfl⟩, by omega⟩
theorem soldOf_fn (c t f : Int) (hm : mtrE c t f = 0) (D : List Rdg) (hD : ∀ r ∈ D, ROk c t r) (hl : D.length ≤ 12) : PFn Tryz.prog 59 [.mtr c t f, .sl 2 (D.map Rdg.row)] (· = .ints (soldL c t f D)) := by
  have k1 := stepsOf_fn c t f hm D hD hl
  refine PFn.mk (Spec.body Tryz.func59 rfl rfl (Tryz.ntmps59) rfl fun w0 own0 M => ?_)
  obtain ⟨⟨hc1, hc2⟩, _⟩ := mtrE_ok hm
  have hSok := stpsOf_ok hm hD
  have hsl := stpsOf_len t f D
  unfold soldL
  obtain ⟨S, hS⟩ : ∃ S, S = stpsOf t f D := ⟨_, rfl⟩
  rw [← hS] at hsl hSok k1 ⊢
  have hSL : (S.map Stp.row).length = S.length := List.length_map _
  obtain ⟨n, hn⟩ : ∃ n : Nat, c.toNat = n := ⟨_, rfl⟩
  have hcn : c = n := by omega
  rw [hn] at hSok ⊢
  clear hn
  subst hcn
  repeat' (first | refine goH ?_ | refine goV ?_ | refine goB (fun b => ?_) | refine goC (fun ad cap => ?_) | refine goI ?_ | (refine Cw.k_cond ?_; first | (refine Cw.cond_dec rfl (fun hc => ?_) (fun hc => ?_) <;> try (exfalso; omega)) | refine Cw.cond_bool rfl (fun hc => ?_) (fun hc => ?_)) | (refine Ops.k_calla ?_; first | (refine Ops.k_callf 49 ?_; refine Ops.callV k1 (Evs.cons rfl (Evs.cons rfl Evs.nil)) rfl ?_)) | fail)
  rw [show List.map Tr.raw [Value.int .i64 0] = [Tr.int 0] from rfl, intRows_rep]

  refine Cw.loopI [(5, _), (15, _), (16, _)] _ (fun q e cc => ∃ (k : Nat) (acc : List Int), q = S.length - k ∧ (k ≤ S.length ∧ acc.length = n ∧ soldF (List.replicate n 0) S = soldF acc (S.drop k) ∧ ∀ x ∈ acc, 0 ≤ x ∧ x ≤ k * 1000000) ∧ e = [(17, .int k)] ∧ cc = [Chunk.own ad cap 1 3 (intRows acc)])
    ⟨_, _, _, (Ent.mkP goSub goPm), 0, List.replicate n 0, rfl, ⟨by omega, List.length_replicate, rfl, by intro x hx; rw [List.eq_of_mem_replicate hx]; omega⟩, rfl, rfl⟩ ?_
  rintro _ _ _ ⟨k, acc, rfl, ⟨hk, hal, hV, hab⟩, rfl, rfl⟩
  by_cases hkl : k < S.length
  rotate_left
  · rw [soldF_end (by omega)] at hV
    rw [hV]
    have hrl := (intRows_len acc).trans hal
    clear hV
    subst hrl
    repeat' (first | refine goH ?_ | refine goV ?_ | refine goB (fun b => ?_) | refine goC (fun ad cap => ?_) | refine goI ?_ | (refine Cw.k_cond ?_; first | (refine Cw.cond_dec rfl (fun hc => ?_) (fun hc => ?_) <;> try (exfalso; omega)) | refine Cw.cond_bool rfl (fun hc => ?_) (fun hc => ?_)) | fail)
    refine Fin.ret (Ent.trans (Ent.settle (s := 4) rfl goPk rfl) (Ent.take goTk)) (Outs.sole rfl goOe) ⟨rfl, rfl⟩
  obtain ⟨s, hs⟩ := at_lt hkl
  have hrow : (S.map Stp.row)[k]? = some [.int s.a, .int s.b, .bool s.r, .ints s.s] := rows_at hs
  rw [soldF_drop hs] at hV
  obtain ⟨hsn, hsv, _⟩ := hSok s (List.mem_of_getElem? hs)
  have hsl : (intRows s.s).length = n := (intRows_len s.s).trans hsn
  have hkl8 : k ≤ 12 := by omega
  repeat' (first | refine goH ?_ | refine goV ?_ | refine goB (fun b => ?_) | refine goC (fun ad cap => ?_) | refine goI ?_ | (refine Cw.k_cond ?_; first | (refine Cw.cond_dec rfl (fun hc => ?_) (fun hc => ?_) <;> try (exfalso; omega)) | refine Cw.cond_bool rfl (fun hc => ?_) (fun hc => ?_)) | fail)
  rename Nat => b10
  refine Cw.loopI [(5, _), (15, _), (16, _), (17, _), (7, _), (22, _), (23, _)] _ (fun q e cc => ∃ (j : Nat) (cur : List Int), q = n - j ∧ (j ≤ n ∧ cur = addH acc s.s j ∧ (intRows cur).length = n) ∧ e = [(24, .int j)] ∧ cc = [Chunk.own ad cap 1 3 (intRows cur)])
    ⟨_, _, _, (Ent.mkP goSub goPm), 0, acc, rfl, ⟨by omega, (addH_zero _ _).symm, (intRows_len acc).trans hal⟩, rfl, rfl⟩ ?_
  rintro _ _ _ ⟨j, cur, rfl, ⟨hj, hcur, hcl⟩, rfl, rfl⟩
  by_cases hjn : j < n
  · obtain ⟨x, hx⟩ := at_lt (l := acc) (k := j) (by omega)
    obtain ⟨y, hy⟩ := at_lt (l := s.s) (k := j) (by omega)
    have hxb := hab x (List.mem_of_getElem? hx)
    have hyb := hsv y (List.mem_of_getElem? hy)
    have r1 : (intRows cur)[j]? = some [Tr.int x] := intRows_at (by rw [hcur]; exact addH_at hal hsn hjn hx)
    have r2 := intRows_at hy
    have hset : (intRows cur).set j [Tr.int (x + y)] = intRows (addH acc s.s (j + 1)) := by rw [intRows_set, hcur, addH_set hal hsn hjn hx hy]
    have hcl2 : (intRows (addH acc s.s (j + 1))).length = n := by rw [intRows_len]; exact addH_len hal hsn (by omega)
    clear hcur hV
    repeat' (first | refine goH ?_ | refine goV ?_ | refine goB (fun b => ?_) | refine goC (fun ad cap => ?_) | refine goI ?_ | (refine Cw.k_cond ?_; first | (refine Cw.cond_dec rfl (fun hc => ?_) (fun hc => ?_) <;> try (exfalso; omega)) | refine Cw.cond_bool rfl (fun hc => ?_) (fun hc => ?_)) | fail)
    erw [hset]
    exact ⟨_, _, _, (Ent.mk goSub goTk), ⟨j + 1, _, rfl, ⟨by omega, rfl, hcl2⟩, rfl, rfl⟩, by omega⟩
  · have hjn2 : j = n := by omega
    rw [hjn2, addH_end hal hsn] at hcur
    have hb2 := addL_bd hab hsv
    have hl2 := addL_len hal hsn
    rw [← hcur] at hb2 hl2 hV
    clear hcur
    repeat' (first | refine goH ?_ | refine goV ?_ | refine goB (fun b => ?_) | refine goC (fun ad cap => ?_) | refine goI ?_ | (refine Cw.k_cond ?_; first | (refine Cw.cond_dec rfl (fun hc => ?_) (fun hc => ?_) <;> try (exfalso; omega)) | refine Cw.cond_bool rfl (fun hc => ?_) (fun hc => ?_)) | fail)
    exact ⟨_, _, _, (Ent.mk goSub goTk), ⟨k + 1, cur, rfl, ⟨by omega, hl2, hV, fun x hx => by have := hb2 x hx; omega⟩, rfl, rfl⟩, by omega⟩
end Lg
end
section
set_option linter.all false
set_option maxRecDepth 100000
set_option maxHeartbeats 8000000
namespace Lg
open Go Go.Proofs

/-! ### days, walked -/
structure StD (s : Stp) (c : Nat) : Prop where
  n : s.s.length = c
  v : ∀ x ∈ s.s, 0 ≤ x ∧ x ≤ 1000000
  a0 : 0 ≤ s.a
  ab : s.a < s.b
  b1 : s.b < 5761440
theorem stD {c t f : Int} (hm : mtrE c t f = 0) {D : List Rdg} (hD : ∀ r ∈ D, ROk c t r) (hA : D.Pairwise fun a b => a.t < b.t) : ∀ s ∈ stpsOf t f D, StD s c.toNat := fun s hs => by
  have h1 := stpsOf_ok (f := f) hm hD s hs
  exact ⟨h1.n, h1.v, h1.ab.1.1, stps_asc hA s hs, h1.ab.2.2⟩
theorem stps_len {t f : Int} : ∀ D : List Rdg, (stpsOf t f D).length ≤ D.length
  | [] => by simp [stpsOf]
  | [a] => by simp [stpsOf]
  | a :: b :: D => by
    have := stps_len (t := t) (f := f) (b :: D)
    simp only [stpsOf, List.length_cons] at this ⊢
    omega
theorem dyL_step {k : Nat} {S : List Stp} {i : Nat} {s : Stp} {m : PI} (h : S[i]? = some s) : dyL k (S.drop i) m = dyL k (S.drop (i + 1)) (dyS k s m) := by
  rw [drop_at h, dyL]
theorem dyF_step {first : Int} {j : Nat} {Q : List Int} {n : Int} {m : PI} (h : Q[j]? = some n) : dyF first j (Q.drop j) m = dyF first (j + 1) (Q.drop (j + 1)) (mUp (first + j) (mI (first + j) m + n) m) := by
  rw [drop_at h, dyF]
  rfl
theorem daysD_fn (k : Nat) (cc : Nat) (hk : k < cc) (hcc : cc ≤ 60) (S : List Stp) (hSl : S.length ≤ 12) (hS : ∀ s ∈ S, StD s cc) {c t f : Int} (L : List Rdg) (hc : c = cc) (kSt : PFn Tryz.prog 46 [.mtr c t f, .sl 2 (L.map Rdg.row)] (· = .tup [.sl 4 (S.map Stp.row), .int 0])) : PFn Tryz.prog 13 [.mtr c t f, .sl 2 (L.map Rdg.row), .int k] (· = .tup [.sl 2 ((dyV (dyL k S [])).map prD), .int 0]) := by
  have hSr : (S.map Stp.row).length = S.length := List.length_map _
  have kOut := out_fn k 0 (c - 1)
  rw [show outB k 0 (c - 1) = false by simp [outB]; omega] at kOut
  refine PFn.mk (Spec.body Tryz.func13 rfl rfl (Tryz.ntmps13) rfl fun w0 own0 M => ?_)
  repeat' (first | refine goH ?_ | (refine Ops.k_makeMap ?_; first | (refine Ops.makeMap (Value.int .i64) rfl (fun bm => ?_))) | refine goV ?_ | refine goB (fun b => ?_) | refine goC (fun ad cap => ?_) | refine goI ?_ | (refine Cw.k_cond ?_; first | (refine Cw.cond_dec rfl (fun hc => ?_) (fun hc => ?_) <;> try (exfalso; omega)) | refine Cw.cond_bool rfl (fun hc => ?_) (fun hc => ?_)) | (refine Ops.k_calla ?_; first | refine Ops.callV kSt (Evs.cons rfl (Evs.cons rfl Evs.nil)) rfl ?_ | (refine Ops.k_callf 28 ?_; refine Ops.callV kOut (Evs.cons rfl (Evs.cons rfl (Evs.cons rfl Evs.nil))) rfl ?_)) | (apply OpW.k_call; first | exact OpW.callV kSt (Evs.cons rfl (Evs.cons rfl Evs.nil)) | (apply OpW.k_callf 28; exact OpW.callV kOut (Evs.cons rfl (Evs.cons rfl (Evs.cons rfl Evs.nil))))) | refine goR ?_ | refine goP ?_ | apply PSeq.cons | apply PSeq.yes rfl rfl rfl | exact goW | fail)
  refine Cw.loopI [(2, _), (10, _), (36, _), (37, _)] _ (fun q e cs => ∃ (i J : Nat) (m : PI), q = S.length - i ∧ (i ≤ S.length ∧ dyL k S [] = dyL k (S.drop i) m ∧ J ≤ 4002 * i ∧ DyOk ((J : Int) * 1440005000) J m) ∧ e = [(38, .int i)] ∧ cs = [Chunk.mp (Value.int .i64) bm (tkv m)])
    ⟨_, _, _, (Ent.mkP goSub goPm), 0, 0, [], rfl, ⟨by omega, rfl, by omega, ⟨List.nodup_nil, (fun q hq => by cases hq), Nat.le_refl _⟩⟩, rfl, rfl⟩ ?_
  rintro _ _ _ ⟨i, J, m, rfl, ⟨hi, hV, hJ, hm⟩, rfl, rfl⟩
  by_cases hil : i < S.length
  · obtain ⟨s, hs⟩ := at_lt hil
    have hrow : (S.map Stp.row)[i]? = some [.int s.a, .int s.b, .bool s.r, .ints s.s] := rows_at hs
    have hsd := hS s (List.mem_of_getElem? hs)
    obtain ⟨hsn, hsv, ha0, hab, hb1⟩ := hsd
    rw [dyL_step hs] at hV
    obtain ⟨v, hv⟩ := at_lt (l := s.s) (k := k) (by omega)
    have hvb := hsv v (List.mem_of_getElem? hv)
    have rv := intRows_at hv
    have hsr := intRows_len s.s
    have hgd : s.s.getD k 0 = v := by rw [List.getD_eq_getElem?_getD, hv]; rfl
    unfold dyS at hV
    rw [hgd] at hV
    have hnd := nDays_eq (a := s.a) (b := s.b) ⟨ha0, by omega⟩
    have hsum := mins_sum s.a s.b ⟨ha0, by omega⟩
    have hmb := minsK_bd s.a s.b (nDays s.a s.b) ⟨ha0, by omega⟩
    have hml := minsK_len s.a s.b (nDays s.a s.b)
    have kSh := sharedN_fn v (s.b - s.a) (mins s.a s.b) (by omega) (by rw [hml]; omega) (by rw [hsum]; omega) (fun w hw => by have := hmb w hw; omega) (by rw [hsum]; omega) hsum.symm
    have hQb := shG_bd (t := v) (ws := mins s.a s.b) (by omega) hmb (by rw [hsum]; omega) (by rw [hml]; omega)
    have hQl := shG_len v (mins s.a s.b)
    rw [hml] at hQl
    generalize shG v (mins s.a s.b) = Q at *
    have hQr := intRows_len Q
    clear hs hv hgd hsv hS
    generalize s.s = sl at *
    generalize s.r = sr at *
    have hmins : ∀ j : Nat, intRows (minsK s.a s.b j) ++ [[Tr.int (mnT s.a s.b (s.a / 1440 + j))]] = intRows (minsK s.a s.b (j + 1)) := fun j => by rw [minsK_snoc, intRows_app]; rfl
    have hmr : ∀ j : Nat, (intRows (minsK s.a s.b j)).length = j := fun j => by rw [intRows_len, minsK_len]
    have hq : Int.tdiv s.a 1440 = s.a / 1440 := Int.tdiv_eq_ediv_of_nonneg ha0
    repeat' (first | refine goH ?_ | refine goV ?_ | refine goB (fun b => ?_) | refine goC (fun ad cap => ?_) | refine goI ?_ | (refine Cw.k_cond ?_; first | (refine Cw.cond_dec rfl (fun hc => ?_) (fun hc => ?_) <;> try (exfalso; omega)) | refine Cw.cond_bool rfl (fun hc => ?_) (fun hc => ?_)) | refine goR ?_ | refine goP ?_ | apply PSeq.cons | apply PSeq.yes rfl rfl rfl | exact goW | fail)
    refine Cw.loopI [(2, _), (10, _), (12, _), (13, _), (36, _), (37, _), (38, _)] _ (fun q e cs => ∃ (j : Nat) (ad : Option Addr) (cap n : Nat) (d : Int) (rows : List (List Tr)), q = nDays s.a s.b - j ∧ (j ≤ nDays s.a s.b ∧ rows = intRows (minsK s.a s.b j) ∧ n = j ∧ d = s.a / 1440 + j) ∧ e = [(14, Tr.raw (.slice ad n cap)), (15, .int d)] ∧ cs = [Chunk.own ad cap 1 3 rows])
      ⟨_, _, _, Ent.trans (Ent.nil 1 3) (Ent.mkP goSub goPm), 0, none, 0, 0, s.a / 1440, [], rfl, ⟨by omega, rfl, rfl, by omega⟩, rfl, rfl⟩ ?_
    rintro _ _ _ ⟨j, ad, cap, n, d, rows, rfl, ⟨hj, hrows, hnj, hd⟩, rfl, rfl⟩
    subst hd
    have hrl : rows.length = n := by rw [hrows, hmr, hnj]
    by_cases hjl : j < nDays s.a s.b
    · have hn := hmins j
      rw [← hrows] at hn
      have hn2 : (rows ++ [[Tr.int (mnT s.a s.b (s.a / 1440 + j))]]).length = j + 1 := by rw [List.length_append, hrl, hnj]; rfl
      unfold mnT at hn hn2
      skip
      clear hmins hmr hrows hQb hmb hV hm
      repeat' (first | refine goH ?_ | refine goV ?_ | refine goB (fun b => ?_) | refine goC (fun ad cap => ?_) | refine goI ?_ | (refine Cw.k_cond ?_; first | (refine Cw.cond_dec rfl (fun hc => ?_) (fun hc => ?_) <;> try (exfalso; omega)) | refine Cw.cond_bool rfl (fun hc => ?_) (fun hc => ?_)) | refine goR ?_ | refine goP ?_ | apply PSeq.cons | apply PSeq.yes rfl rfl rfl | exact goW | fail)
      exact ⟨_, _, _, (Ent.mk goSub goTk), ⟨j + 1, _, _, _, _, _, rfl, ⟨by omega, hn, hn2, by omega⟩, rfl, rfl⟩, by omega⟩
    · have hje : j = nDays s.a s.b := by omega
      subst hnj
      rw [hje] at hrows ⊢
      subst hrows
      refine Cw.ent (Ent.settle (s := 14) rfl goPk (hmr _).symm) ?_
      clear hmins hmr hjl hj hrl hje
      repeat' (first | refine goH ?_ | refine goV ?_ | refine goB (fun b => ?_) | refine goC (fun ad cap => ?_) | refine goI ?_ | (refine Cw.k_cond ?_; first | (refine Cw.cond_dec rfl (fun hc => ?_) (fun hc => ?_) <;> try (exfalso; omega)) | refine Cw.cond_bool rfl (fun hc => ?_) (fun hc => ?_)) | (refine Ops.k_calla ?_; first | (refine Ops.k_callf 29 ?_; refine Ops.callV kSh (Evs.cons rfl (Evs.cons rfl (Evs.cons rfl Evs.nil))) rfl ?_)) | (apply OpW.k_call; first | (apply OpW.k_callf 29; exact OpW.callV kSh (Evs.cons rfl (Evs.cons rfl (Evs.cons rfl Evs.nil))))) | refine goR ?_ | refine goP ?_ | apply PSeq.cons | apply PSeq.yes rfl rfl rfl | exact goW | fail)
      refine Cw.loopI [(2, _), (10, _), (13, _), (36, _), (37, _), (38, _), (80, _), (81, _)] _ (fun q e cs => ∃ (j : Nat) (m2 : PI), q = Q.length - j ∧ (j ≤ Q.length ∧ dyF (s.a / 1440) 0 Q m = dyF (s.a / 1440) j (Q.drop j) m2 ∧ DyOk (((J + j : Nat) : Int) * 1440005000) (J + j) m2) ∧ e = [(82, .int j)] ∧ cs = [Chunk.mp (Value.int .i64) bm (tkv m2)])
        ⟨_, _, _, (Ent.mkP goSub goPm), 0, m, rfl, ⟨by omega, rfl, hm⟩, rfl, rfl⟩ ?_
      clear hm
      rintro _ _ _ ⟨j, m2, rfl, ⟨hj, hF, hm⟩, rfl, rfl⟩
      by_cases hjl : j < Q.length
      · obtain ⟨x, hx⟩ := at_lt hjl
        have rx := intRows_at hx
        have hxb := hQb x (List.mem_of_getElem? hx)
        rw [dyF_step hx] at hF
        have hvv := hm.val (by omega) (s.a / 1440 + (j : Int))
        have hadd := hm.add (c := 1440005000) (by omega) (s.a / 1440 + (j : Int)) hxb
        rw [show ((J + j : Nat) : Int) * 1440005000 + 1440005000 = ((J + (j + 1) : Nat) : Int) * 1440005000 by omega] at hadd
        clear hx hm hQb
        repeat' (first | refine goH ?_ | (refine Ops.k_lookup ?_; first | (refine Ops.lookup rfl rfl goPk rfl ?_; rw [tkv_read])) | (refine Ops.k_mapUpdate ?_; first | (refine Ops.mapUpdate rfl rfl rfl goPk ?_; rw [tkv_set])) | refine goV ?_ | refine goB (fun b => ?_) | refine goC (fun ad cap => ?_) | refine goI ?_ | (refine Cw.k_cond ?_; first | (refine Cw.cond_dec rfl (fun hc => ?_) (fun hc => ?_) <;> try (exfalso; omega)) | refine Cw.cond_bool rfl (fun hc => ?_) (fun hc => ?_)) | refine goR ?_ | refine goP ?_ | apply PSeq.cons | apply PSeq.yes rfl rfl rfl | exact goW | fail)
        exact ⟨_, _, _, (Ent.mk goSub goTk), ⟨j + 1, _, rfl, ⟨by omega, hF, hadd⟩, rfl, rfl⟩, by omega⟩
      · rw [List.drop_of_length_le (by omega), dyF] at hF
        rw [hF] at hV
        repeat' (first | refine goH ?_ | refine goV ?_ | refine goB (fun b => ?_) | refine goC (fun ad cap => ?_) | refine goI ?_ | (refine Cw.k_cond ?_; first | (refine Cw.cond_dec rfl (fun hc => ?_) (fun hc => ?_) <;> try (exfalso; omega)) | refine Cw.cond_bool rfl (fun hc => ?_) (fun hc => ?_)) | refine goR ?_ | refine goP ?_ | apply PSeq.cons | apply PSeq.yes rfl rfl rfl | exact goW | fail)
        exact ⟨_, _, _, (Ent.mk goSub goTk), ⟨i + 1, J + j, m2, rfl, ⟨by omega, hV, by omega, hm⟩, rfl, rfl⟩, by omega⟩
  rw [List.drop_of_length_le (by omega), dyL] at hV
  rw [hV]
  have hnd := hm.nd
  have hmln := hm.len
  clear hV hm hS
  repeat' (first | refine goH ?_ | (refine Ops.k_range ?_; first | (refine Ops.range rfl goPk rfl (fun r => ?_))) | refine goV ?_ | refine goB (fun b => ?_) | refine goC (fun ad cap => ?_) | refine goI ?_ | (refine Cw.k_cond ?_; first | (refine Cw.cond_dec rfl (fun hc => ?_) (fun hc => ?_) <;> try (exfalso; omega)) | refine Cw.cond_bool rfl (fun hc => ?_) (fun hc => ?_)) | refine goR ?_ | refine goP ?_ | apply PSeq.cons | apply PSeq.yes rfl rfl rfl | exact goW | fail)
  refine Cw.loopI [(97, _)] _ (fun q e c => ∃ (g left : PI) (ad : Option Addr) (cap : Nat) (rows : List (List Tr)), q = left.length ∧ (m.Perm (g ++ left) ∧ rows = (g.filter pz).map prD ∧ rows.length ≤ g.length) ∧ e = [(18, Tr.raw (.slice ad rows.length cap))] ∧ c = [Chunk.rg (Value.int .i64) bm r (tkv m) (tkv left), Chunk.own ad cap 2 46 rows])
    ⟨_, _, _, Ent.trans (Ent.nil 2 46) (Ent.mkP goSub goPm), [], m, none, 0, [], rfl, ⟨List.Perm.refl _, rfl, Nat.le_refl _⟩, rfl, rfl⟩ ?_
  rintro _ _ _ ⟨g, left, ad, cap, rows, rfl, ⟨hp, hrows, hrl⟩, rfl, rfl⟩
  have hgl : g.length ≤ 100000 := by have := hp.length_eq; simp at this; omega
  repeat' (first | refine goH ?_ | ((fail_if_success refine Ops.k_next ?_); refine goV ?_) | ((fail_if_success refine Ops.k_next ?_); refine goB (fun b => ?_)) | ((fail_if_success refine Ops.k_next ?_); refine goC (fun ad cap => ?_)) | refine goI ?_ | (refine Cw.k_cond ?_; first | (refine Cw.cond_dec rfl (fun hc => ?_) (fun hc => ?_) <;> try (exfalso; omega)) | refine Cw.cond_bool rfl (fun hc => ?_) (fun hc => ?_)) | refine goR ?_ | refine goP ?_ | apply PSeq.cons | apply PSeq.yes rfl rfl rfl | exact goW | fail)
  refine Ops.k_next ?_
  refine Ops.nextC rfl goPk rfl (fun hl0 => ?_) (fun j a t hj => ?_)
  · have hl0 := tkv_nil hl0
    subst hl0
    rw [List.append_nil] at hp
    have hng : ((g.filter pz).map Prod.fst).Nodup := List.Nodup.sublist ((List.filter_sublist).map Prod.fst) ((hp.map Prod.fst).nodup_iff.1 hnd)
    have hrl2 : rows.length = (g.filter pz).length := by rw [hrows, List.length_map]
    have kS := fun ad cap => sortDayK dayLtD_fn (g.filter pz) (by omega) hng ad cap
    rw [dyV_perm hp hnd] at kS
    have hlen : (g.filter pz).length = ((dyV m).map prD).length := by rw [← dyV_perm hp hnd, List.length_map, isort_len]
    rw [hrl2]
    subst hrows
    repeat' (first | refine goH ?_ | refine goV ?_ | refine goB (fun b => ?_) | refine goC (fun ad cap => ?_) | refine goI ?_ | (refine Cw.k_cond ?_; first | (refine Cw.cond_dec rfl (fun hc => ?_) (fun hc => ?_) <;> try (exfalso; omega)) | refine Cw.cond_bool rfl (fun hc => ?_) (fun hc => ?_)) | (refine Ops.k_calla ?_; first | (refine Ops.k_callf 47 ?_; (refine Ops.call (kS _ _) (Evs.cons rfl (Evs.cons rfl Evs.nil)) goPm rfl ?_; rintro r cs' ⟨rfl, rfl⟩))) | refine goR ?_ | refine goP ?_ | apply PSeq.cons | apply PSeq.yes rfl rfl rfl | exact goW | fail)
    rw [hlen]
    refine Fin.ret (Ent.trans (Ent.settle (s := 6) rfl goPk rfl) (Ent.take goTk)) (Outs.many rfl (OutL.cons goOe (OutL.cons goOe OutL.nil)) rfl) ⟨rfl, rfl⟩
  · obtain ⟨v, hjv, rfl⟩ := tkv_at hj
    rw [tkv_erase]
    have hp2 := eraseIdx_snoc hp hjv
    have hlen := eraseIdx_len hjv
    by_cases hz : 0 < v
    · have hrow := snocP g (a, v) hz
      rw [← hrows] at hrow
      unfold prD at hrow
      repeat' (first | refine goH ?_ | (refine Ops.k_entry ?_; first | (refine Ops.entry rfl goPk rfl ?_)) | refine goV ?_ | refine goB (fun b => ?_) | refine goC (fun ad cap => ?_) | refine goI ?_ | (refine Cw.k_cond ?_; first | (refine Cw.cond_dec rfl (fun hc => ?_) (fun hc => ?_) <;> try (exfalso; omega)) | refine Cw.cond_bool rfl (fun hc => ?_) (fun hc => ?_)) | refine goR ?_ | refine goP ?_ | apply PSeq.cons | apply PSeq.yes rfl rfl rfl | exact goW | fail)
      exact ⟨_, _, _, (Ent.mk goSub goTk), ⟨g ++ [(a, v)], _, _, _, _, rfl, ⟨hp2, hrow, by simp; omega⟩, rfl, rfl⟩, by omega⟩
    · have hrow := skipP g (a, v) hz
      rw [← hrows] at hrow
      repeat' (first | refine goH ?_ | (refine Ops.k_entry ?_; first | (refine Ops.entry rfl goPk rfl ?_)) | refine goV ?_ | refine goB (fun b => ?_) | refine goC (fun ad cap => ?_) | refine goI ?_ | (refine Cw.k_cond ?_; first | (refine Cw.cond_dec rfl (fun hc => ?_) (fun hc => ?_) <;> try (exfalso; omega)) | refine Cw.cond_bool rfl (fun hc => ?_) (fun hc => ?_)) | refine goR ?_ | refine goP ?_ | apply PSeq.cons | apply PSeq.yes rfl rfl rfl | exact goW | fail)
      exact ⟨_, _, _, (Ent.mk goSub goTk), ⟨g ++ [(a, v)], _, _, _, _, rfl, ⟨hp2, hrow, by simp; omega⟩, rfl, rfl⟩, by omega⟩
theorem daysR_fn (k : Nat) (cc : Nat) (hk : k < cc) (hcc : cc ≤ 60) (S : List Stp) (hSl : S.length ≤ 12) (hS : ∀ s ∈ S, StD s cc) {c t f : Int} (D : List Rdg) (kSt : PFn Tryz.prog 49 [.mtr c t f, .sl 2 (D.map Rdg.row)] (· = .sl 4 (S.map Stp.row))) : PFn Tryz.prog 15 [.mtr c t f, .sl 2 (D.map Rdg.row), .int k] (· = .sl 2 ((dyV (dyL k S [])).map prD)) := by
  have hSr : (S.map Stp.row).length = S.length := List.length_map _
  refine PFn.mk (Spec.body Tryz.func15 rfl rfl (Tryz.ntmps15) rfl fun w0 own0 M => ?_)
  repeat' (first | refine goH ?_ | (refine Ops.k_makeMap ?_; first | (refine Ops.makeMap (Value.int .i64) rfl (fun bm => ?_))) | refine goV ?_ | refine goB (fun b => ?_) | refine goC (fun ad cap => ?_) | refine goI ?_ | (refine Cw.k_cond ?_; first | (refine Cw.cond_dec rfl (fun hc => ?_) (fun hc => ?_) <;> try (exfalso; omega)) | refine Cw.cond_bool rfl (fun hc => ?_) (fun hc => ?_)) | (refine Ops.k_calla ?_; first | refine Ops.callV kSt (Evs.cons rfl (Evs.cons rfl Evs.nil)) rfl ?_) | fail)
  refine Cw.loopI [(2, _), (7, _), (21, _), (22, _)] _ (fun q e cs => ∃ (i J : Nat) (m : PI), q = S.length - i ∧ (i ≤ S.length ∧ dyL k S [] = dyL k (S.drop i) m ∧ J ≤ 4002 * i ∧ DyOk ((J : Int) * 1440005000) J m) ∧ e = [(23, .int i)] ∧ cs = [Chunk.mp (Value.int .i64) bm (tkv m)])
    ⟨_, _, _, (Ent.mkP goSub goPm), 0, 0, [], rfl, ⟨by omega, rfl, by omega, ⟨List.nodup_nil, (fun q hq => by cases hq), Nat.le_refl _⟩⟩, rfl, rfl⟩ ?_
  rintro _ _ _ ⟨i, J, m, rfl, ⟨hi, hV, hJ, hm⟩, rfl, rfl⟩
  by_cases hil : i < S.length
  · obtain ⟨s, hs⟩ := at_lt hil
    have hrow : (S.map Stp.row)[i]? = some [.int s.a, .int s.b, .bool s.r, .ints s.s] := rows_at hs
    have hsd := hS s (List.mem_of_getElem? hs)
    obtain ⟨hsn, hsv, ha0, hab, hb1⟩ := hsd
    rw [dyL_step hs] at hV
    obtain ⟨v, hv⟩ := at_lt (l := s.s) (k := k) (by omega)
    have hvb := hsv v (List.mem_of_getElem? hv)
    have rv := intRows_at hv
    have hsr := intRows_len s.s
    have hgd : s.s.getD k 0 = v := by rw [List.getD_eq_getElem?_getD, hv]; rfl
    unfold dyS at hV
    rw [hgd] at hV
    have hnd := nDays_eq (a := s.a) (b := s.b) ⟨ha0, by omega⟩
    have hsum := mins_sum s.a s.b ⟨ha0, by omega⟩
    have hmb := minsK_bd s.a s.b (nDays s.a s.b) ⟨ha0, by omega⟩
    have hml := minsK_len s.a s.b (nDays s.a s.b)
    have kSh := shareOfN_fn v (mins s.a s.b) (by omega) (by rw [hml]; omega) (by rw [hsum]; omega) (fun w hw => by have := hmb w hw; omega) (by rw [hsum]; omega)
    have hQb := shG_bd (t := v) (ws := mins s.a s.b) (by omega) hmb (by rw [hsum]; omega) (by rw [hml]; omega)
    have hQl := shG_len v (mins s.a s.b)
    rw [hml] at hQl
    generalize shG v (mins s.a s.b) = Q at *
    have hQr := intRows_len Q
    clear hs hv hgd hsv hS
    generalize s.s = sl at *
    generalize s.r = sr at *
    have hmins : ∀ j : Nat, intRows (minsK s.a s.b j) ++ [[Tr.int (mnT s.a s.b (s.a / 1440 + j))]] = intRows (minsK s.a s.b (j + 1)) := fun j => by rw [minsK_snoc, intRows_app]; rfl
    have hmr : ∀ j : Nat, (intRows (minsK s.a s.b j)).length = j := fun j => by rw [intRows_len, minsK_len]
    have hq : Int.tdiv s.a 1440 = s.a / 1440 := Int.tdiv_eq_ediv_of_nonneg ha0
    repeat' (first | refine goH ?_ | refine goV ?_ | refine goB (fun b => ?_) | refine goC (fun ad cap => ?_) | refine goI ?_ | (refine Cw.k_cond ?_; first | (refine Cw.cond_dec rfl (fun hc => ?_) (fun hc => ?_) <;> try (exfalso; omega)) | refine Cw.cond_bool rfl (fun hc => ?_) (fun hc => ?_)) | fail)
    refine Cw.loopI [(2, _), (7, _), (9, _), (10, _), (21, _), (22, _), (23, _)] _ (fun q e cs => ∃ (j : Nat) (ad : Option Addr) (cap n : Nat) (d : Int) (rows : List (List Tr)), q = nDays s.a s.b - j ∧ (j ≤ nDays s.a s.b ∧ rows = intRows (minsK s.a s.b j) ∧ n = j ∧ d = s.a / 1440 + j) ∧ e = [(11, Tr.raw (.slice ad n cap)), (12, .int d)] ∧ cs = [Chunk.own ad cap 1 3 rows])
      ⟨_, _, _, Ent.trans (Ent.nil 1 3) (Ent.mkP goSub goPm), 0, none, 0, 0, s.a / 1440, [], rfl, ⟨by omega, rfl, rfl, by omega⟩, rfl, rfl⟩ ?_
    rintro _ _ _ ⟨j, ad, cap, n, d, rows, rfl, ⟨hj, hrows, hnj, hd⟩, rfl, rfl⟩
    subst hd
    have hrl : rows.length = n := by rw [hrows, hmr, hnj]
    by_cases hjl : j < nDays s.a s.b
    · have hn := hmins j
      rw [← hrows] at hn
      have hn2 : (rows ++ [[Tr.int (mnT s.a s.b (s.a / 1440 + j))]]).length = j + 1 := by rw [List.length_append, hrl, hnj]; rfl
      unfold mnT at hn hn2
      rw [Int.max_comm] at hn hn2
      clear hmins hmr hrows hQb hmb hV hm
      repeat' (first | refine goH ?_ | refine goV ?_ | refine goB (fun b => ?_) | refine goC (fun ad cap => ?_) | refine goI ?_ | (refine Cw.k_cond ?_; first | (refine Cw.cond_dec rfl (fun hc => ?_) (fun hc => ?_) <;> try (exfalso; omega)) | refine Cw.cond_bool rfl (fun hc => ?_) (fun hc => ?_)) | fail)
      exact ⟨_, _, _, (Ent.mk goSub goTk), ⟨j + 1, _, _, _, _, _, rfl, ⟨by omega, hn, hn2, by omega⟩, rfl, rfl⟩, by omega⟩
    · have hje : j = nDays s.a s.b := by omega
      subst hnj
      rw [hje] at hrows ⊢
      subst hrows
      refine Cw.ent (Ent.settle (s := 11) rfl goPk (hmr _).symm) ?_
      clear hmins hmr hjl hj hrl hje
      repeat' (first | refine goH ?_ | refine goV ?_ | refine goB (fun b => ?_) | refine goC (fun ad cap => ?_) | refine goI ?_ | (refine Cw.k_cond ?_; first | (refine Cw.cond_dec rfl (fun hc => ?_) (fun hc => ?_) <;> try (exfalso; omega)) | refine Cw.cond_bool rfl (fun hc => ?_) (fun hc => ?_)) | (refine Ops.k_calla ?_; first | (refine Ops.k_callf 9 ?_; refine Ops.callV kSh (Evs.cons rfl (Evs.cons rfl Evs.nil)) rfl ?_)) | fail)
      refine Cw.loopI [(7, _), (10, _), (2, _), (21, _), (22, _), (23, _), (60, _), (61, _)] _ (fun q e cs => ∃ (j : Nat) (m2 : PI), q = Q.length - j ∧ (j ≤ Q.length ∧ dyF (s.a / 1440) 0 Q m = dyF (s.a / 1440) j (Q.drop j) m2 ∧ DyOk (((J + j : Nat) : Int) * 1440005000) (J + j) m2) ∧ e = [(62, .int j)] ∧ cs = [Chunk.mp (Value.int .i64) bm (tkv m2)])
        ⟨_, _, _, (Ent.mkP goSub goPm), 0, m, rfl, ⟨by omega, rfl, hm⟩, rfl, rfl⟩ ?_
      clear hm
      rintro _ _ _ ⟨j, m2, rfl, ⟨hj, hF, hm⟩, rfl, rfl⟩
      by_cases hjl : j < Q.length
      · obtain ⟨x, hx⟩ := at_lt hjl
        have rx := intRows_at hx
        have hxb := hQb x (List.mem_of_getElem? hx)
        rw [dyF_step hx] at hF
        have hvv := hm.val (by omega) (s.a / 1440 + (j : Int))
        have hadd := hm.add (c := 1440005000) (by omega) (s.a / 1440 + (j : Int)) hxb
        rw [show ((J + j : Nat) : Int) * 1440005000 + 1440005000 = ((J + (j + 1) : Nat) : Int) * 1440005000 by omega] at hadd
        clear hx hm hQb
        repeat' (first | refine goH ?_ | (refine Ops.k_lookup ?_; first | (refine Ops.lookup rfl rfl goPk rfl ?_; rw [tkv_read])) | (refine Ops.k_mapUpdate ?_; first | (refine Ops.mapUpdate rfl rfl rfl goPk ?_; rw [tkv_set])) | refine goV ?_ | refine goB (fun b => ?_) | refine goC (fun ad cap => ?_) | refine goI ?_ | (refine Cw.k_cond ?_; first | (refine Cw.cond_dec rfl (fun hc => ?_) (fun hc => ?_) <;> try (exfalso; omega)) | refine Cw.cond_bool rfl (fun hc => ?_) (fun hc => ?_)) | fail)
        exact ⟨_, _, _, (Ent.mk goSub goTk), ⟨j + 1, _, rfl, ⟨by omega, hF, hadd⟩, rfl, rfl⟩, by omega⟩
      · rw [List.drop_of_length_le (by omega), dyF] at hF
        rw [hF] at hV
        repeat' (first | refine goH ?_ | refine goV ?_ | refine goB (fun b => ?_) | refine goC (fun ad cap => ?_) | refine goI ?_ | (refine Cw.k_cond ?_; first | (refine Cw.cond_dec rfl (fun hc => ?_) (fun hc => ?_) <;> try (exfalso; omega)) | refine Cw.cond_bool rfl (fun hc => ?_) (fun hc => ?_)) | fail)
        exact ⟨_, _, _, (Ent.mk goSub goTk), ⟨i + 1, J + j, m2, rfl, ⟨by omega, hV, by omega, hm⟩, rfl, rfl⟩, by omega⟩
  rw [List.drop_of_length_le (by omega), dyL] at hV
  rw [hV]
  have hnd := hm.nd
  have hmln := hm.len
  clear hV hm hS
  repeat' (first | refine goH ?_ | (refine Ops.k_range ?_; first | (refine Ops.range rfl goPk rfl (fun r => ?_))) | refine goV ?_ | refine goB (fun b => ?_) | refine goC (fun ad cap => ?_) | refine goI ?_ | (refine Cw.k_cond ?_; first | (refine Cw.cond_dec rfl (fun hc => ?_) (fun hc => ?_) <;> try (exfalso; omega)) | refine Cw.cond_bool rfl (fun hc => ?_) (fun hc => ?_)) | fail)
  refine Cw.loopI [(77, _)] _ (fun q e c => ∃ (g left : PI) (ad : Option Addr) (cap : Nat) (rows : List (List Tr)), q = left.length ∧ (m.Perm (g ++ left) ∧ rows = (g.filter pz).map prD ∧ rows.length ≤ g.length) ∧ e = [(15, Tr.raw (.slice ad rows.length cap))] ∧ c = [Chunk.rg (Value.int .i64) bm r (tkv m) (tkv left), Chunk.own ad cap 2 46 rows])
    ⟨_, _, _, Ent.trans (Ent.nil 2 46) (Ent.mkP goSub goPm), [], m, none, 0, [], rfl, ⟨List.Perm.refl _, rfl, Nat.le_refl _⟩, rfl, rfl⟩ ?_
  rintro _ _ _ ⟨g, left, ad, cap, rows, rfl, ⟨hp, hrows, hrl⟩, rfl, rfl⟩
  have hgl : g.length ≤ 100000 := by have := hp.length_eq; simp at this; omega
  repeat' (first | refine goH ?_ | ((fail_if_success refine Ops.k_next ?_); refine goV ?_) | ((fail_if_success refine Ops.k_next ?_); refine goB (fun b => ?_)) | ((fail_if_success refine Ops.k_next ?_); refine goC (fun ad cap => ?_)) | refine goI ?_ | (refine Cw.k_cond ?_; first | (refine Cw.cond_dec rfl (fun hc => ?_) (fun hc => ?_) <;> try (exfalso; omega)) | refine Cw.cond_bool rfl (fun hc => ?_) (fun hc => ?_)) | fail)
  refine Ops.k_next ?_
  refine Ops.nextC rfl goPk rfl (fun hl0 => ?_) (fun j a t hj => ?_)
  · have hl0 := tkv_nil hl0
    subst hl0
    rw [List.append_nil] at hp
    have hng : ((g.filter pz).map Prod.fst).Nodup := List.Nodup.sublist ((List.filter_sublist).map Prod.fst) ((hp.map Prod.fst).nodup_iff.1 hnd)
    have hrl2 : rows.length = (g.filter pz).length := by rw [hrows, List.length_map]
    have kS := fun ad cap => sortDayK dayLtR_fn (g.filter pz) (by omega) hng ad cap
    rw [dyV_perm hp hnd] at kS
    have hlen : (g.filter pz).length = ((dyV m).map prD).length := by rw [← dyV_perm hp hnd, List.length_map, isort_len]
    rw [hrl2]
    subst hrows
    repeat' (first | refine goH ?_ | refine goV ?_ | refine goB (fun b => ?_) | refine goC (fun ad cap => ?_) | refine goI ?_ | (refine Cw.k_cond ?_; first | (refine Cw.cond_dec rfl (fun hc => ?_) (fun hc => ?_) <;> try (exfalso; omega)) | refine Cw.cond_bool rfl (fun hc => ?_) (fun hc => ?_)) | (refine Ops.k_calla ?_; first | (refine Ops.k_callf 47 ?_; (refine Ops.call (kS _ _) (Evs.cons rfl (Evs.cons rfl Evs.nil)) goPm rfl ?_; rintro r cs' ⟨rfl, rfl⟩))) | fail)
    rw [hlen]
    refine Fin.ret (Ent.trans (Ent.settle (s := 6) rfl goPk rfl) (Ent.take goTk)) (Outs.sole rfl goOe) ⟨rfl, rfl⟩
  · obtain ⟨v, hjv, rfl⟩ := tkv_at hj
    rw [tkv_erase]
    have hp2 := eraseIdx_snoc hp hjv
    have hlen := eraseIdx_len hjv
    by_cases hz : 0 < v
    · have hrow := snocP g (a, v) hz
      rw [← hrows] at hrow
      unfold prD at hrow
      repeat' (first | refine goH ?_ | (refine Ops.k_entry ?_; first | (refine Ops.entry rfl goPk rfl ?_)) | refine goV ?_ | refine goB (fun b => ?_) | refine goC (fun ad cap => ?_) | refine goI ?_ | (refine Cw.k_cond ?_; first | (refine Cw.cond_dec rfl (fun hc => ?_) (fun hc => ?_) <;> try (exfalso; omega)) | refine Cw.cond_bool rfl (fun hc => ?_) (fun hc => ?_)) | fail)
      exact ⟨_, _, _, (Ent.mk goSub goTk), ⟨g ++ [(a, v)], _, _, _, _, rfl, ⟨hp2, hrow, by simp; omega⟩, rfl, rfl⟩, by omega⟩
    · have hrow := skipP g (a, v) hz
      rw [← hrows] at hrow
      repeat' (first | refine goH ?_ | (refine Ops.k_entry ?_; first | (refine Ops.entry rfl goPk rfl ?_)) | refine goV ?_ | refine goB (fun b => ?_) | refine goC (fun ad cap => ?_) | refine goI ?_ | (refine Cw.k_cond ?_; first | (refine Cw.cond_dec rfl (fun hc => ?_) (fun hc => ?_) <;> try (exfalso; omega)) | refine Cw.cond_bool rfl (fun hc => ?_) (fun hc => ?_)) | fail)
      exact ⟨_, _, _, (Ent.mk goSub goTk), ⟨g ++ [(a, v)], _, _, _, _, rfl, ⟨hp2, hrow, by simp; omega⟩, rfl, rfl⟩, by omega⟩
end Lg
end
