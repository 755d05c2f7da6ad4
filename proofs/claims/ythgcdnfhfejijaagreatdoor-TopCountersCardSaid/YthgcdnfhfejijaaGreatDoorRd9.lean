/- A part of the proof of a law of this seat: it adds no condition. By an AI agent. -/
import Derived.Test.YthgcdnfhfejijaaGreatDoorRd6
section
set_option linter.all false
set_option maxRecDepth 100000
set_option maxHeartbeats 8000000
namespace Lg
open Go Go.Proofs

theorem limE_bd {c t f a b : Int} (hm : mtrE c t f = 0) (ha : 0 ≤ a ∧ a < 5761440) (hb : 0 ≤ b ∧ b < 5761440) :
  (-9223372036854775808 ≤ f * (b / 1440 - a / 1440 + 1) ∧ f * (b / 1440 - a / 1440 + 1) ≤ 9223372036854775807) ∧ limE t f a b ≤ t - 1 ∧ -10000000000 ≤ limE t f a b := by
 obtain ⟨_, h2, h3, h4⟩ := mtrE_ok hm
 have h5 : -4000 ≤ b / 1440 - a / 1440 + 1 ∧ b / 1440 - a / 1440 + 1 ≤ 4002 := by omega
 unfold limE
 generalize b / 1440 - a / 1440 + 1 = d at *
 have h6 : f * d ≤ 1000000 * 4002 := by
  rcases Int.le_total 0 d with h | h
  ·exact Int.mul_le_mul (by omega) h5.2 h (by omega)
  ·have := Int.mul_nonpos_of_nonneg_of_nonpos (show 0 ≤ f by omega) h
   omega
 have h7 : -(1000000 * 4000) ≤ f * d := by
  rcases Int.le_total 0 d with h | h
  ·have := Int.mul_nonneg (show 0 ≤ f by omega) h
   omega
  ·have : f * (-d) ≤ 1000000 * 4000 := Int.mul_le_mul (by omega) (by omega) (by omega) (by omega)
   rw [Int.mul_neg] at this
   omega
 omega
theorem any_take {l : List Int} {p : Int → Bool} {k : Nat} {x : Int} (h : l[k]? = some x) : (l.take (k + 1)).any p = ((l.take k).any p || p x) := by
 rw [take_at h, List.any_append]
 simp
theorem intRows_nil : intRows [] = [] := rfl
theorem intRows_snoc (l : List Int) (x : Int) : intRows l ++ [[Tr.int x]] = intRows (l ++ [x]) := by rw [intRows_app]; rfl
attribute [local irreducible] intRows limE difE difL
theorem Fin.ent {P : Program} {Γ : Ctx} {env env1 : Env} {cs cs1 : List Chunk} {fn : Func} {post : Tr → List Chunk → Prop} {ex : Exit} (h : Ent Γ env cs env1 cs1) (k : Fin P fn Γ post ex env1 cs1) : Fin P fn Γ post ex env cs := by
 unfold Fin at k ⊢
 obtain ⟨h0, e2, c2, r, h1, h2, h3⟩ := k
 exact ⟨h0, e2, c2, r, h.trans h1, h2, h3⟩
theorem step_fn (c t f : Int) (hm : mtrE c t f = 0) (A B : Rdg) (ha : ROk c t A) (hb : ROk c t B) : PFn Tryz.prog 57 [.mtr c t f, .rdg A, .rdg B] (· = .agg (stpOf t f A B).row) := by
 obtain ⟨⟨hmul1, hmul2⟩, hlim1, hlim2⟩ := limE_bd hm ha.t0 hb.t0
 have hm2 := mtrE_ok hm
 obtain ⟨lim, hlim⟩ : ∃ lim, lim = limE t f A.t B.t := ⟨_, rfl⟩
 have hlimU : min (f * (B.t / 1440 - A.t / 1440 + 1)) (t - 1) = lim := by rw [hlim]; unfold limE; rfl
 rw [← hlim] at hlim1 hlim2
 have ht1 := ha.t0
 have ht2 := hb.t0
 obtain ⟨n, hn⟩ : ∃ n, n = B.vs.length := ⟨_, rfl⟩
 have hnb : Unit → B.vs.length = n := fun _ => hn.symm
 have hna : Unit → A.vs.length = n := fun _ => by have h1 := ha.n; have h2 := hb.n; omega
 have hn60 : n ≤ 60 := by have h2 := hb.n; omega
 have hAr := (intRows_len A.vs).trans (hna ())
 have hBr := (intRows_len B.vs).trans (hnb ())
 have hdl : (difL t A.vs B.vs).length = n := by rw [difL_len t (by rw [hna (), hnb ()])]; exact hna ()
 have kC := (clone_int (intRows B.vs) (intRows_k _) (by omega)).val
 have hP : stpOf t f A B = if (difL t A.vs B.vs).any (overB lim) = true then ⟨A.t, B.t, true, B.vs⟩ else ⟨A.t, B.t, false, difL t A.vs B.vs⟩ := by unfold stpOf; rw [hlim]
 clear hn hlim
 refine PFn.mk (Spec.body Tryz.func57 rfl rfl (Tryz.ntmps57) rfl fun w0 own0 M => ?_)
 repeat' (first | refine goH ?_ | (refine Ops.k_c_min ?_; first | (refine Ops.min2 rfl rfl rfl ?_; rw [hlimU])) | refine goV ?_ | refine goB (fun b => ?_) | refine goC (fun ad cap => ?_) | refine goI ?_ | (refine Cw.k_cond ?_; first | (refine Cw.cond_dec rfl ?_ ?_ <;> intro hc <;> try omega) | refine Cw.cond_bool rfl ?_ ?_ <;> intro hc) | refine goR ?_ | refine goP ?_ | apply PSeq.cons | apply PSeq.yes rfl rfl rfl | exact goW | fail)
 rename_i b3 b4 b5 b6
 refine Cw.loopI [(3, _), (4, _), (5, _), (6, _), (7, _), (8, _), (33, _), (34, _)] _ (fun q e cc => ∃ (k : Nat) (ds : List Int) (rows : List (List Tr)) (ad : Option Addr) (cap : Nat), q = n - k ∧ (k ≤ n ∧ ds = (difL t A.vs B.vs).take k ∧ ds.any (overB lim) = false ∧ rows = intRows ds ∧ rows.length = k) ∧ e = [(35, .int k)] ∧ cc = [Chunk.box b 91 [.int A.t, .int B.t, .bool false, Tr.raw (.slice ad k cap)], Chunk.own ad cap 1 3 rows])
  ⟨_, _, _, Ent.trans (Ent.nil 1 3) (Ent.mkP goSub goPm), 0, [], [], none, 0, rfl, ⟨by omega, rfl, rfl, intRows_nil.symm, rfl⟩, rfl, rfl⟩ ?_
 rintro _ _ _ ⟨k, ds, rows, ad, cap, rfl, ⟨hk, hds, hov, hrs, hdr⟩, rfl, rfl⟩
 by_cases hkl : k < n
 ·obtain ⟨x, hx⟩ := at_lt (l := A.vs) (k := k) (by rw [hna ()]; exact hkl)
  obtain ⟨y, hy⟩ := at_lt (l := B.vs) (k := k) (by rw [hnb ()]; exact hkl)
  have r1 := intRows_at hx
  have r2 := intRows_at hy
  have hxv := ha.v x (List.mem_of_getElem? hx)
  have hyv := hb.v y (List.mem_of_getElem? hy)
  have hd := difL_at t hx hy
  obtain ⟨d, hdd⟩ : ∃ d, d = difE t x y := ⟨_, rfl⟩
  have hdb : 0 ≤ d ∧ d < t := by rw [hdd]; exact difE_bd hxv hyv
  have hdc : (y - x < 0 ∧ d = y - x + t) ∨ (¬ y - x < 0 ∧ d = y - x) := by
   rw [hdd]
   unfold difE
   split
   ·exact .inl ⟨by assumption, rfl⟩
   ·exact .inr ⟨by assumption, rfl⟩
  rw [← hdd] at hd
  have hat := any_take (p := overB lim) hd
  rw [← hds, hov, Bool.false_or] at hat
  by_cases g : lim < d
  ·have e : overB lim d = true := decide_eq_true g
   have hall : (difL t A.vs B.vs).any (overB lim) = true := List.any_eq_true.2 ⟨d, List.mem_of_getElem? hd, e⟩
   rw [hP, if_pos hall]
   clear hP hall hat hds hd hdd
   rcases hdc with ⟨g1, g2⟩ | ⟨g1, g2⟩
   all_goals
    repeat' (first | refine goH ?_ | refine goV ?_ | refine goB (fun b => ?_) | refine goC (fun ad cap => ?_) | refine goI ?_ | (refine Cw.k_cond ?_; first | (refine Cw.cond_dec rfl ?_ ?_ <;> intro hc <;> try omega) | refine Cw.cond_bool rfl ?_ ?_ <;> intro hc) | (refine Ops.k_calla ?_; first | (refine Ops.k_callf 20 ?_; refine Ops.callV kC (Evs.cons rfl Evs.nil) rfl ?_)) | (apply OpW.k_call; first | (apply OpW.k_callf 20; exact OpW.callV kC (Evs.cons rfl Evs.nil))) | refine goR ?_ | refine goP ?_ | apply PSeq.cons | apply PSeq.yes rfl rfl rfl | exact goW | fail)
    refine Fin.ret (Ent.trans (Ent.setbox (s := 6) rfl goPk) (Ent.take goTk)) (Outs.sole rfl goOe) ⟨rfl, rfl⟩
  ·have e : overB lim d = false := decide_eq_false g
   rw [e] at hat
   have hds2 : ds ++ [d] = (difL t A.vs B.vs).take (k + 1) := by rw [take_at hd, hds]
   have hrs2 : rows ++ [[Tr.int d]] = intRows (ds ++ [d]) := by rw [hrs, intRows_snoc]
   have hdr2 : (rows ++ [[Tr.int d]]).length = k + 1 := by rw [List.length_append, hdr]; rfl
   rw [← hds2] at hat
   clear hP hds hd hdd hov hrs
   rcases hdc with ⟨g1, rfl⟩ | ⟨g1, rfl⟩
   all_goals
    repeat' (first | refine goH ?_ | refine goV ?_ | refine goB (fun b => ?_) | refine goC (fun ad cap => ?_) | refine goI ?_ | (refine Cw.k_cond ?_; first | (refine Cw.cond_dec rfl ?_ ?_ <;> intro hc <;> try omega) | refine Cw.cond_bool rfl ?_ ?_ <;> intro hc) | refine goR ?_ | refine goP ?_ | apply PSeq.cons | apply PSeq.yes rfl rfl rfl | exact goW | fail)
    rw [hdr2]
    exact ⟨_, _, _, (Ent.mk goSub goTk), ⟨k + 1, ds ++ [_], _, _, _, rfl, ⟨by omega, hds2, hat, hrs2, hdr2⟩, rfl, rfl⟩, by omega⟩
 ·have hkn : k = n := by omega
  have hdf : ds = difL t A.vs B.vs := by rw [hds, List.take_of_length_le (by omega)]
  rw [hP, if_neg (by rw [← hdf, hov]; decide), ← hdf]
  clear hP hds hdf
  subst hrs
  repeat' (first | refine goH ?_ | refine goV ?_ | refine goB (fun b => ?_) | refine goC (fun ad cap => ?_) | refine goI ?_ | (refine Cw.k_cond ?_; first | (refine Cw.cond_dec rfl ?_ ?_ <;> intro hc <;> try omega) | refine Cw.cond_bool rfl ?_ ?_ <;> intro hc) | refine goR ?_ | refine goP ?_ | apply PSeq.cons | apply PSeq.yes rfl rfl rfl | exact goW | fail)
  refine Fin.ent (Ent.settle_box (b := b6) (i := 3) (ad := ad) (kk := 1) (rows := intRows ds) (by exact Perm.cons' goPk (Perm.cons' goPk (List.Perm.refl _))) rfl hdr.symm rfl) ?_
  refine Fin.ret (Ent.trans (Ent.setbox (s := 6) rfl goPk) (Ent.take goTk)) (Outs.sole rfl goOe) ⟨rfl, rfl⟩
end Lg
end
section
set_option linter.all false
set_option maxRecDepth 100000
set_option maxHeartbeats 8000000
namespace Lg
open Go Go.Proofs

attribute [local irreducible] intRows limE difE difL stpsOf

end Lg
end
section
set_option linter.all false
set_option maxRecDepth 100000
set_option maxHeartbeats 8000000
namespace Lg
open Go Go.Proofs

def stsO (t f : Int) (D : List Rdg) (e : Int) : Tr := if e = 0 then .tup [.sl 4 ((stpsOf t f D).map Stp.row), .int 0] else .tup [.sl 4 [], .int e]
theorem Stp.eta (s : Stp) : s.row = [.int s.a, .int s.b, .bool s.r, .ints s.s] := rfl
attribute [local irreducible] intRows limE difE difL stpsOf stpOf srtO
theorem steps_fn (c t f : Int) (l : List Rdg) (hl : l.length ≤ 12) (hv : ∀ r ∈ l, r.vs.length ≤ 1000) (ht : -1000000000000 ≤ t ∧ t ≤ 1000000000000) {D : List Rdg} {e : Int} (hs : srtO c t f l = .tup [.sl 2 (D.map Rdg.row), .int e]) (h0 : e = 0 → mtrE c t f = 0 ∧ (∀ r ∈ D, ROk c t r) ∧ D.length ≤ l.length) : PFn Tryz.prog 29 [.mtr c t f, .sl 2 (l.map Rdg.row)] (· = stsO t f D e) := by
 have k1 := sort_fn c t f l hl hv ht
 rw [hs] at k1
 clear hs
 unfold stsO
 refine PFn.mk (Spec.body Tryz.func29 rfl rfl (Tryz.ntmps29) rfl fun w0 own0 M => ?_)
 by_cases he : e = 0
 rotate_left
 ·rw [if_neg he]
  repeat' (first | refine goH ?_ | refine goV ?_ | refine goB (fun b => ?_) | refine goC (fun ad cap => ?_) | refine goI ?_ | (refine Cw.k_cond ?_; first | (refine Cw.cond_dec rfl ?_ ?_ <;> intro hc <;> try omega) | refine Cw.cond_bool rfl ?_ ?_ <;> intro hc) | (refine Ops.k_calla ?_; first | (refine Ops.k_callf 56 ?_; refine Ops.callV k1 (Evs.cons rfl (Evs.cons rfl Evs.nil)) rfl ?_)) | (apply OpW.k_call; first | (apply OpW.k_callf 56; exact OpW.callV k1 (Evs.cons rfl (Evs.cons rfl Evs.nil)))) | refine goR ?_ | refine goP ?_ | apply PSeq.cons | apply PSeq.yes rfl rfl rfl | exact goW | fail)
  refine Fin.ret (Ent.trans (Ent.nilsl 4 (s := 4) rfl) (Ent.take goTk)) (Outs.many rfl (OutL.cons goOe (OutL.cons goOe OutL.nil)) rfl) ⟨rfl, rfl⟩
 rw [if_pos he]
 obtain ⟨hm, hD, hDl⟩ := h0 he
 subst he
 have hDL : (D.map Rdg.row).length = D.length := List.length_map _
 have hsl := stpsOf_len t f D
 obtain ⟨S, hS⟩ : ∃ S, S = stpsOf t f D := ⟨_, rfl⟩
 rw [← hS] at hsl ⊢
 repeat' (first | refine goH ?_ | refine goV ?_ | refine goB (fun b => ?_) | refine goC (fun ad cap => ?_) | refine goI ?_ | (refine Cw.k_cond ?_; first | (refine Cw.cond_dec rfl ?_ ?_ <;> intro hc <;> try omega) | refine Cw.cond_bool rfl ?_ ?_ <;> intro hc) | (refine Ops.k_calla ?_; first | (refine Ops.k_callf 56 ?_; refine Ops.callV k1 (Evs.cons rfl (Evs.cons rfl Evs.nil)) rfl ?_)) | (apply OpW.k_call; first | (apply OpW.k_callf 56; exact OpW.callV k1 (Evs.cons rfl (Evs.cons rfl Evs.nil)))) | refine goR ?_ | refine goP ?_ | apply PSeq.cons | apply PSeq.yes rfl rfl rfl | exact goW | fail)
 rename Nat => b2
 refine Cw.loopI [(2, _), (6, _)] _ (fun q e cc => ∃ (i : Nat) (rows : List (List Tr)) (ad : Option Addr) (cap : Nat) (n5 : Nat), q = D.length - i ∧ (1 ≤ i ∧ (i ≤ D.length ∨ i = 1) ∧ n5 = i - 1 ∧ rows = (S.take n5).map Stp.row ∧ rows.length = n5) ∧ e = [(8, Tr.raw (.slice ad n5 cap)), (9, .int i)] ∧ cc = [Chunk.own ad cap 4 91 rows])
  ⟨_, _, _, Ent.trans (Ent.nil 4 91) (Ent.mkP goSub goPm), 1, [], none, 0, 0, rfl, ⟨by omega, .inr rfl, rfl, rfl, rfl⟩, rfl, rfl⟩ ?_
 rintro _ _ _ ⟨i, rows, ad, cap, n5, rfl, ⟨hi1, hi2, hn5, hrs, hrl⟩, rfl, rfl⟩
 by_cases hil : i < D.length
 rotate_left
 ·have hfin : rows = S.map Stp.row := by rw [hrs, List.take_of_length_le (by omega)]
  rw [← hfin]
  subst hrl
  clear hrs hfin
  repeat' (first | refine goH ?_ | refine goV ?_ | refine goB (fun b => ?_) | refine goC (fun ad cap => ?_) | refine goI ?_ | (refine Cw.k_cond ?_; first | (refine Cw.cond_dec rfl ?_ ?_ <;> intro hc <;> try omega) | refine Cw.cond_bool rfl ?_ ?_ <;> intro hc) | refine goR ?_ | refine goP ?_ | apply PSeq.cons | apply PSeq.yes rfl rfl rfl | exact goW | fail)
  refine Fin.ret (Ent.trans (Ent.settle (s := 4) rfl goPk rfl) (Ent.take goTk)) (Outs.many rfl (OutL.cons goOe (OutL.cons goOe OutL.nil)) rfl) ⟨rfl, rfl⟩
 obtain ⟨A, hA⟩ := at_lt (l := D) (k := i - 1) (by omega)
 obtain ⟨B, hB⟩ := at_lt hil
 have ha := hD A (List.mem_of_getElem? hA)
 have hb := hD B (List.mem_of_getElem? hB)
 have hSk := stpsOf_at t f hA (by rw [show i - 1 + 1 = i by omega]; exact hB)
 rw [← hS, ← hn5] at hSk
 have rA : (D.map Rdg.row)[((i : Int) - 1).toNat]? = some [.int A.t, .ints A.vs] := rows_at (by rw [show ((i : Int) - 1).toNat = i - 1 by omega]; exact hA)
 have rB : (D.map Rdg.row)[((i : Nat) : Int).toNat]? = some [.int B.t, .ints B.vs] := rows_at (by rw [Int.toNat_natCast]; exact hB)
 have kS := step_fn c t f hm A B ha hb
 obtain ⟨s, hs⟩ : ∃ s, s = stpOf t f A B := ⟨_, rfl⟩
 rw [← hs] at kS hSk
 rw [Stp.eta] at kS
 have hq : rows ++ [[Tr.int s.a, Tr.int s.b, Tr.bool s.r, Tr.ints s.s]] = (S.take (n5 + 1)).map Stp.row := by
  rw [take_at hSk, List.map_append, ← hrs]
  rfl
 have hq2 : (rows ++ [[Tr.int s.a, Tr.int s.b, Tr.bool s.r, Tr.ints s.s]]).length = n5 + 1 := by rw [List.length_append, hrl]; rfl
 clear hrs hSk hS hs
 repeat' (first | refine goH ?_ | refine goV ?_ | refine goB (fun b => ?_) | refine goC (fun ad cap => ?_) | refine goI ?_ | (refine Cw.k_cond ?_; first | (refine Cw.cond_dec rfl ?_ ?_ <;> intro hc <;> try omega) | refine Cw.cond_bool rfl ?_ ?_ <;> intro hc) | fail)
 first | refine Cw.region_YP (fun ξ S => stg (S 13) (Chunk.own ad cap 4 91 rows) (ownV (ξ 13) 4 91 (rows ++ [[Tr.int s.a, Tr.int s.b, Tr.bool s.r, Tr.ints s.s]])) :: Chunk.box b2 39 [.int c, .int t, .int f] :: []) rfl (by decide +kernel) rfl ((fun (ξ : Nat → Value) (S : Nat → Bool) => stg (S 13) (Chunk.own ad cap 4 91 rows) (ownV (ξ 13) 4 91 (rows ++ [[Tr.int s.a, Tr.int s.b, Tr.bool s.r, Tr.ints s.s]])) :: Chunk.box b2 39 [.int c, .int t, .int f] :: []) (fun _ => undef) (fun _ => false)) (by simp only [upd_same, updD_same, upd_ne, updD_ne, ne_eq, Nat.reduceEqDiff, not_false_eq_true, stg_t, stg_f, vAd_s, vCap_s, blk_p, List.cons_append, List.nil_append, b2n_t, b2n_f]; exact goXm) (fun _ => rfl) ?_ | fail
 apply YSeq.w (by intro _ _ _; rfl)
 ·intro ξ S h1 h2 h3 h4
  have hN0_13 := closed_false h1 h3 (k := 13) rfl (by decide)
  try simp only [upd_same, updD_same, upd_ne, updD_ne, ne_eq, Nat.reduceEqDiff, not_false_eq_true, stg_t, stg_f, vAd_s, vCap_s, blk_p, List.cons_append, List.nil_append, b2n_t, b2n_f, hN0_13]
  exact goW
 ·intro ξ v; rfl
 ·intro ξ k v S h3 hn hk
  first
  |rfl
 apply YSeq.w (by intro _ _ _; rfl)
 ·intro ξ S h1 h2 h3 h4
  have hN1_11 := closed_false h1 h3 (k := 11) rfl (by decide)
  have hN1_13 := closed_false hN1_11 h3 (k := 13) rfl (by decide)
  try simp only [upd_same, updD_same, upd_ne, updD_ne, ne_eq, Nat.reduceEqDiff, not_false_eq_true, stg_t, stg_f, vAd_s, vCap_s, blk_p, List.cons_append, List.nil_append, b2n_t, b2n_f, hN1_13]
  exact goW
 ·intro ξ v; rfl
 ·intro ξ k v S h3 hn hk
  first
  |rfl
 apply YSeq.w (by intro _ _ _; rfl)
 ·intro ξ S h1 h2 h3 h4
  have hN2_5 := closed_false h1 h3 (k := 5) rfl (by decide)
  have hN2_6 := closed_false hN2_5 h3 (k := 6) rfl (by decide)
  have hN2_11 := closed_false hN2_6 h3 (k := 11) rfl (by decide)
  have hN2_13 := closed_false hN2_11 h3 (k := 13) rfl (by decide)
  try simp only [upd_same, updD_same, upd_ne, updD_ne, ne_eq, Nat.reduceEqDiff, not_false_eq_true, stg_t, stg_f, vAd_s, vCap_s, blk_p, List.cons_append, List.nil_append, b2n_t, b2n_f, hN2_13]
  exact goW
 ·intro ξ v; rfl
 ·intro ξ k v S h3 hn hk
  first
  |rfl
 apply YSeq.w (by intro _ _ _; rfl)
 ·intro ξ S h1 h2 h3 h4
  have hN3_4 := closed_false h1 h3 (k := 4) rfl (by decide)
  have hN3_5 := closed_false hN3_4 h3 (k := 5) rfl (by decide)
  have hN3_6 := closed_false hN3_5 h3 (k := 6) rfl (by decide)
  have hN3_11 := closed_false hN3_6 h3 (k := 11) rfl (by decide)
  have hN3_13 := closed_false hN3_11 h3 (k := 13) rfl (by decide)
  try simp only [upd_same, updD_same, upd_ne, updD_ne, ne_eq, Nat.reduceEqDiff, not_false_eq_true, stg_t, stg_f, vAd_s, vCap_s, blk_p, List.cons_append, List.nil_append, b2n_t, b2n_f, hN3_13]
  exact goW
 ·intro ξ v; rfl
 ·intro ξ k v S h3 hn hk
  first
  |rfl
 apply YSeq.w (by intro _ _ _; rfl)
 ·intro ξ S h1 h2 h3 h4
  have hN4_5 := closed_false h1 h3 (k := 5) rfl (by decide)
  have hN4_6 := closed_false hN4_5 h3 (k := 6) rfl (by decide)
  have hN4_11 := closed_false hN4_6 h3 (k := 11) rfl (by decide)
  have hN4_13 := closed_false hN4_11 h3 (k := 13) rfl (by decide)
  try simp only [upd_same, updD_same, upd_ne, updD_ne, ne_eq, Nat.reduceEqDiff, not_false_eq_true, stg_t, stg_f, vAd_s, vCap_s, blk_p, List.cons_append, List.nil_append, b2n_t, b2n_f, hN4_13]
  exact goW
 ·intro ξ v; rfl
 ·intro ξ k v S h3 hn hk
  first
  |rfl
 apply YSeq.w (by intro _ _ _; rfl)
 ·intro ξ S h1 h2 h3 h4
  have hN5_6 := closed_false h1 h3 (k := 6) rfl (by decide)
  have hN5_11 := closed_false hN5_6 h3 (k := 11) rfl (by decide)
  have hN5_13 := closed_false hN5_11 h3 (k := 13) rfl (by decide)
  try simp only [upd_same, updD_same, upd_ne, updD_ne, ne_eq, Nat.reduceEqDiff, not_false_eq_true, stg_t, stg_f, vAd_s, vCap_s, blk_p, List.cons_append, List.nil_append, b2n_t, b2n_f, hN5_13]
  exact goW
 ·intro ξ v; rfl
 ·intro ξ k v S h3 hn hk
  first
  |rfl
 apply YSeq.w (by intro _ _ _; rfl)
 ·intro ξ S h1 h2 h3 h4
  have hN6_11 := closed_false h1 h3 (k := 11) rfl (by decide)
  have hN6_13 := closed_false hN6_11 h3 (k := 13) rfl (by decide)
  try simp only [upd_same, updD_same, upd_ne, updD_ne, ne_eq, Nat.reduceEqDiff, not_false_eq_true, stg_t, stg_f, vAd_s, vCap_s, blk_p, List.cons_append, List.nil_append, b2n_t, b2n_f, hN6_13]
  exact goW
 ·intro ξ v; rfl
 ·intro ξ k v S h3 hn hk
  first
  |rfl
 apply YSeq.w (by intro _ _ _; rfl)
 ·intro ξ S h1 h2 h3 h4
  have hN7_9 := closed_false h1 h3 (k := 9) rfl (by decide)
  have hN7_10 := closed_false hN7_9 h3 (k := 10) rfl (by decide)
  have hN7_11 := closed_false hN7_10 h3 (k := 11) rfl (by decide)
  have hN7_13 := closed_false hN7_11 h3 (k := 13) rfl (by decide)
  try simp only [upd_same, updD_same, upd_ne, updD_ne, ne_eq, Nat.reduceEqDiff, not_false_eq_true, stg_t, stg_f, vAd_s, vCap_s, blk_p, List.cons_append, List.nil_append, b2n_t, b2n_f, hN7_13]
  exact goW
 ·intro ξ v; rfl
 ·intro ξ k v S h3 hn hk
  first
  |rfl
 apply YSeq.w (by intro _ _ _; rfl)
 ·intro ξ S h1 h2 h3 h4
  have hN8_9 := closed_false h1 h3 (k := 9) rfl (by decide)
  have hN8_10 := closed_false hN8_9 h3 (k := 10) rfl (by decide)
  have hN8_11 := closed_false hN8_10 h3 (k := 11) rfl (by decide)
  have hN8_13 := closed_false hN8_11 h3 (k := 13) rfl (by decide)
  try simp only [upd_same, updD_same, upd_ne, updD_ne, ne_eq, Nat.reduceEqDiff, not_false_eq_true, stg_t, stg_f, vAd_s, vCap_s, blk_p, List.cons_append, List.nil_append, b2n_t, b2n_f, hN8_13]
  exact goW
 ·intro ξ v; rfl
 ·intro ξ k v S h3 hn hk
  first
  |rfl
 apply YSeq.w (by intro _ _ _; rfl)
 ·intro ξ S h1 h2 h3 h4
  have hN9_10 := closed_false h1 h3 (k := 10) rfl (by decide)
  have hN9_11 := closed_false hN9_10 h3 (k := 11) rfl (by decide)
  have hN9_13 := closed_false hN9_11 h3 (k := 13) rfl (by decide)
  try simp only [upd_same, updD_same, upd_ne, updD_ne, ne_eq, Nat.reduceEqDiff, not_false_eq_true, stg_t, stg_f, vAd_s, vCap_s, blk_p, List.cons_append, List.nil_append, b2n_t, b2n_f, hN9_13]
  exact goW
 ·intro ξ v; rfl
 ·intro ξ k v S h3 hn hk
  first
  |rfl
 apply YSeq.w (by intro _ _ _; rfl)
 ·intro ξ S h1 h2 h3 h4
  have hN10_11 := closed_false h1 h3 (k := 11) rfl (by decide)
  have hN10_13 := closed_false hN10_11 h3 (k := 13) rfl (by decide)
  try simp only [upd_same, updD_same, upd_ne, updD_ne, ne_eq, Nat.reduceEqDiff, not_false_eq_true, stg_t, stg_f, vAd_s, vCap_s, blk_p, List.cons_append, List.nil_append, b2n_t, b2n_f, hN10_13]
  exact goW
 ·intro ξ v; rfl
 ·intro ξ k v S h3 hn hk
  first
  |rfl
 apply YSeq.callV (by intro _ _ _; rfl)
 ·intro ξ S h1 h2 h3 h4
  have hN11_13 := closed_false h1 h3 (k := 13) rfl (by decide)
  try simp only [upd_same, updD_same, upd_ne, updD_ne, ne_eq, Nat.reduceEqDiff, not_false_eq_true, stg_t, stg_f, vAd_s, vCap_s, blk_p, List.cons_append, List.nil_append, b2n_t, b2n_f, hN11_13]
  exact ⟨_, (Evs.cons rfl (Evs.cons rfl (Evs.cons rfl Evs.nil))), kS⟩
 ·intro ξ v; rfl
 ·intro ξ k v S h3 hn hk
  first
  |rfl
 apply YSeq.w (by intro _ _ _; rfl)
 ·intro ξ S h1 h2 h3 h4
  have hN12_13 := closed_false h1 h3 (k := 13) rfl (by decide)
  try simp only [upd_same, updD_same, upd_ne, updD_ne, ne_eq, Nat.reduceEqDiff, not_false_eq_true, stg_t, stg_f, vAd_s, vCap_s, blk_p, List.cons_append, List.nil_append, b2n_t, b2n_f, hN12_13]
  exact goW
 ·intro ξ v; rfl
 ·intro ξ k v S h3 hn hk
  first
  |rfl
 apply YSeq.append (n5 + 1)
 ·intro ξ S h1 h2 h3 h4
  simp only [upd_same, updD_same, upd_ne, updD_ne, ne_eq, Nat.reduceEqDiff, not_false_eq_true, stg_t, stg_f, vAd_s, vCap_s, blk_p, List.cons_append, List.nil_append, b2n_t, b2n_f, h1]
  refine ⟨_, _, _, _, _, _, rfl, rfl, goXp, (by first | rfl | (simp; done) | omega), (by first | rfl | omega | (simp; done) | (simp; omega)), (by first | omega | (simp; done) | (simp; omega)), (by first | omega | (simp; done) | (simp; omega)), fun ad' cap' => ?_⟩
  exact goXm
 apply YSeq.w (by intro _ _ _; rfl)
 ·intro ξ S h1 h2 h3 h4
  have hY14_13 : S 13 = true := h2 13 (by decide)
  try simp only [upd_same, updD_same, upd_ne, updD_ne, ne_eq, Nat.reduceEqDiff, not_false_eq_true, stg_t, stg_f, vAd_s, vCap_s, blk_p, List.cons_append, List.nil_append, b2n_t, b2n_f, hY14_13]
  exact goW
 ·intro ξ v; rfl
 ·intro ξ k v S h3 hn hk
  first
  |rfl
  |skip
   have hY14_13 : S 13 = true := h3 14 _ rfl hn 13 (by decide)
   simp only [upd_S hY14_13 hk]
 refine YSeq.nil fun ξ hf => ?_
 refine ⟨[(2, _), (6, _), (8, _), (9, _)], _, Ent.trans (Ent.eqc rfl (by first | (simp only [upd_same, updD_same, upd_ne, updD_ne, ne_eq, Nat.reduceEqDiff, not_false_eq_true, stg_t, stg_f, vAd_s, vCap_s, blk_p, List.cons_append, List.nil_append, b2n_t, b2n_f, ownV, slV, ptV] <;> rfl) | rfl)) (Ent.sub goSub), ?_⟩
 clear hf
 generalize vAd (ξ 13) = ad38
 generalize vCap (ξ 13) = cap38
 repeat' (first | refine goH ?_ | refine goV ?_ | refine goB (fun b => ?_) | refine goC (fun ad cap => ?_) | refine goI ?_ | (refine Cw.k_cond ?_; first | (refine Cw.cond_dec rfl ?_ ?_ <;> intro hc <;> try omega) | refine Cw.cond_bool rfl ?_ ?_ <;> intro hc) | refine goR ?_ | refine goP ?_ | apply PSeq.cons | apply PSeq.yes rfl rfl rfl | exact goW | fail)
 exact ⟨_, _, _, (Ent.mk goSub goTk), ⟨i + 1, _, _, _, n5 + 1, rfl, ⟨by omega, by omega, by omega, hq, hq2⟩, rfl, rfl⟩, by omega⟩
end Lg
end
