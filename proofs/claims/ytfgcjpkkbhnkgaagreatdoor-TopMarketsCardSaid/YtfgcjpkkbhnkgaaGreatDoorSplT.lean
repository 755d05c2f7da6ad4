/- A part of the proof of a law of this seat: it adds no condition. By an AI agent. -/
import Derived.Shelf.Strings.Search3
import Derived.Shelf.Strings.Count
import Derived.Test.YtfgcjpkkbhnkgaaGreatDoorLgSpl
import Derived.Test.YtfgcjpkkbhnkgaaGreatDoorOrdP
section
set_option linter.all false
set_option maxRecDepth 100000
set_option maxHeartbeats 8000000
namespace Lg
open Go Go.Proofs

attribute [local irreducible] intRows idL
theorem orderO_gen (n : Nat) (hn : n ≤ 12) : GenO Tryz.prog 25 10 [.int n] 14 1 3 (fun rows => ∃ l : List Int, rows = intRows l ∧ l.Perm (idL n)) := by
 unfold GenO
 intro bs xs N hN
 refine Spec.body Tryz.func10 rfl rfl (Tryz.ntmps10) rfl fun w0 own0 M => ?_
 repeat' (first | refine goH ?_ | refine goV ?_ | refine goC (fun ad cap => ?_) | refine goI ?_ | (refine Cw.k_cond ?_; first | (refine Cw.cond_dec rfl ?_ ?_ <;> intro hc <;> try omega) | refine Cw.cond_bool rfl ?_ ?_ <;> intro hc) | refine goR ?_ | refine goP ?_ | apply PSeq.cons | apply PSeq.yes rfl rfl rfl | exact goW | fail)
 refine Cw.loopI [(0, _), (1, _), (9, _)] _ (fun q e cc => ∃ (k : Nat) (rows : List (List Tr)) (ad : Option Addr) (cap : Nat), q = n - k ∧ (k ≤ n ∧ rows = intRows (idL k) ∧ rows.length = k) ∧ e = [(5, Tr.raw (.slice ad k cap)), (10, .int k)] ∧ cc = [Chunk.own ad cap 1 3 rows])
  ⟨_, _, _, Ent.trans (Ent.nil 1 3) (Ent.mkP goSub goPm), 0, [], none, 0, rfl, ⟨by omega, by rw [show idL 0 = [] by unfold idL; rfl]; exact intRowsP_nil.symm, rfl⟩, rfl, rfl⟩ ?_
 rintro _ _ _ ⟨k, rows, ad, cap, rfl, ⟨hk, hrs, hrl⟩, rfl, rfl⟩
 by_cases hkl : k < n
 ·have hrs2 : rows ++ [[Tr.int k]] = intRows (idL (k + 1)) := by rw [hrs, intRowsP_snoc, idL_succ]
  have hrl2 : (rows ++ [[Tr.int k]]).length = k + 1 := by rw [List.length_append, hrl]; rfl
  clear hrs
  repeat' (first | refine goH ?_ | refine goV ?_ | refine goC (fun ad cap => ?_) | refine goI ?_ | (refine Cw.k_cond ?_; first | (refine Cw.cond_dec rfl ?_ ?_ <;> intro hc <;> try omega) | refine Cw.cond_bool rfl ?_ ?_ <;> intro hc) | refine goR ?_ | refine goP ?_ | apply PSeq.cons | apply PSeq.yes rfl rfl rfl | exact goW | fail)
  erw [hrl2]
  exact ⟨_, _, _, (Ent.mk goSub goTk), ⟨k + 1, _, _, _, rfl, ⟨by omega, hrs2, hrl2⟩, rfl, rfl⟩, by omega⟩
 have hkn : k = n := by omega
 subst hkn
 subst hrs
 have hll := idL_len k
 have hP := List.Perm.refl (idL k)
 generalize hL0 : idL k = L0 at *
 clear hkl hk
 repeat' (first | refine goH ?_ | refine goV ?_ | refine goC (fun ad cap => ?_) | refine goI ?_ | (refine Cw.k_cond ?_; first | (refine Cw.cond_dec rfl ?_ ?_ <;> intro hc <;> try omega) | refine Cw.cond_bool rfl ?_ ?_ <;> intro hc) | refine goR ?_ | refine goP ?_ | apply PSeq.cons | apply PSeq.yes rfl rfl rfl | exact goW | fail)
 refine Cw.loopI [(0, _), (5, _)] _ (fun q e cc => ∃ (i : Int) (l : List Int) (c : Nat), q = i.toNat ∧ ((-1 ≤ i ∧ i < k) ∧ (intRows l).length = k ∧ l.length = k ∧ l.Perm L0 ∧ c + i ≤ N + k) ∧ e = [(7, .int i)] ∧ cc = [Chunk.own ad cap 1 3 (intRows l), Chunk.strm 25 bs (intRows xs) c])
  ⟨_, _, _, (Ent.mkP goSub goPm), (k : Int) - 1, L0, N, rfl, ⟨by omega, hrl, hll, hP, by omega⟩, rfl, rfl⟩ ?_
 clear hrl hll hP
 rintro _ _ _ ⟨i, l, c, rfl, ⟨hi, hrl, hll2, hPl, hc⟩, rfl, rfl⟩
 by_cases hi0 : 0 < i
 rotate_left
 ·repeat' (first | refine goH ?_ | refine goV ?_ | refine goC (fun ad cap => ?_) | refine goI ?_ | (refine Cw.k_cond ?_; first | (refine Cw.cond_dec rfl ?_ ?_ <;> intro hc <;> try omega) | refine Cw.cond_bool rfl ?_ ?_ <;> intro hc) | refine goR ?_ | refine goP ?_ | apply PSeq.cons | apply PSeq.yes rfl rfl rfl | exact goW | fail)
  rw [← hrl]
  exact Fin.ret (Ent.trans (Ent.take (Take.cons goPk (Take.cons goPk Take.nil))) (Ent.trans (Ent.perm (List.Perm.swap _ _ _)) (Ent.trans (Ent.more_strm (show c ≤ N + 14 by omega)) (Ent.perm (List.Perm.swap _ _ _))))) (Outs.one rfl rfl) ⟨ad, cap, intRows l, rfl, rfl, l, rfl, by first | exact hPl | (rw [hrl, hL0]; exact hPl)⟩
 repeat' (first | refine goH ?_ | refine goV ?_ | refine goC (fun ad cap => ?_) | refine goI ?_ | (refine Cw.k_cond ?_; first | (refine Cw.cond_dec rfl ?_ ?_ <;> intro hc <;> try omega) | refine Cw.cond_bool rfl ?_ ?_ <;> intro hc) | (refine Ops.k_calla ?_; first | (refine Ops.k_callf 6 ?_; (refine Ops.callG (next_gen _ (by omega)) (Evs.cons rfl (Evs.cons rfl Evs.nil)) goPk (by omega) rfl ?_; rintro r ⟨j, rfl, hj⟩; unfold InRange at hj))) | fail)
 obtain ⟨x, hx⟩ := at_lt (l := l) (k := i.toNat) (by omega)
 obtain ⟨y, hy⟩ := at_lt (l := l) (k := j.toNat) (by omega)
 have r1 := intRows_at hx
 have r2 := intRows_at hy
 have r3 : ((intRows l).set i.toNat [Tr.int y])[j.toNat]? = some [Tr.int y] := by
  rw [intP_set]
  refine intRows_at ?_
  rw [List.getElem?_set]
  by_cases h : i.toNat = j.toNat
  ·rw [if_pos h, if_pos (by omega)]
  ·rw [if_neg h]; exact hy
 first | refine Cw.region_YP (fun ξ S => Chunk.strm 25 bs (intRows xs) (c + 1) :: Chunk.own ad cap 1 3 (stg (S 15) (stg (S 13) (intRows l) ((intRows l).set i.toNat [.int y])) (((intRows l).set i.toNat [.int y]).set j.toNat [.int x])) :: []) rfl (by decide +kernel) rfl ((fun (ξ : Nat → Value) (S : Nat → Bool) => Chunk.strm 25 bs (intRows xs) (c + 1) :: Chunk.own ad cap 1 3 (stg (S 15) (stg (S 13) (intRows l) ((intRows l).set i.toNat [.int y])) (((intRows l).set i.toNat [.int y]).set j.toNat [.int x])) :: []) (fun _ => undef) (fun _ => false)) (by simp only [upd_same, updD_same, upd_ne, updD_ne, ne_eq, Nat.reduceEqDiff, not_false_eq_true, stg_t, stg_f, vAd_s, vCap_s, blk_p, List.cons_append, List.nil_append, b2n_t, b2n_f]; exact goXm) (fun _ => rfl) ?_ | fail
 apply YSeq.w (by intro _ _ _; rfl)
 ·intro ξ S h1 h2 h3 h4
  have hN0_13 := closed_false h1 h3 (k := 13) rfl (by decide)
  have hN0_15 := closed_false h1 h3 (k := 15) rfl (by decide)
  try simp only [upd_same, updD_same, upd_ne, updD_ne, ne_eq, Nat.reduceEqDiff, not_false_eq_true, stg_t, stg_f, vAd_s, vCap_s, blk_p, List.cons_append, List.nil_append, b2n_t, b2n_f, hN0_13, hN0_15]
  exact goW
 ·intro ξ v; rfl
 ·intro ξ k v S h3 hn hk
  first
  |rfl
 apply YSeq.w (by intro _ _ _; rfl)
 ·intro ξ S h1 h2 h3 h4
  have hN1_13 := closed_false h1 h3 (k := 13) rfl (by decide)
  have hN1_15 := closed_false h1 h3 (k := 15) rfl (by decide)
  try simp only [upd_same, updD_same, upd_ne, updD_ne, ne_eq, Nat.reduceEqDiff, not_false_eq_true, stg_t, stg_f, vAd_s, vCap_s, blk_p, List.cons_append, List.nil_append, b2n_t, b2n_f, hN1_13, hN1_15]
  exact goW
 ·intro ξ v; rfl
 ·intro ξ k v S h3 hn hk
  first
  |rfl
 apply YSeq.w (by intro _ _ _; rfl)
 ·intro ξ S h1 h2 h3 h4
  have hN2_15 := closed_false h1 h3 (k := 15) rfl (by decide)
  try simp only [upd_same, updD_same, upd_ne, updD_ne, ne_eq, Nat.reduceEqDiff, not_false_eq_true, stg_t, stg_f, vAd_s, vCap_s, blk_p, List.cons_append, List.nil_append, b2n_t, b2n_f, hN2_15]
  exact goW
 ·intro ξ v; rfl
 ·intro ξ k v S h3 hn hk
  first
  |rfl
 apply YSeq.w (by intro _ _ _; rfl)
 ·intro ξ S h1 h2 h3 h4
  have hN3_15 := closed_false h1 h3 (k := 15) rfl (by decide)
  try simp only [upd_same, updD_same, upd_ne, updD_ne, ne_eq, Nat.reduceEqDiff, not_false_eq_true, stg_t, stg_f, vAd_s, vCap_s, blk_p, List.cons_append, List.nil_append, b2n_t, b2n_f, hN3_15]
  exact goW
 ·intro ξ v; rfl
 ·intro ξ k v S h3 hn hk
  first
  |rfl
 apply YSeq.w (by intro _ _ _; rfl)
 ·intro ξ S h1 h2 h3 h4
  have hN4_13 := closed_false h1 h3 (k := 13) rfl (by decide)
  have hN4_15 := closed_false h1 h3 (k := 15) rfl (by decide)
  try simp only [upd_same, updD_same, upd_ne, updD_ne, ne_eq, Nat.reduceEqDiff, not_false_eq_true, stg_t, stg_f, vAd_s, vCap_s, blk_p, List.cons_append, List.nil_append, b2n_t, b2n_f, hN4_13, hN4_15]
  exact goW
 ·intro ξ v; rfl
 ·intro ξ k v S h3 hn hk
  first
  |rfl
 apply YSeq.w (by intro _ _ _; rfl)
 ·intro ξ S h1 h2 h3 h4
  have hN5_13 := closed_false h1 h3 (k := 13) rfl (by decide)
  have hN5_15 := closed_false h1 h3 (k := 15) rfl (by decide)
  try simp only [upd_same, updD_same, upd_ne, updD_ne, ne_eq, Nat.reduceEqDiff, not_false_eq_true, stg_t, stg_f, vAd_s, vCap_s, blk_p, List.cons_append, List.nil_append, b2n_t, b2n_f, hN5_13, hN5_15]
  exact goW
 ·intro ξ v; rfl
 ·intro ξ k v S h3 hn hk
  first
  |rfl
 apply YSeq.w (by intro _ _ _; rfl)
 ·intro ξ S h1 h2 h3 h4
  have hN6_13 := closed_false h1 h3 (k := 13) rfl (by decide)
  have hN6_15 := closed_false h1 h3 (k := 15) rfl (by decide)
  try simp only [upd_same, updD_same, upd_ne, updD_ne, ne_eq, Nat.reduceEqDiff, not_false_eq_true, stg_t, stg_f, vAd_s, vCap_s, blk_p, List.cons_append, List.nil_append, b2n_t, b2n_f, hN6_13, hN6_15]
  exact goW
 ·intro ξ v; rfl
 ·intro ξ k v S h3 hn hk
  first
  |rfl
 apply YSeq.w (by intro _ _ _; rfl)
 ·intro ξ S h1 h2 h3 h4
  have hN7_13 := closed_false h1 h3 (k := 13) rfl (by decide)
  have hN7_15 := closed_false h1 h3 (k := 15) rfl (by decide)
  try simp only [upd_same, updD_same, upd_ne, updD_ne, ne_eq, Nat.reduceEqDiff, not_false_eq_true, stg_t, stg_f, vAd_s, vCap_s, blk_p, List.cons_append, List.nil_append, b2n_t, b2n_f, hN7_13, hN7_15]
  exact goW
 ·intro ξ v; rfl
 ·intro ξ k v S h3 hn hk
  first
  |rfl
 apply YSeq.w (by intro _ _ _; rfl)
 ·intro ξ S h1 h2 h3 h4
  have hN8_10 := closed_false h1 h3 (k := 10) rfl (by decide)
  have hN8_11 := closed_false hN8_10 h3 (k := 11) rfl (by decide)
  have hN8_13 := closed_false hN8_11 h3 (k := 13) rfl (by decide)
  have hN8_15 := closed_false h1 h3 (k := 15) rfl (by decide)
  try simp only [upd_same, updD_same, upd_ne, updD_ne, ne_eq, Nat.reduceEqDiff, not_false_eq_true, stg_t, stg_f, vAd_s, vCap_s, blk_p, List.cons_append, List.nil_append, b2n_t, b2n_f, hN8_13, hN8_15]
  exact goW
 ·intro ξ v; rfl
 ·intro ξ k v S h3 hn hk
  first
  |rfl
 apply YSeq.w (by intro _ _ _; rfl)
 ·intro ξ S h1 h2 h3 h4
  have hN9_10 := closed_false h1 h3 (k := 10) rfl (by decide)
  have hN9_11 := closed_false hN9_10 h3 (k := 11) rfl (by decide)
  have hN9_13 := closed_false hN9_11 h3 (k := 13) rfl (by decide)
  have hN9_15 := closed_false h1 h3 (k := 15) rfl (by decide)
  try simp only [upd_same, updD_same, upd_ne, updD_ne, ne_eq, Nat.reduceEqDiff, not_false_eq_true, stg_t, stg_f, vAd_s, vCap_s, blk_p, List.cons_append, List.nil_append, b2n_t, b2n_f, hN9_13, hN9_15]
  exact goW
 ·intro ξ v; rfl
 ·intro ξ k v S h3 hn hk
  first
  |rfl
 apply YSeq.w (by intro _ _ _; rfl)
 ·intro ξ S h1 h2 h3 h4
  have hN10_11 := closed_false h1 h3 (k := 11) rfl (by decide)
  have hN10_13 := closed_false hN10_11 h3 (k := 13) rfl (by decide)
  have hN10_15 := closed_false h1 h3 (k := 15) rfl (by decide)
  try simp only [upd_same, updD_same, upd_ne, updD_ne, ne_eq, Nat.reduceEqDiff, not_false_eq_true, stg_t, stg_f, vAd_s, vCap_s, blk_p, List.cons_append, List.nil_append, b2n_t, b2n_f, hN10_13, hN10_15]
  exact goW
 ·intro ξ v; rfl
 ·intro ξ k v S h3 hn hk
  first
  |rfl
 apply YSeq.w (by intro _ _ _; rfl)
 ·intro ξ S h1 h2 h3 h4
  have hN11_13 := closed_false h1 h3 (k := 13) rfl (by decide)
  have hN11_15 := closed_false h1 h3 (k := 15) rfl (by decide)
  try simp only [upd_same, updD_same, upd_ne, updD_ne, ne_eq, Nat.reduceEqDiff, not_false_eq_true, stg_t, stg_f, vAd_s, vCap_s, blk_p, List.cons_append, List.nil_append, b2n_t, b2n_f, hN11_13, hN11_15]
  exact goW
 ·intro ξ v; rfl
 ·intro ξ k v S h3 hn hk
  first
  |rfl
 apply YSeq.w (by intro _ _ _; rfl)
 ·intro ξ S h1 h2 h3 h4
  have hN12_13 := closed_false h1 h3 (k := 13) rfl (by decide)
  have hN12_15 := closed_false h1 h3 (k := 15) rfl (by decide)
  try simp only [upd_same, updD_same, upd_ne, updD_ne, ne_eq, Nat.reduceEqDiff, not_false_eq_true, stg_t, stg_f, vAd_s, vCap_s, blk_p, List.cons_append, List.nil_append, b2n_t, b2n_f, hN12_13, hN12_15]
  exact goW
 ·intro ξ v; rfl
 ·intro ξ k v S h3 hn hk
  first
  |rfl
 apply YSeq.storeO
 ·intro ξ S h1 h2 h3 h4
  have hN13_15 := closed_false h1 h3 (k := 15) rfl (by decide)
  simp only [upd_same, updD_same, upd_ne, updD_ne, ne_eq, Nat.reduceEqDiff, not_false_eq_true, stg_t, stg_f, vAd_s, vCap_s, blk_p, List.cons_append, List.nil_append, b2n_t, b2n_f, h1, hN13_15]
  refine ⟨_, _, _, _, _, _, _, _, _, _, rfl, rfl, inferInstance, goXp, (by first | rfl | assumption | (simp [*]; done)), (by decide), ?_⟩
  exact goXm
 apply YSeq.w (by intro _ _ _; rfl)
 ·intro ξ S h1 h2 h3 h4
  have hY14_13 : S 13 = true := h2 13 (by decide)
  have hN14_15 := closed_false h1 h3 (k := 15) rfl (by decide)
  try simp only [upd_same, updD_same, upd_ne, updD_ne, ne_eq, Nat.reduceEqDiff, not_false_eq_true, stg_t, stg_f, vAd_s, vCap_s, blk_p, List.cons_append, List.nil_append, b2n_t, b2n_f, hY14_13, hN14_15]
  exact goW
 ·intro ξ v; rfl
 ·intro ξ k v S h3 hn hk
  first
  |rfl
 apply YSeq.storeO
 ·intro ξ S h1 h2 h3 h4
  have hY15_13 : S 13 = true := h2 13 (by decide)
  simp only [upd_same, updD_same, upd_ne, updD_ne, ne_eq, Nat.reduceEqDiff, not_false_eq_true, stg_t, stg_f, vAd_s, vCap_s, blk_p, List.cons_append, List.nil_append, b2n_t, b2n_f, hY15_13, h1]
  refine ⟨_, _, _, _, _, _, _, _, _, _, rfl, rfl, inferInstance, goXp, (by first | rfl | assumption | (simp [*]; done)), (by decide), ?_⟩
  exact goXm
 refine YSeq.nil fun ξ hf => ?_
 refine ⟨[(0, _), (5, _), (7, _), (8, _)], _, Ent.trans (Ent.eqc rfl (by first | (simp only [upd_same, updD_same, upd_ne, updD_ne, ne_eq, Nat.reduceEqDiff, not_false_eq_true, stg_t, stg_f, vAd_s, vCap_s, blk_p, List.cons_append, List.nil_append, b2n_t, b2n_f, ownV, slV, ptV] <;> rfl) | rfl)) (Ent.sub goSub), ?_⟩
 clear hf
 have hP2 := (swap_permP hx hy).trans hPl
 have hl2 : ((l.set i.toNat y).set j.toNat x).length = k := by simp [hll2]
 rw [intP_set, intP_set]
 clear r1 r2 r3 hx hy
 repeat' (first | refine goH ?_ | refine goV ?_ | refine goC (fun ad cap => ?_) | refine goI ?_ | (refine Cw.k_cond ?_; first | (refine Cw.cond_dec rfl ?_ ?_ <;> intro hc <;> try omega) | refine Cw.cond_bool rfl ?_ ?_ <;> intro hc) | refine goR ?_ | refine goP ?_ | apply PSeq.cons | apply PSeq.yes rfl rfl rfl | exact goW | fail)
 exact ⟨_, _, _, (Ent.mk goSub goTk), ⟨i - 1, _, _, rfl, ⟨by omega, by rw [intRows_len]; exact hl2, hl2, hP2, by omega⟩, rfl, rfl⟩, by omega⟩
end Lg
end
section
set_option linter.all false
set_option maxRecDepth 100000
set_option maxHeartbeats 4000000
namespace Lg
open Go Go.Proofs

/-! ### strings.Builder -/
abbrev bldB (b : Nat) (p ad : Option Addr) (cap : Nat) (t : ByteArray) : Chunk := Chunk.box b 165 [.raw (.pointer p), .raw (.slice ad t.size cap)]
abbrev bldO (ad : Option Addr) (cap : Nat) (t : ByteArray) : Chunk := Chunk.own ad cap 1 5 (bytR t)
structure BldI (b : Nat) (p ad : Option Addr) (cap : Nat) (t : ByteArray) : Prop where
 p : p = none ∨ p = some ⟨b, 0, none⟩
 n : ad ≠ none → t.size ≠ 0
theorem BldI.new (b : Nat) : BldI b none none 0 ⟨#[]⟩ := ⟨.inl rfl, fun h => absurd rfl h⟩
theorem str_emptyB (s : ByteArray) : s.size = 0 ↔ s = ⟨#[]⟩ := by
 constructor
 ·intro h
  apply ByteArray.ext
  apply Array.eq_empty_of_size_eq_zero
  simpa using h
 ·rintro rfl; rfl
theorem noEscape_ext (v : Value) (w : World) : (callFunc 173 #[v]).run Tryz.prog w = .ok (.value v) w := rfl
theorem builder_info : ∃ j, Tryz.prog.info? 165 = some j ∧ j.size ≠ 0 := ⟨_, rfl, by decide⟩
theorem builder_info2 : ∃ j, Tryz.prog.info? 165 = some j := ⟨_, rfl⟩
theorem copyCheck_fn {b : Nat} {p ad : Option Addr} {cap : Nat} {t : ByteArray} (h : BldI b p ad cap t) : Spec Tryz.prog 136 [.ptr b] [bldB b p ad cap t] (fun r cs => r = .tup [] ∧ cs = [bldB b (some ⟨b, 0, none⟩) ad cap t]) := by
 obtain ⟨hp, _⟩ := h
 refine Spec.body Tryz.func136 rfl rfl (Tryz.ntmps136) rfl fun w0 own0 M => ?_
 rcases hp with rfl | rfl
 ·repeat' (first | refine goH ?_ | (refine Ops.k_b_eql ?_; first | (refine Ops.val' rfl (OpV.eql_pn (b := true) rfl rfl builder_info rfl rfl) ?_)) | (refine Ops.k_convert ?_; first | (first | refine Ops.val' rfl (OpV.toUns (E := 165) rfl rfl builder_info rfl goPk (by simp)) ?_ | refine Ops.val' rfl (OpV.frUns (E := 165) (n := 2) rfl rfl builder_info2 rfl goPk (by decide +kernel) rfl) ?_)) | (refine Ops.k_b_neq ?_; first | (refine Ops.val' rfl (OpV.neq_pp rfl builder_info rfl rfl) ?_)) | refine goV ?_ | refine goI ?_ | (refine Cw.k_cond ?_; first | (refine Cw.cond_dec rfl ?_ ?_ <;> intro hc <;> try omega) | refine Cw.cond_bool rfl ?_ ?_ <;> intro hc) | (refine Ops.ext1 (noEscape_ext _) rfl rfl ?_) | fail)
  all_goals exact Fin.norm (Ent.take goTk) (Outs.zero rfl) ⟨rfl, rfl⟩
 ·repeat' (first | refine goH ?_ | (refine Ops.k_b_eql ?_; first | (refine Ops.val' rfl (OpV.eql_pn (b := false) rfl rfl builder_info rfl rfl) ?_)) | (refine Ops.k_b_neq ?_; first | (refine Ops.val' rfl (OpV.neq_pp rfl builder_info rfl rfl) ?_)) | refine goV ?_ | refine goI ?_ | (refine Cw.k_cond ?_; first | (refine Cw.cond_dec rfl ?_ ?_ <;> intro hc <;> try omega) | refine Cw.cond_bool rfl ?_ ?_ <;> intro hc) | fail)
  all_goals exact Fin.norm (Ent.take goTk) (Outs.zero rfl) ⟨rfl, rfl⟩
theorem writeString_fn {b : Nat} {p ad : Option Addr} {cap : Nat} {t : ByteArray} (h : BldI b p ad cap t) (s : ByteArray) (hs : t.size + s.size ≤ 1000000000) : Spec Tryz.prog 97 [.ptr b, .str s] [bldB b p ad cap t, bldO ad cap t] (fun r cs => ∃ p2 ad2 cap2, BldI b p2 ad2 cap2 (t ++ s) ∧ r = .tup [.int s.size, .raw .nilIface] ∧ cs = [bldB b p2 ad2 cap2 (t ++ s), bldO ad2 cap2 (t ++ s)]) := by
 have k := copyCheck_fn h
 obtain ⟨_, hn⟩ := h
 have hsz : (t ++ s).size = t.size + s.size := ByteArray.size_append
 refine Spec.body Tryz.func97 rfl rfl (Tryz.ntmps97) rfl fun w0 own0 M => ?_
 by_cases had : ad = none
 ·subst had
  refine Cw.own_none goPk ?_
  intro hr hc0
  have ht : t.size = 0 := by rw [← bytR_len, hr]; rfl
  clear hr
  repeat' (first | refine goH ?_ | refine goV ?_ | refine goC (fun ad cap => ?_) | refine goI ?_ | (refine Cw.k_cond ?_; first | (refine Cw.cond_dec rfl ?_ ?_ <;> intro hc <;> try omega) | refine Cw.cond_bool rfl ?_ ?_ <;> intro hc) | (refine Ops.append_str (E := 5) rfl rfl rfl rfl goPk rfl (by omega) rfl ?_; intro ad2 cap2 hnil) | (refine Ops.k_calla ?_; first | (refine Ops.k_callf 136 ?_; (refine Ops.call k (Evs.cons rfl Evs.nil) goPm rfl ?_; rintro r cs' ⟨rfl, rfl⟩))) | fail)
  refine Fin.ret (Ent.take goTk) (Outs.two rfl rfl rfl) ⟨_, ad2, cap2, ⟨.inr rfl, fun h => ?_⟩, rfl, rfl⟩
  have := hnil rfl
  by_cases h0 : t.size + s.size = 0
  ·exact absurd (this h0).1 h
  ·omega
 ·have := hn had
  repeat' (first | refine goH ?_ | refine goV ?_ | refine goC (fun ad cap => ?_) | refine goI ?_ | (refine Cw.k_cond ?_; first | (refine Cw.cond_dec rfl ?_ ?_ <;> intro hc <;> try omega) | refine Cw.cond_bool rfl ?_ ?_ <;> intro hc) | (refine Ops.append_str (E := 5) rfl rfl rfl rfl goPk rfl (by omega) rfl ?_; intro ad2 cap2 hnil) | (refine Ops.k_calla ?_; first | (refine Ops.k_callf 136 ?_; (refine Ops.call k (Evs.cons rfl Evs.nil) goPm rfl ?_; rintro r cs' ⟨rfl, rfl⟩))) | fail)
  exact Fin.ret (Ent.take goTk) (Outs.two rfl rfl rfl) ⟨_, ad2, cap2, ⟨.inr rfl, fun h => by omega⟩, rfl, rfl⟩
theorem string_fn {b : Nat} {p ad : Option Addr} {cap : Nat} {t : ByteArray} (h : BldI b p ad cap t) (ht : t.size ≤ 1000000000) : Spec Tryz.prog 98 [.ptr b] [bldB b p ad cap t, bldO ad cap t] (fun r cs => r = .str t ∧ cs = []) := by
 obtain ⟨_, hn⟩ := h
 refine Spec.body Tryz.func98 rfl rfl (Tryz.ntmps98) rfl fun w0 own0 M => ?_
 by_cases had : ad = none
 ·subst had
  refine Cw.own_none goPk ?_
  intro hr hc0
  have ht : t = ⟨#[]⟩ := (str_emptyB t).1 (by rw [← bytR_len, hr]; rfl)
  subst ht
  repeat' (first | refine goH ?_ | refine goV ?_ | refine goI ?_ | (refine Cw.k_cond ?_; first | (refine Cw.cond_dec rfl ?_ ?_ <;> intro hc <;> try omega) | refine Cw.cond_bool rfl ?_ ?_ <;> intro hc) | fail)
  refine Cw.region_seqM 10 rfl (by decide +kernel) rfl ?_
  repeat' (first | refine goH ?_ | refine goV ?_ | refine goI ?_ | (refine Cw.k_cond ?_; first | (refine Cw.cond_dec rfl ?_ ?_ <;> intro hc <;> try omega) | refine Cw.cond_bool rfl ?_ ?_ <;> intro hc) | exact OpV.w (OpV.sdata_none rfl) | (refine Ops.ustr_none rfl rfl rfl ?_) | refine goR ?_ | refine goP ?_ | apply PSeq.cons | apply PSeq.yes rfl rfl rfl | exact goW | fail)
  exact Fin.ret (Ent.take goTk) (Outs.one rfl rfl) ⟨rfl, rfl⟩
 ·have h0 := hn had
  refine Cw.own_form goPk (by rw [bytR_len]; omega) ?_
  rintro g rfl h1 h2
  rw [bytR_len] at h1
  repeat' (first | refine goH ?_ | refine goV ?_ | refine goI ?_ | (refine Cw.k_cond ?_; first | (refine Cw.cond_dec rfl ?_ ?_ <;> intro hc <;> try omega) | refine Cw.cond_bool rfl ?_ ?_ <;> intro hc) | fail)
  refine Cw.region_seqM 10 rfl (by decide +kernel) rfl ?_
  repeat' (first | refine goH ?_ | refine goV ?_ | refine goI ?_ | (refine Cw.k_cond ?_; first | (refine Cw.cond_dec rfl ?_ ?_ <;> intro hc <;> try omega) | refine Cw.cond_bool rfl ?_ ?_ <;> intro hc) | exact OpV.w (OpV.sdata_some rfl (by omega)) | (refine Ops.ustr (s := t) rfl rfl rfl rfl rfl h0 goPk rfl ?_) | refine goR ?_ | refine goP ?_ | apply PSeq.cons | apply PSeq.yes rfl rfl rfl | exact goW | fail)
  exact Fin.ret (Ent.take goTk) (Outs.one rfl rfl) ⟨rfl, rfl⟩
end Lg
end
section
set_option linter.all false
set_option maxRecDepth 100000
set_option maxHeartbeats 4000000
namespace Lg
open Go Go.Proofs

/-! ### strings.Index, Count, Split and Cut at a separator of one byte -/
theorem index1_fn (s : ByteArray) (c : UInt8) : PFn Tryz.prog 156 [.str s, .str ⟨#[c]⟩] (· = .int (Lib.indexByte s.data.toList c)) := by
 refine PFn.of_calls (args := [.string s, .string ⟨#[c]⟩]) (fun vs w => rfl) (fun w => ?_)
 refine (Any.strings_Index_one Tryz.lays143 s c w).mono ?_
 rintro e w' ⟨rfl, rfl⟩
 exact ⟨rfl, Go.RowKit.Below.refl _ _, fun _ => Nat.le_refl _⟩
theorem count1_fn (s : ByteArray) (c : UInt8) : PFn Tryz.prog 187 [.str s, .str ⟨#[c]⟩] (· = .int ((Lib.countByte s.data.toList c : Nat) : Int)) := by
 refine PFn.of_calls (args := [.string s, .string ⟨#[c]⟩]) (fun vs w => rfl) (fun w => ?_)
 refine (Any.strings_Count_one Tryz.lays138 s c w).mono ?_
 rintro e w' ⟨rfl, rfl⟩
 exact ⟨rfl, Go.RowKit.Below.refl _ _, fun _ => Nat.le_refl _⟩
theorem one_ne (c : UInt8) : ¬ (⟨#[c]⟩ : ByteArray) = ⟨#[]⟩ := by
 intro h
 have := congrArg ByteArray.size h
 cases this
theorem idx_lt {s : ByteArray} {c : UInt8} {m : Nat} (h : Lib.indexByte s.data.toList c = (m : Int)) : m < s.size := (splS_some h).2
theorem splR_set (d : List ByteArray) (n : Nat) (z : List Tr) (x : ByteArray) : (strRows d ++ List.replicate (n + 1) z).set d.length [Tr.str x] = strRows (d ++ [x]) ++ List.replicate n z := by
 rw [List.set_append_right _ _ (by rw [strRows_len]; exact Nat.le_refl _), strRows_len, Nat.sub_self, List.replicate_succ, List.set_cons_zero, strRows_app, List.append_assoc]
 rfl
theorem splR_at (d : List ByteArray) (n : Nat) (z : List Tr) : (strRows d ++ List.replicate (n + 1) z)[d.length]? = some z := by
 rw [List.getElem?_append_right (by rw [strRows_len]; exact Nat.le_refl _), strRows_len, Nat.sub_self, List.replicate_succ]
 rfl
theorem splR_len (d : List ByteArray) (n : Nat) (z : List Tr) : (strRows d ++ List.replicate n z).length = d.length + n := by
 rw [List.length_append, strRows_len, List.length_replicate]
theorem genSplit1_fn (s0 : ByteArray) (hs : s0.size ≤ 1000000000) (c : UInt8) : PFn Tryz.prog 158 [.str s0, .str ⟨#[c]⟩, .int 0, .int (-1)] (· = .strs (splS c s0)) := by
 have kC := count1_fn s0 c
 have hle := countByte_le s0.data.toList c
 have hsl := str_list s0
 have hlen := splS_len c s0
 generalize Lib.countByte s0.data.toList c = N at *
 have hmin : min ((N : Int) + 1) ((s0.size : Int) + 1) = ((N + 1 : Nat) : Int) := by omega
 have hsub : ((N + 1 : Nat) : Int) - 1 = (N : Int) := by omega
 have hne := one_ne c
 have h1 : ByteArray.size ⟨#[c]⟩ = 1 := rfl
 refine PFn.mk (Spec.body Tryz.func158 rfl rfl (Tryz.ntmps158) rfl fun w0 own0 M => ?_)
 repeat' (first | refine goH ?_ | (refine Ops.k_c_min ?_; first | (refine Ops.min2 rfl rfl rfl ?_; rw [hmin])) | (refine Ops.k_makeSlice ?_; first | (refine Ops.makeSlice rfl rfl (by omega) (by omega) (by omega) rfl (fun ad cap => ?_); rw [Int.toNat_natCast, show List.map Tr.raw [Value.string ByteArray.empty] = [Tr.str ⟨#[]⟩] from rfl])) | (refine Ops.k_b_sub ?_; first | (refine Ops.sub rfl rfl (by omega) rfl ?_; rw [hsub])) | refine goV ?_ | refine goC (fun ad cap => ?_) | refine goI ?_ | (refine Cw.k_cond ?_; first | (refine Cw.cond_dec rfl ?_ ?_ <;> intro hc <;> try omega) | refine Cw.cond_bool rfl ?_ ?_ <;> intro hc) | (refine Ops.k_calla ?_; first | (refine Ops.k_callf 187 ?_; refine Ops.callV kC (Evs.cons rfl (Evs.cons rfl Evs.nil)) rfl ?_)) | fail)
 refine Cw.loopI [(1, _), (2, _), (3, _), (9, _)] _ (fun q e cc => ∃ (i : Nat) (s : ByteArray) (d : List ByteArray) (rows : List (List Tr)), q = N - i ∧ (i ≤ N ∧ d.length = i ∧ s.size ≤ s0.size ∧ splS c s0 = d ++ splS c s ∧ rows = strRows d ++ List.replicate (N + 1 - i) [Tr.str ⟨#[]⟩] ∧ rows.length = N + 1) ∧ e = [(0, .str s), (10, .int i)] ∧ cc = [Chunk.own ad cap 1 9 rows])
  ⟨_, _, _, (Ent.mkP goSub goPm), 0, s0, [], _, rfl, ⟨by omega, rfl, by omega, rfl, by simp [strRows], by simp⟩, rfl, rfl⟩ ?_
 clear kC
 rintro _ _ _ ⟨i, s, d, rows, rfl, ⟨hi, hd, hss, hsp, hrows, hrl⟩, rfl, rfl⟩
 have hln2 := splS_len c s
 have hl3 : N + 1 = d.length + (splS c s).length := by rw [← hlen, hsp, List.length_append]
 have hat : rows[(i : Int).toNat]? = some [Tr.str ⟨#[]⟩] := by
  rw [hrows, Int.toNat_natCast, ← hd, show N + 1 - d.length = (N - d.length) + 1 by omega]
  exact splR_at _ _ _
 have hset : ∀ x : ByteArray, rows.set (i : Int).toNat [Tr.str x] = strRows (d ++ [x]) ++ List.replicate (N + 1 - (i + 1)) [Tr.str ⟨#[]⟩] := fun x => by
  rw [hrows, Int.toNat_natCast, ← hd, show N + 1 - d.length = (N - d.length) + 1 by omega, show N + 1 - (d.length + 1) = N - d.length by omega]
  exact splR_set _ _ _ _
 have hsl2 : ∀ x : ByteArray, (strRows (d ++ [x]) ++ List.replicate (N + 1 - (i + 1)) [Tr.str ⟨#[]⟩]).length = N + 1 := fun x => by rw [splR_len, List.length_append]; simp; omega
 have hdl : ∀ x : ByteArray, (d ++ [x]).length = i + 1 := fun x => by rw [List.length_append, hd]; rfl
 have kI := index1_fn s c
 clear hrows hlen
 rcases idx_cases s.data.toList c with h | ⟨m, h⟩
 ·have h2 := splS_none h
  rw [h2] at hsp hl3
  simp only [List.length_cons, List.length_nil] at hl3
  have hiN : i = N := by omega
  subst hiN
  have e1 := hset s
  rw [show i + 1 - (i + 1) = 0 by omega, List.replicate_zero, List.append_nil, ← hsp] at e1
  have hle : (strRows (splS c s0)).length = i + 1 := by rw [hsp, strRows_len]; exact hdl s
  generalize hZ : strRows (splS c s0) = Z at *
  clear hset hsl2 hdl
  repeat' (first | refine goH ?_ | (refine Ops.k_store ?_; first | (refine Ops.store_own1 rfl rfl goPk (by first | rfl | assumption | (simp [*]; done)) (by decide) ?_; erw [e1])) | refine goV ?_ | refine goC (fun ad cap => ?_) | refine goI ?_ | (refine Cw.k_cond ?_; first | (refine Cw.cond_dec rfl ?_ ?_ <;> intro hc <;> try omega) | refine Cw.cond_bool rfl ?_ ?_ <;> intro hc) | fail)
  rw [show List.take ((i : Int) + 1).toNat Z = Z from List.take_of_length_le (by omega)]
  refine Fin.ret (Ent.trans (Ent.settle (s := 8) rfl goPk rfl) (Ent.take goTk)) (Outs.sole rfl goOe) ⟨rfl, congrArg (Tr.sl 1) hZ.symm⟩
 ·have h2 := (splS_some h).1
  have hm := idx_lt h
  rw [h] at kI
  rw [h2, List.length_cons] at hl3
  have hne2 := splS_len c (s.extract (m + 1) s.size)
  have e1 := hset (s.extract 0 m)
  have e2 : ((m : Int) + 0).toNat = m := by omega
  have e3 : ((m : Int) + ((⟨#[c]⟩ : ByteArray).size : Int)).toNat = m + 1 := by rw [h1]; omega
  have hz : (s.extract (m + 1) s.size).size ≤ s0.size := by rw [ByteArray.size_extract]; omega
  have hlt := hsl2 (s.extract 0 m)
  repeat' (first | refine goH ?_ | (refine Ops.k_slice ?_; first | (first | (refine Ops.sliceS_h rfl rfl rfl (by omega) rfl ?_; rw [e2]) | (refine Ops.sliceS_l rfl rfl rfl (by omega) rfl ?_; rw [e3]))) | (refine Ops.k_store ?_; first | (refine Ops.store_own1 rfl rfl goPk (by first | rfl | assumption | (simp [*]; done)) (by decide) ?_; erw [e1])) | refine goV ?_ | refine goC (fun ad cap => ?_) | refine goI ?_ | (refine Cw.k_cond ?_; first | (refine Cw.cond_dec rfl ?_ ?_ <;> intro hc <;> try omega) | refine Cw.cond_bool rfl ?_ ?_ <;> intro hc) | (refine Ops.k_calla ?_; first | (refine Ops.k_callf 156 ?_; refine Ops.callV kI (Evs.cons rfl (Evs.cons rfl Evs.nil)) rfl ?_)) | fail)
  exact ⟨_, _, _, (Ent.mk goSub goTk), ⟨i + 1, _, d ++ [s.extract 0 m], _, rfl, ⟨by omega, hdl _, hz, by rw [hsp, h2, List.append_assoc]; rfl, rfl, hlt⟩, rfl, rfl⟩, by omega⟩
theorem split1_fn (s : ByteArray) (hs : s.size ≤ 1000000000) (c : UInt8) : PFn Tryz.prog 129 [.str s, .str ⟨#[c]⟩] (· = .strs (splS c s)) := by
 have k := genSplit1_fn s hs c
 refine PFn.mk (Spec.body Tryz.func129 rfl rfl (Tryz.ntmps129) rfl fun w0 own0 M => ?_)
 repeat' (first | refine goH ?_ | refine goV ?_ | refine goI ?_ | (refine Cw.k_cond ?_; first | (refine Cw.cond_dec rfl ?_ ?_ <;> intro hc <;> try omega) | refine Cw.cond_bool rfl ?_ ?_ <;> intro hc) | (refine Ops.k_calla ?_; first | (refine Ops.k_callf 158 ?_; refine Ops.callV k (Evs.cons rfl (Evs.cons rfl (Evs.cons rfl (Evs.cons rfl Evs.nil)))) rfl ?_)) | fail)
 exact Fin.ret (Ent.take goTk) (Outs.one rfl rfl) ⟨rfl, rfl⟩
end Lg
end
