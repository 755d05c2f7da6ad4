/- A part of the proof of a law of this seat: it adds no condition. By an AI agent. -/
import Derived.Test.YthgcdnfhfejijaaGreatDoorSS4
section
set_option linter.all false
set_option maxRecDepth 100000
set_option maxHeartbeats 8000000
namespace Lg
open Go Go.Proofs

theorem stableN_fn {ad : Option Addr} {cap N : Nat} {V : Int → Prop} {cf : Int → Int → Int} {g : Nat} {caps : List Value} {cin : List Chunk} (hs : CmpS V cf g caps cin) (hN : N ≤ 1000000) (L : List Int) (hL : LOf V N L) :
  Spec Tryz.prog 91 [Tr.raw (.slice ad N cap), .int N, Tr.raw (.func (.func g) #[] caps.toArray)] (Chunk.own ad cap 1 3 (intRows L) :: cin) (fun r cs => ∃ S, r = Tr.tup [] ∧ cs = Chunk.own ad cap 1 3 (intRows S) :: cin ∧ LOf V N S ∧ Srt cf L S) := by
 have hM := symMerge_fn (ad := ad) (cap := cap) hs hN N
 have hI := fun (W : List Int) (hW : LOf V N W) => insertion_fn (ad := ad) (cap := cap) hs W hW hN
 have hSrt : ∀ R e S, Blk cf N L 0 R e → Stb cf N (insI cf e R (N - e - 1)) 20 S → Srt cf L S := fun R e S h1 h2 => ⟨R, e, by rw [hL.len]; exact h1, by rw [hL.len]; exact h2⟩
 refine Spec.body Tryz.func91 rfl rfl (Tryz.ntmps91) rfl fun w0 own0 M => ?_
 repeat' (first | refine goH ?_ | refine goV ?_ | refine goI ?_ | (refine Cw.k_cond ?_; first | (refine Cw.cond_dec rfl ?_ ?_ <;> intro hc <;> try omega) | refine Cw.cond_bool rfl ?_ ?_ <;> intro hc) | fail)
 refine Cw.loopI [(0, _), (1, _), (2, _), (6, _)] cin (fun q e c => ∃ (a : Nat) (W : List Int), q = N - a ∧ (a ≤ N ∧ LOf V N W ∧ ∀ R e, Blk cf N W a R e → Blk cf N L 0 R e) ∧ e = [(7, .int (a : Int)), (8, .int ((a + 20 : Nat) : Int))] ∧ c = [Chunk.own ad cap 1 3 (intRows W)]) ⟨_, _, _, (Ent.mkP goSub goPm), 0, L, rfl, ⟨by omega, hL, fun R e h => h⟩, rfl, rfl⟩ ?_
 rintro _ _ _ ⟨a, W, rfl, ⟨ha, hW, hB⟩, rfl, rfl⟩
 by_cases h20 : a + 20 ≤ N
 ·have ki := hI W hW a (a + 20) (by omega) h20
  rw [show a + 20 - a - 1 = 19 by omega] at ki
  have hW2 := hW.insI (cf := cf) (a := a) (n := 19) (by omega)
  have hB2 := fun R e h => hB R e (Blk.go h20 h)
  clear hI hM hSrt hB
  repeat' (first | refine goH ?_ | refine goV ?_ | refine goI ?_ | (refine Cw.k_cond ?_; first | (refine Cw.cond_dec rfl ?_ ?_ <;> intro hc <;> try omega) | refine Cw.cond_bool rfl ?_ ?_ <;> intro hc) | (refine Ops.k_calla ?_; first | (refine Ops.call (cf := []) ki (Evs.cons rfl (Evs.cons rfl (Evs.cons rfl (Evs.cons rfl Evs.nil)))) (by simp) rfl ?_; rintro r cs' ⟨rfl, rfl⟩)) | fail)
  rw [show ((a + 20 : Nat) : Int) + 20 = ((a + 20 + 20 : Nat) : Int) by omega]
  refine ⟨_, _, _, ?_, ⟨a + 20, _, rfl, ⟨h20, hW2, hB2⟩, rfl, rfl⟩, by omega⟩
  exact Ent.mkP goSub (by simp)
 have hB0 := hB _ _ (Blk.done h20)
 clear hB
 have ki := hI W hW a N ha (Nat.le_refl _)
 have hW2 := hW.insI (cf := cf) (a := a) (n := N - a - 1) (by omega)
 have hS2 := fun S h => hSrt W a S hB0 h
 generalize insI cf a W (N - a - 1) = I at *
 clear hI hSrt hB0
 repeat' (first | refine goH ?_ | refine goV ?_ | refine goI ?_ | (refine Cw.k_cond ?_; first | (refine Cw.cond_dec rfl ?_ ?_ <;> intro hc <;> try omega) | refine Cw.cond_bool rfl ?_ ?_ <;> intro hc) | (refine Ops.k_calla ?_; first | (refine Ops.call (cf := []) ki (Evs.cons rfl (Evs.cons rfl (Evs.cons rfl (Evs.cons rfl Evs.nil)))) (by simp) rfl ?_; rintro r cs' ⟨rfl, rfl⟩)) | fail)
 refine Cw.loopI [(0, _), (1, _), (2, _)] cin (fun q e c => ∃ (s : Nat) (W : List Int), q = 2000000 - s ∧ (20 ≤ s ∧ s ≤ 2000000 ∧ LOf V N W ∧ ∀ S, Stb cf N W s S → Srt cf L S) ∧ e = [(6, .int (s : Int))] ∧ c = [Chunk.own ad cap 1 3 (intRows W)]) ⟨_, _, _, (by exact Ent.mkP goSub (by simp)), 20, I, rfl, ⟨by omega, by omega, hW2, hS2⟩, rfl, rfl⟩ ?_
 clear hW2 hS2 ki hW
 rintro _ _ _ ⟨s, W1, rfl, ⟨hs1, hs2, hW, hS⟩, rfl, rfl⟩
 by_cases hsN : s < N
 ·repeat' (first | refine goH ?_ | refine goV ?_ | refine goI ?_ | (refine Cw.k_cond ?_; first | (refine Cw.cond_dec rfl ?_ ?_ <;> intro hc <;> try omega) | refine Cw.cond_bool rfl ?_ ?_ <;> intro hc) | fail)
  refine Cw.loopI [(0, _), (1, _), (2, _), (6, _)] cin (fun q e c => ∃ (a : Nat) (W : List Int), q = N - a ∧ (a ≤ N ∧ LOf V N W ∧ ∀ R e, Mrg cf N s W a R e → Mrg cf N s W1 0 R e) ∧ e = [(7, .int (a : Int)), (8, .int ((a + 2 * s : Nat) : Int))] ∧ c = [Chunk.own ad cap 1 3 (intRows W)]) ⟨_, _, _, (by rw [show 2 * (s : Int) = ((0 + 2 * s : Nat) : Int) by omega]; exact (Ent.mkP goSub goPm)), 0, W1, rfl, ⟨by omega, hW, fun R e h => h⟩, rfl, rfl⟩ ?_
  clear hW
  rintro _ _ _ ⟨a, W, rfl, ⟨ha, hW, hB⟩, rfl, rfl⟩
  by_cases h2s : a + 2 * s ≤ N
  ·have km := hM W a (a + s) (a + 2 * s) hW (by omega) (by omega) (by omega) h2s
   clear hS
   repeat' (first | refine goH ?_ | refine goV ?_ | refine goI ?_ | (refine Cw.k_cond ?_; first | (refine Cw.cond_dec rfl ?_ ?_ <;> intro hc <;> try omega) | refine Cw.cond_bool rfl ?_ ?_ <;> intro hc) | (refine Ops.k_calla ?_; first | (refine Ops.call (cf := []) km (Evs.cons rfl (Evs.cons rfl (Evs.cons rfl (Evs.cons rfl (Evs.cons rfl Evs.nil))))) (by simp) rfl ?_; rintro r cs' ⟨R, rfl, rfl, hR, hSy⟩)) | fail)
   rw [show ((a + 2 * s : Nat) : Int) + 2 * (s : Int) = ((a + 2 * s + 2 * s : Nat) : Int) by omega]
   refine ⟨_, _, _, ?_, ⟨a + 2 * s, R, rfl, ⟨h2s, hR, fun R' e' h => hB R' e' (Mrg.go h2s hSy h)⟩, rfl, rfl⟩, by omega⟩
   exact Ent.mkP goSub (by simp)
  have hB0 := hB _ _ (Mrg.done h2s)
  clear hB
  by_cases hm : a + s < N
  ·have km := hM W a (a + s) N hW (by omega) (by omega) hm (Nat.le_refl _)
   repeat' (first | refine goH ?_ | refine goV ?_ | refine goI ?_ | (refine Cw.k_cond ?_; first | (refine Cw.cond_dec rfl ?_ ?_ <;> intro hc <;> try omega) | refine Cw.cond_bool rfl ?_ ?_ <;> intro hc) | (refine Ops.k_calla ?_; first | (refine Ops.call (cf := []) km (Evs.cons rfl (Evs.cons rfl (Evs.cons rfl (Evs.cons rfl (Evs.cons rfl Evs.nil))))) (by simp) rfl ?_; rintro r cs' ⟨R, rfl, rfl, hR, hSy⟩)) | fail)
   rw [show (s : Int) * 2 = ((2 * s : Nat) : Int) by omega]
   refine ⟨_, _, _, ?_, ⟨2 * s, R, rfl, ⟨by omega, by omega, hR, fun S h => hS S (Stb.go hsN hB0 (fun _ => hSy) (fun h => absurd hm h) h)⟩, rfl, rfl⟩, by omega⟩
   exact Ent.mkP goSub (by simp)
  ·repeat' (first | refine goH ?_ | refine goV ?_ | refine goI ?_ | (refine Cw.k_cond ?_; first | (refine Cw.cond_dec rfl ?_ ?_ <;> intro hc <;> try omega) | refine Cw.cond_bool rfl ?_ ?_ <;> intro hc) | fail)
   rw [show (s : Int) * 2 = ((2 * s : Nat) : Int) by omega]
   refine ⟨_, _, _, ?_, ⟨2 * s, W, rfl, ⟨by omega, by omega, hW, fun S h => hS S (Stb.go hsN hB0 (fun h => absurd h hm) (fun _ => rfl) h)⟩, rfl, rfl⟩, by omega⟩
   exact Ent.mkP goSub (by simp)
 ·have hF := hS _ (Stb.done hsN)
  repeat' (first | refine goH ?_ | refine goV ?_ | refine goI ?_ | (refine Cw.k_cond ?_; first | (refine Cw.cond_dec rfl ?_ ?_ <;> intro hc <;> try omega) | refine Cw.cond_bool rfl ?_ ?_ <;> intro hc) | fail)
  all_goals first | exact Fin.norm (Ent.mkP goSub (by simp)) (Outs.zero rfl) ⟨_, rfl, rfl, hW, hF⟩ | exact Fin.ret (Ent.mkP goSub (by simp)) (Outs.zero rfl) ⟨_, rfl, rfl, hW, hF⟩
theorem sortStableN_fn {ad : Option Addr} {cap N : Nat} {V : Int → Prop} {cf : Int → Int → Int} {g : Nat} {caps : List Value} {cin : List Chunk} (hs : CmpS V cf g caps cin) (hN : N ≤ 1000000) (L : List Int) (hL : LOf V N L) :
  Spec Tryz.prog 59 [Tr.raw (.slice ad N cap), Tr.raw (.func (.func g) #[] caps.toArray)] (Chunk.own ad cap 1 3 (intRows L) :: cin) (fun r cs => ∃ S, r = Tr.tup [] ∧ cs = Chunk.own ad cap 1 3 (intRows S) :: cin ∧ LOf V N S ∧ Srt cf L S) := by
 have hi := stableN_fn (ad := ad) (cap := cap) hs hN L hL
 have hrl : (intRows L).length = N := by rw [intRows_len, hL.len]
 refine Spec.body Tryz.func59 rfl rfl (Tryz.ntmps59) rfl fun w0 own0 M => ?_
 repeat' (first | refine goH ?_ | refine goV ?_ | refine goI ?_ | (refine Cw.k_cond ?_; first | (refine Cw.cond_dec rfl ?_ ?_ <;> intro hc <;> try omega) | refine Cw.cond_bool rfl ?_ ?_ <;> intro hc) | (refine Ops.k_calla ?_; first | (refine Ops.call (cf := []) hi (Evs.cons rfl (Evs.cons rfl (Evs.cons rfl Evs.nil))) (by simp) rfl ?_; rintro r cs' ⟨S, rfl, rfl, hS, hF⟩)) | fail)
 all_goals first | exact Fin.norm (Ent.mkP goSub (by simp)) (Outs.zero rfl) ⟨_, rfl, rfl, hS, hF⟩ | exact Fin.ret (Ent.mkP goSub (by simp)) (Outs.zero rfl) ⟨_, rfl, rfl, hS, hF⟩
end Lg
end
section
set_option linter.all false
set_option maxRecDepth 100000
set_option maxHeartbeats 8000000
namespace Lg
open Go Go.Proofs

/-! ### a total divided among many weights -/
abbrev shV (ws : List Int) (x : Int) : Prop := 0 ≤ x ∧ x < ws.length
abbrev shC (t s : Int) (ws : List Int) (a b : Int) : Int := cmpI (shRem t s ws b) (shRem t s ws a)
open Classical in
/-- the order of the remainders, as the library sorts -/
noncomputable def shOrdN (t s : Int) (ws : List Int) : List Int := if h : ∃ S, LOf (shV ws) ws.length S ∧ Srt (shC t s ws) (upto ws.length) S then Classical.choose h else upto ws.length
theorem shOrdN_of {t s : Int} {ws S : List Int} (h1 : LOf (shV ws) ws.length S) (h2 : Srt (shC t s ws) (upto ws.length) S) : shOrdN t s ws = S := by
 have h : ∃ S, LOf (shV ws) ws.length S ∧ Srt (shC t s ws) (upto ws.length) S := ⟨S, h1, h2⟩
 unfold shOrdN
 rw [dif_pos h]
 exact (Classical.choose_spec h).2.det h2
theorem upto_LOf (ws : List Int) : LOf (shV ws) ws.length (upto ws.length) := ⟨upto_len _, fun x hx => upto_mem hx⟩
theorem shOrdN_ok (t s : Int) (ws : List Int) : LOf (shV ws) ws.length (shOrdN t s ws) := by
 unfold shOrdN
 split
 ·rename_i h
  exact (Classical.choose_spec h).1
 ·exact upto_LOf ws
noncomputable def shG (t : Int) (ws : List Int) : List Int := shF (shBase t (sumL ws) ws) ((shOrdN t (sumL ws) ws).take (shLeft t (sumL ws) ws).toNat)
theorem shG_len (t : Int) (ws : List Int) : (shG t ws).length = ws.length := by
 unfold shG shBase
 rw [shF_len, List.length_map]
theorem sharedN_fn (t s0 : Int) (ws : List Int) (ht : 0 ≤ t ∧ t ≤ 1000000000) (hn : 1 ≤ ws.length ∧ ws.length ≤ 5000) (hsu9 : sumL ws ≤ 1000000000) (hw : ∀ w ∈ ws, 0 ≤ w ∧ w ≤ 1000000) (hs1 : 1 ≤ sumL ws) (hse : s0 = sumL ws) : PFn Tryz.prog 33 [.int t, .ints ws, .int s0] (· = .ints (shG t ws)) := by
 have hL := intRows_len ws
 have hsb := sumL_bd hw
 have hsu : 1 ≤ sumL ws ∧ sumL ws ≤ 1000000000 := by omega
 have hlf := sh_left (t := t) hs1 hn.1
 unfold shG
 subst hse
 generalize hS : sumL ws = s at *
 clear hsb hS
 obtain ⟨n, hnl⟩ : ∃ n : Nat, ws.length = n := ⟨_, rfl⟩
 have hBl : (shBase t s ws).length = n := by unfold shBase; rw [List.length_map, hnl]
 have hUl := upto_len n
 have kS : ∀ (b3 b4 b5 : Nat) (ad : Option Addr) (cap : Nat), Spec Tryz.prog 59 [Tr.raw (.slice ad n cap), Tr.raw (.func (.func 60) #[] [Value.pointer (some ⟨b3, 0, none⟩), Value.pointer (some ⟨b4, 0, none⟩), Value.pointer (some ⟨b5, 0, none⟩)].toArray)] [Chunk.own ad cap 1 3 (intRows (upto n)), Chunk.box b3 3 [.int t], Chunk.box b4 22 [.ints ws], Chunk.box b5 3 [.int s]] (fun r cs => r = Tr.tup [] ∧ cs = [Chunk.own ad cap 1 3 (intRows (shOrdN t s ws)), Chunk.box b3 3 [.int t], Chunk.box b4 22 [.ints ws], Chunk.box b5 3 [.int s]]) := fun b3 b4 b5 ad cap => by
  have hh := sortStableN_fn (ad := ad) (cap := cap) (N := ws.length) (V := shV ws) (cf := shC t s ws) (g := 60) (caps := [.pointer (some ⟨b3, 0, none⟩), .pointer (some ⟨b4, 0, none⟩), .pointer (some ⟨b5, 0, none⟩)]) (cin := [Chunk.box b3 3 [.int t], Chunk.box b4 22 [.ints ws], Chunk.box b5 3 [.int s]]) (fun x y hx hy => sharedLt_fn b3 b4 b5 t s ws ht hsu hw x y hx hy) (by omega) (upto ws.length) (upto_LOf ws)
  rw [hnl] at hh
  refine Spec.mono hh ?_
  rintro r cs ⟨S, rfl, rfl, hS1, hS2⟩
  rw [shOrdN_of (by rw [hnl]; exact hS1) (by rw [hnl]; exact hS2)]
  exact ⟨rfl, rfl⟩
 refine PFn.mk (Spec.body Tryz.func33 rfl rfl (Tryz.ntmps33) rfl fun w0 own0 M => ?_)
 have hn2 : ((((intRows ws).length : Nat) : Int)).toNat = n := by rw [hL, hnl]; rfl
 repeat' (first | refine goH ?_ | (refine Ops.k_makeSlice ?_; first | (refine Ops.makeSlice rfl rfl (by omega) (by omega) (by omega) rfl (fun ad cap => ?_); rw [hn2, show List.map Tr.raw [Value.int .i64 0] = [Tr.int 0] from rfl, ints_rep])) | refine goV ?_ | refine goB (fun b => ?_) | refine goC (fun ad cap => ?_) | refine goI ?_ | (refine Cw.k_cond ?_; first | (refine Cw.cond_dec rfl ?_ ?_ <;> intro hc <;> try omega) | refine Cw.cond_bool rfl ?_ ?_ <;> intro hc) | (refine Ops.k_calla ?_; first | refine Ops.callV kR (Evs.cons rfl Evs.nil) rfl ?_) | fail)
 rename_i b3 b4 ad0 cap0
 rw [hL, hnl]
 refine Cw.loopI [(3, _), (4, _), (5, _), (7, _), (8, _), (21, _), (22, .int n)] _ (fun q e cc => ∃ (k : Nat) (z : Int) (r1 r2 : List (List Tr)), q = n - k ∧ (k ≤ n ∧ z = t - sumL ((shBase t s ws).take k) ∧ z ≤ t ∧ t - k * 1000000000000000 ≤ z ∧ r1 = intRows ((shBase t s ws).take k ++ List.replicate (n - k) 0) ∧ r1.length = n ∧ r2 = intRows ((upto n).take k ++ List.replicate (n - k) 0) ∧ r2.length = n) ∧ e = [(9, .int z), (23, .int k)] ∧ cc = [Chunk.own ad0 cap0 1 3 r1, Chunk.own ad cap 1 3 r2])
  ⟨_, _, _, (Ent.mkP goSub goPm), 0, t, _, _, rfl, ⟨by omega, by rw [List.take_zero, sumL_nil, Int.sub_zero], by omega, by omega, rfl, by rw [intRows_len, List.length_append, List.length_replicate, List.take_zero]; simp, rfl, by rw [intRows_len, List.length_append, List.length_replicate, List.take_zero]; simp⟩, rfl, rfl⟩ ?_
 rintro _ _ _ ⟨k, z, r1, r2, rfl, ⟨hk, hz, hz1, hz2, hr1, hl1, hr2, hl2⟩, rfl, rfl⟩
 by_cases hkl : k < n
 ·obtain ⟨w, hwk⟩ := at_lt (l := ws) (k := k) (by omega)
  have q0 := intRows_at hwk
  have hwb := hw w (List.mem_of_getElem? hwk)
  have hBk : (shBase t s ws)[k]? = some (t * w / s) := by unfold shBase; rw [List.getElem?_map, hwk]; rfl
  have hsum := sumL_take hBk
  have m1 : 0 ≤ t * w ∧ t * w ≤ 1000000000000000 := ⟨Int.mul_nonneg ht.1 hwb.1, by have := Int.mul_le_mul ht.2 hwb.2 hwb.1 (by omega); omega⟩
  have m3 : -9223372036854775808 ≤ t * w ∧ t * w ≤ 9223372036854775807 := by omega
  have d1 := Int.ediv_le_self s m1.1
  have d2 := Int.ediv_nonneg m1.1 (show 0 ≤ s by omega)
  have f1 := fill_set hBl hBk
  have f2 := fill_set hUl (upto_at hkl)
  have s1 : r1.set ((k : Nat) : Int).toNat [Tr.int (t * w / s)] = intRows ((shBase t s ws).take (k + 1) ++ List.replicate (n - (k + 1)) 0) := by rw [hr1, Int.toNat_natCast, ints_set, f1]
  have s2 : r2.set ((k : Nat) : Int).toNat [Tr.int (k : Int)] = intRows ((upto n).take (k + 1) ++ List.replicate (n - (k + 1)) 0) := by rw [hr2, Int.toNat_natCast, ints_set, f2]
  have g1 : (r1.set ((k : Nat) : Int).toNat [Tr.int (t * w / s)])[((k : Nat) : Int).toNat]? = some [Tr.int (t * w / s)] := by rw [List.getElem?_set_self (by omega)]
  have l1 : (r1.set ((k : Nat) : Int).toNat [Tr.int (t * w / s)]).length = n := by rw [List.length_set, hl1]
  have l2 : (r2.set ((k : Nat) : Int).toNat [Tr.int (k : Int)]).length = n := by rw [List.length_set, hl2]
  have hv1 : r1[((k : Nat) : Int).toNat]? = some [Tr.int 0] := by rw [hr1, Int.toNat_natCast]; exact intRows_at (fill_at _ hBl hkl)
  have hv2 : r2[((k : Nat) : Int).toNat]? = some [Tr.int 0] := by rw [hr2, Int.toNat_natCast]; exact intRows_at (fill_at _ hUl hkl)
  clear hwk hBk f1 f2 hr1 hr2
  generalize hq : t * w / s = q at *
  repeat' (first | refine goH ?_ | (refine Ops.k_b_mul ?_; first | refine Ops.mul rfl rfl (by assumption) rfl ?_) | (refine Ops.k_b_quo ?_; first | (refine Ops.quo rfl rfl (by omega) rfl ?_; rw [hq])) | refine goV ?_ | refine goB (fun b => ?_) | refine goC (fun ad cap => ?_) | refine goI ?_ | (refine Cw.k_cond ?_; first | (refine Cw.cond_dec rfl ?_ ?_ <;> intro hc <;> try omega) | refine Cw.cond_bool rfl ?_ ?_ <;> intro hc) | fail)
  exact ⟨_, _, _, (Ent.mk goSub goTk), ⟨k + 1, _, _, _, rfl, ⟨by omega, by rw [hsum, hz]; omega, by omega, by omega, s1, l1, s2, l2⟩, rfl, rfl⟩, by omega⟩
 ·rw [List.take_of_length_le (by omega), show n - k = 0 by omega, List.replicate_zero, List.append_nil] at hr1 hr2
  rw [List.take_of_length_le (by omega)] at hz
  have hz : z = shLeft t s ws := hz
  rw [← hz] at hlf ⊢
  subst hr2
  have hOk := shOrdN_ok t s ws
  have hOl : (intRows (shOrdN t s ws)).length = n := by rw [intRows_len, hOk.len, hnl]
  have hOm : ∀ x ∈ shOrdN t s ws, 0 ≤ x ∧ x < n := fun x hx => by have := hOk.mem x hx; omega
  clear hOk
  have hBb : ∀ x ∈ shBase t s ws, 0 ≤ x ∧ x ≤ 1000000000000000 := by
   intro x hx
   unfold shBase at hx
   obtain ⟨w, hwm, rfl⟩ := List.mem_map.1 hx
   have hwb := hw w hwm
   have m1 : 0 ≤ t * w ∧ t * w ≤ 1000000000000000 := ⟨Int.mul_nonneg ht.1 hwb.1, by have := Int.mul_le_mul ht.2 hwb.2 hwb.1 (by omega); omega⟩
   have d1 := Int.ediv_le_self s m1.1
   have d2 := Int.ediv_nonneg m1.1 (show 0 ≤ s by omega)
   omega
  generalize shBase t s ws = B at *
  generalize shOrdN t s ws = O at *
  have htk : (intRows O).take z.toNat = intRows (O.take z.toNat) := by unfold intRows; rw [List.map_take]
  have htl : (intRows (O.take z.toNat)).length = z.toNat := by rw [intRows_len] at hOl ⊢; rw [List.length_take]; omega
  repeat' (first | refine goH ?_ | (refine Ops.k_slice ?_; first | (refine Ops.slice_own_h rfl rfl goPk (by omega) (by omega) rfl ?_; rw [htk])) | refine goV ?_ | refine goB (fun b => ?_) | refine goC (fun ad cap => ?_) | refine goI ?_ | (refine Cw.k_cond ?_; first | (refine Cw.cond_dec rfl ?_ ?_ <;> intro hc <;> try omega) | refine Cw.cond_bool rfl ?_ ?_ <;> intro hc) | (refine Ops.k_calla ?_; first | (refine Ops.k_callf 59 ?_; (refine Ops.call (kS _ _ _ _ _) (Evs.cons rfl (Evs.cons rfl Evs.nil)) goPm rfl ?_; rintro r cs' ⟨rfl, rfl⟩))) | fail)
  obtain ⟨m, hm⟩ : ∃ m : Nat, z.toNat = m := ⟨_, rfl⟩
  rw [hm] at htl ⊢
  have hTm : ∀ x ∈ O.take m, 0 ≤ x ∧ x < n := fun x hx => hOm x (List.mem_of_mem_take hx)
  have hTl : (O.take m).length = m := by rw [intRows_len] at htl; exact htl
  generalize O.take m = T at *
  rw [htl]
  clear hOm hOl htk hz hz1 hz2 kS
  refine Cw.loopI [(7, _), (52, _), (53, .int m)] _ (fun q e cc => ∃ (j : Nat) (out : List Int) (r1 : List (List Tr)), q = m - j ∧ (j ≤ m ∧ shF B T = shF out (T.drop j) ∧ out.length = n ∧ r1 = intRows out ∧ r1.length = n ∧ ∀ x ∈ out, 0 ≤ x ∧ x ≤ 1000000000000000 + j) ∧ e = [(54, .int j)] ∧ cc = [Chunk.own ad0 cap0 1 3 r1])
   ⟨_, _, _, (Ent.mkP goSub goPm), 0, B, r1, rfl, ⟨by omega, rfl, hBl, hr1, hl1, fun x hx => by have := hBb x hx; omega⟩, rfl, rfl⟩ ?_
  clear hr1 hl1
  rintro _ _ _ ⟨j, out, r1, rfl, ⟨hj, hV, hol, hr1, hl1, hob⟩, rfl, rfl⟩
  by_cases hjl : j < m
  ·obtain ⟨i, hi⟩ := at_lt (l := T) (k := j) (by omega)
   have q0 := intRows_at hi
   have hib := hTm i (List.mem_of_getElem? hi)
   rw [drop_at hi, shF] at hV
   obtain ⟨v, hv⟩ := at_lt (l := out) (k := i.toNat) (by omega)
   have hvb := hob v (List.mem_of_getElem? hv)
   have q1 : r1[i.toNat]? = some [Tr.int v] := by rw [hr1]; exact intRows_at hv
   have ha : addOne out i = out.set i.toNat (v + 1) := by unfold addOne; rw [List.getD_eq_getElem?_getD, hv]; rfl
   have s1 : r1.set i.toNat [Tr.int (v + 1)] = intRows (addOne out i) := by rw [ha, hr1, ints_set]
   have hl2 : (r1.set i.toNat [Tr.int (v + 1)]).length = n := by rw [List.length_set, hl1]
   have hol2 : (addOne out i).length = n := by rw [ha, List.length_set, hol]
   have hob2 : ∀ x ∈ addOne out i, 0 ≤ x ∧ x ≤ 1000000000000000 + ((j + 1 : Nat) : Int) := by
    intro x hx
    rw [ha] at hx
    rcases List.mem_or_eq_of_mem_set hx with h | h
    ·have := hob x h; omega
    ·omega
   clear hi hv hr1 ha hob
   repeat' (first | refine goH ?_ | refine goV ?_ | refine goB (fun b => ?_) | refine goC (fun ad cap => ?_) | refine goI ?_ | (refine Cw.k_cond ?_; first | (refine Cw.cond_dec rfl ?_ ?_ <;> intro hc <;> try omega) | refine Cw.cond_bool rfl ?_ ?_ <;> intro hc) | fail)
   exact ⟨_, _, _, (Ent.mk goSub goTk), ⟨j + 1, _, _, rfl, ⟨by omega, hV, hol2, s1, hl2, hob2⟩, rfl, rfl⟩, by omega⟩
  ·rw [List.drop_of_length_le (by omega), shF] at hV
   rw [hV]
   subst hr1
   have hlen : n = (intRows out).length := hl1.symm
   repeat' (first | refine goH ?_ | refine goV ?_ | refine goB (fun b => ?_) | refine goC (fun ad cap => ?_) | refine goI ?_ | (refine Cw.k_cond ?_; first | (refine Cw.cond_dec rfl ?_ ?_ <;> intro hc <;> try omega) | refine Cw.cond_bool rfl ?_ ?_ <;> intro hc) | fail)
   rw [hlen]
   refine Fin.ret (Ent.trans (Ent.settle (s := 6) rfl goPk rfl) (Ent.take goTk)) (Outs.sole rfl goOe) ⟨rfl, rfl⟩

end Lg
end
section
set_option linter.all false
set_option maxRecDepth 100000
set_option maxHeartbeats 4000000
namespace Lg
open Go Go.Proofs

/-! ### readings, in plain terms -/
structure Rdg where
 t : Int
 vs : List Int
theorem Rdg.ext' {x y : Rdg} (h1 : x.t = y.t) (h2 : x.vs = y.vs) : x = y := by
 cases x
 cases y
 simp at h1 h2
 rw [h1, h2]
/-- one after the other: the same moment as the last one -/
def dedA : List Rdg → List Rdg → Option (List Rdg)
 |acc, [] => some acc
 |acc, r :: l => match acc.getLast? with
  |none => dedA (acc ++ [r]) l
  |some x => if x.t = r.t then (if x.vs = r.vs then dedA acc l else none) else dedA (acc ++ [r]) l
def rlt : Rdg → Rdg → Bool := fun a b => decide (a.t < b.t)
/-! ### what happened between two readings -/
structure Stp where
 a : Int
 b : Int
 r : Bool
 s : List Int
def Stp.row (x : Stp) : List Tr := [.int x.a, .int x.b, .bool x.r, .ints x.s]
def limE (tn fast a b : Int) : Int := min (fast * (b / 1440 - a / 1440 + 1)) (tn - 1)
def difE (tn x y : Int) : Int := if y - x < 0 then y - x + tn else y - x
def difL (tn : Int) : List Int → List Int → List Int
 |x :: xs, y :: ys => difE tn x y :: difL tn xs ys
 |_, _ => []
def overB (lim : Int) (d : Int) : Bool := decide (lim < d)
def stpOf (tn fast : Int) (a b : Rdg) : Stp :=
 if (difL tn a.vs b.vs).any (overB (limE tn fast a.t b.t)) = true then ⟨a.t, b.t, true, b.vs⟩ else ⟨a.t, b.t, false, difL tn a.vs b.vs⟩
def stpsOf (tn fast : Int) : List Rdg → List Stp
 |a :: b :: l => stpOf tn fast a b :: stpsOf tn fast (b :: l)
 |_ => []
theorem difL_len (tn : Int) : ∀ {x y : List Int}, y.length = x.length → (difL tn x y).length = x.length
 |[], [], _ => rfl
 |x :: xs, y :: ys, h => by
  unfold difL
  rw [List.length_cons, List.length_cons, difL_len tn (x := xs) (y := ys) (by simpa using h)]
theorem difL_at (tn : Int) : ∀ {x y : List Int} {k : Nat} {p q : Int}, x[k]? = some p → y[k]? = some q → (difL tn x y)[k]? = some (difE tn p q)
 |[], _, k, p, q, h, _ => by simp at h
 |x :: xs, [], k, p, q, _, h => by simp at h
 |x :: xs, y :: ys, 0, p, q, h1, h2 => by
  simp at h1 h2
  subst h1
  subst h2
  rfl
 |x :: xs, y :: ys, k + 1, p, q, h1, h2 => by
  simp at h1 h2
  unfold difL
  rw [List.getElem?_cons_succ]
  exact difL_at tn h1 h2
theorem stpsOf_len (tn fast : Int) : ∀ l : List Rdg, (stpsOf tn fast l).length = l.length - 1
 |[] => rfl
 |[a] => rfl
 |a :: b :: l => by
  unfold stpsOf
  rw [List.length_cons, stpsOf_len tn fast (b :: l)]
  simp
theorem stpsOf_at (tn fast : Int) : ∀ {l : List Rdg} {k : Nat} {a b : Rdg}, l[k]? = some a → l[k + 1]? = some b → (stpsOf tn fast l)[k]? = some (stpOf tn fast a b)
 |[], k, a, b, h, _ => by simp at h
 |[x], k, a, b, _, h => by simp at h
 |x :: y :: l, 0, a, b, h1, h2 => by
  simp at h1 h2
  subst h1
  subst h2
  rfl
 |x :: y :: l, k + 1, a, b, h1, h2 => by
  rw [List.getElem?_cons_succ] at h1 h2
  unfold stpsOf
  rw [List.getElem?_cons_succ]
  exact stpsOf_at tn fast h1 h2
theorem difE_bd {tn x y : Int} (hx : 0 ≤ x ∧ x < tn) (hy : 0 ≤ y ∧ y < tn) : 0 ≤ difE tn x y ∧ difE tn x y < tn := by
 unfold difE
 split <;> omega
/-- the numbers that were sold, and the moments behind which counters were reset -/
def addL : List Int → List Int → List Int := List.zipWith (· + ·)
def soldF (acc : List Int) : List Stp → List Int
 |[] => acc
 |s :: l => soldF (addL acc s.s) l
end Lg
end
