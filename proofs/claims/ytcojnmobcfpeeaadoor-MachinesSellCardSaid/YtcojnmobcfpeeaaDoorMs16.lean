/- A part of the proof of a law of this seat: it adds no condition. By an AI agent. -/
import Derived.Test.YtcojnmobcfpeeaaDoorMs15
set_option linter.all false
set_option maxRecDepth 100000
set_option maxHeartbeats 8000000
namespace Lg
open Go Go.Proofs

/-! ### the other machine: Press -/
/-- a copy of an owned slice: one of its own, or a settled one -/
theorem cloneOO_tubeP {ad : Option Addr} {n cap : Nat} (rows : List (List Tr)) (hn : n = rows.length) (hl : rows.length ≤ 1000000) : Spec Tryd.prog 41 [Tr.raw (.slice ad n cap)] [Chunk.own ad cap 3 65 rows] (fun r cs => ∃ ad2 cap2, r = Tr.raw (.slice ad2 n cap2) ∧ cs = Chunk.own ad2 cap2 3 65 rows :: [Chunk.own ad cap 3 65 rows]) := by
 refine Spec.body Tryd.func41 rfl rfl (Tryd.ntmps41) rfl fun w0 own0 M => ?_
 cases ad with
 |none =>
  refine Cw.own_none (List.Perm.refl _) fun h1 h2 => ?_
  subst h1
  subst h2
  subst hn
  refine Cw.ent (Ent.nil 3 65) ?_
  repeat' (first | refine goH ?_ | (refine Ops.k_b_eql ?_; first | (refine Ops.eql_nilR rfl rfl ?_)) | refine goV ?_ | refine goC (fun ad cap => ?_) | refine goI ?_ | (refine Cw.k_cond ?_; first | (refine Cw.cond_dec rfl ?_ ?_ <;> intro hc <;> try omega) | refine Cw.cond_bool rfl ?_ ?_ <;> intro hc) | fail)
  exact Fin.ret Ent.refl (Outs.one rfl rfl) ⟨_, _, rfl, rfl⟩
 |some a =>
  repeat' (first | refine goH ?_ | (refine Ops.k_b_eql ?_; first | (refine Ops.eql_nilR rfl rfl ?_)) | ((fail_if_success refine Ops.k_buildSlice ?_); refine goV ?_) | ((fail_if_success refine Ops.k_buildSlice ?_); refine goC (fun ad cap => ?_)) | refine goI ?_ | (refine Cw.k_cond ?_; first | (refine Cw.cond_dec rfl ?_ ?_ <;> intro hc <;> try omega) | refine Cw.cond_bool rfl ?_ ?_ <;> intro hc) | fail)
  refine Ops.buildSlice_own (by exact Parts.nil) rfl rfl rfl (fun ad2 cap2 => ?_)
  repeat' (first | refine goH ?_ | ((fail_if_success refine Ops.k_c_append ?_); refine goV ?_) | ((fail_if_success refine Ops.k_c_append ?_); refine goC (fun ad cap => ?_)) | refine goI ?_ | (refine Cw.k_cond ?_; first | (refine Cw.cond_dec rfl ?_ ?_ <;> intro hc <;> try omega) | refine Cw.cond_bool rfl ?_ ?_ <;> intro hc) | fail)
  refine Ops.append_ownR rfl rfl (List.Perm.refl _) rfl hn (by simp; omega) (by simp; omega) rfl (fun ad3 cap3 => ?_)
  rw [show ∀ z : List (List Tr), z = [] → z ++ rows = rows from fun z h => by rw [h]; rfl]
  rotate_left
  ·rfl
  repeat' (first | refine goH ?_ | refine goV ?_ | refine goC (fun ad cap => ?_) | refine goI ?_ | (refine Cw.k_cond ?_; first | (refine Cw.cond_dec rfl ?_ ?_ <;> intro hc <;> try omega) | refine Cw.cond_bool rfl ?_ ?_ <;> intro hc) | fail)
  rw [hn]
  exact Fin.ret Ent.refl (Outs.one rfl rfl) ⟨_, _, rfl, rfl⟩
theorem put_none {W : List Tube} {v : Int} {E : List Int} {z : Int} (h : tubeN W v = none) : putC (v :: E) W z = putC E W (z + v) := by rw [putC, h]
theorem put_add {W : List Tube} {v : Int} {E : List Int} {z : Int} {k : Nat} (h : tubeN W v = some k) (hc : (tAt W k).cnt < (tAt W k).most) : putC (v :: E) W z = putC E (addT W k 1) z := by rw [putC, h]; simp only; rw [if_pos hc]
theorem put_full {W : List Tube} {v : Int} {E : List Int} {z : Int} {k : Nat} (h : tubeN W v = some k) (hc : ¬ (tAt W k).cnt < (tAt W k).most) : putC (v :: E) W z = putC E W (z + v) := by rw [putC, h]; simp only; rw [if_neg hc]
theorem coinsR {T : List Tube} (ho : TbOk T) {a : Nat} (hy : payK nev T T.length a < nev) : gl (chg (pk nevR T) T a) T.length = coinsL T a := by
 unfold coinsL
 exact gl_ext fun j hj => chg_same ho hy hj
theorem changeL_yes {ad : Option Addr} {n cap : Nat} (T : List Tube) (ho : TbOk T) (hn : n = T.length) (a : Nat) (ha : a ≤ 20000) (hy : payK nev T T.length a < nev) :
  Spec Tryd.prog 58 [Tr.raw (.slice ad n cap), .int a] [ownT ad cap T] (fun r cs => r = .tup [.ints (coinsL T a), .int 0] ∧ cs = [ownT ad cap T]) := by
 have k0 := changeO_fn T ho a ha
 simp only [if_pos hy] at k0
 have k1 := Spec.lend (E := 65) (ad := ad) (cap := cap) (n := n) (pre := []) (suf := [.int a]) k0 (by rw [List.length_map, hn]) (by
  rintro r cs ⟨ad, cap, rfl, rfl⟩
  refine ⟨FreeT.tup (.cons FreeT.raw (.cons FreeT.raw .nil)), fun c hc => ?_⟩
  rw [List.mem_singleton.1 hc]
  exact FreeC.own (FreeL.intRows _))
 refine Spec.settle2 (n := T.length) (E := 3) (L := [ownT ad cap T]) (k1.mono ?_) (by rw [intRows_len, coinsL_len])
 rintro r cs ⟨cs0, rfl, ad2, cap2, rfl, rfl⟩
 rw [coinsR ho hy]
 exact ⟨_, _, rfl, rfl⟩
theorem changeL_no {ad : Option Addr} {n cap : Nat} (T : List Tube) (ho : TbOk T) (hn : n = T.length) (a : Nat) (ha : a ≤ 20000) (hy : ¬ payK nev T T.length a < nev) :
  Spec Tryd.prog 58 [Tr.raw (.slice ad n cap), .int a] [ownT ad cap T] (fun r cs => r = .tup [Tr.raw (.slice none 0 0), .int 8] ∧ cs = [ownT ad cap T]) := by
 have k0 := changeO_fn T ho a ha
 simp only [if_neg hy] at k0
 have k1 := Spec.lend (E := 65) (ad := ad) (cap := cap) (n := n) (pre := []) (suf := [.int a]) k0 (by rw [List.length_map, hn]) (by
  rintro r cs ⟨rfl, rfl⟩
  exact ⟨FreeT.tup (.cons FreeT.raw (.cons FreeT.raw .nil)), by simp⟩)
 refine k1.mono ?_
 rintro r cs ⟨cs0, rfl, rfl, rfl⟩
 exact ⟨rfl, rfl⟩
attribute [local irreducible] intRows tknT tknR coinsL subT putC
theorem pressR_bad {b bj bs : Nat} {aT aS aE aI aO aF aC : Option Addr} {nT cT nS cS nE cE nI cI nO cO nF cF nC cC : Nat} {K : List Int} {G x : Int} (T : List Tube) (L : List SlotM) (J : List Bool) (E : List Int) (kv : KB) (key : ByteArray) (ho : TbOk T) (hnT : nT = T.length) (hnS : nS = L.length) (hnE : nE = E.length) (hl : L.length ≤ 1000)
  (hE : E.length ≤ 20000) (hEb : ∀ v ∈ E, 0 ≤ v ∧ v ≤ 20000) (hS : ∀ x ∈ L, 1 ≤ x.price ∧ x.price ≤ 20000 ∧ 0 ≤ x.cnt ∧ x.cnt ≤ 1000) (hr : 0 ≤ sumF id E ∧ sumF id E ≤ 20000) (hx : 0 ≤ x ∧ x ≤ 1000000000000) (hJM : JM kv L J) (hbad : prsE L J (slotN L key) T E (sumF id E) ≠ 0) :
  Spec Tryd.prog 16 [.ptr b, .str key] [mR b aT nT cT K aS nS cS G bj aE nE cE x bs aI nI cI aO nO cO aF nF cF aC nC cC, ownT aT cT T, ownS aS cS L, Chunk.mp Value.string bj kv, ownI aE cE E] (fun y cs => y = .tup [.agg [.str ByteArray.empty, .int 0, .ints []], .int (prsE L J (slotN L key) T E (sumF id E))] ∧ cs = [mR b aT nT cT K aS nS cS G bj aE nE cE x bs aI nI cI aO nO cO aF nF cF aC nC cC, ownT aT cT T, ownS aS cS L, Chunk.mp Value.string bj kv, ownI aE cE E]) := by
 have kS : Spec Tryd.prog 55 [.ptr b, .str key] [mR b aT nT cT K aS nS cS G bj aE nE cE x bs aI nI cI aO nO cO aF nF cF aC nC cC, ownS aS cS L] (fun y cs => y = .int (ixN (slotN L key)) ∧ cs = [mR b aT nT cT K aS nS cS G bj aE nE cE x bs aI nI cI aO nO cO aF nF cF aC nC cC, ownS aS cS L]) := slotR_fn L key hl hnS
 have hSr : (L.map SlotM.row).length = nS := by rw [List.length_map, hnS]
 have hEr : (intRows E).length = nE := by rw [intRows_len, hnE]
 have kM := sumO_fn (a := aE) (n := nE) (c := cE) E hnE (by omega) (fun v hv => by have := hEb v hv; omega)
 have hok := tkn_ok ho hEb
 have hTl : (tknT T E).length = T.length := by
  have hAl : (tknA T E).1.length = T.length := by unfold tknA; rw [cntA_len, List.length_replicate]
  with_unfolding_all unfold tknT
  exact stlT_len _ _ hAl
 have hput := put_tkn (fun d hd => ⟨(ho.cnt d hd).1, (ho.cnt d hd).2.1⟩) E x
 have kCl := cloneOO_tubeP (ad := aT) (n := nT) (cap := cT) (T.map Tube.row) (by rw [List.length_map, hnT]) (by rw [List.length_map]; have := ho.len; omega)
 have hTb : ∀ d ∈ T, 0 ≤ d.cnt ∧ d.cnt ≤ d.most ∧ d.most ≤ 1000 := ho.cnt
 have hTlen := ho.len
 generalize sumF id E = r at *
 cases hk : slotN L key with
 |none =>
  rw [hk] at kS
  unfold ixN at kS
  simp only at kS
  unfold prsE
  clear hok hbad hput
  refine Spec.body Tryd.func16 rfl rfl (Tryd.ntmps16) rfl fun w0 own0 M => ?_
  repeat' (first | refine goH ?_ | refine goV ?_ | refine goB (fun b => ?_) | refine goC (fun ad cap => ?_) | refine goG ?_ | (refine Ops.k_guard ?_; first | (refine Ops.guard_dec rfl rfl ?_ ?_ <;> intro hc <;> try omega) | refine Ops.guard_split rfl rfl ?_ ?_ <;> intro hc) | refine goI ?_ | (refine Cw.k_cond ?_; first | (refine Cw.cond_dec rfl ?_ ?_ <;> intro hc <;> try omega) | refine Cw.cond_bool rfl ?_ ?_ <;> intro hc) | (refine Ops.k_calla ?_; first | (refine Ops.k_callf 55 ?_; refine Ops.callS kS (Evs.cons rfl (Evs.cons rfl Evs.nil)) goPm rfl ?_)) | (apply OpW.k_call; first | (apply OpW.k_callf 55; exact OpW.callS kS (Evs.cons rfl (Evs.cons rfl Evs.nil)) goPm)) | refine goR ?_ | refine goP ?_ | apply PSeq.cons | apply PSeq.yes rfl rfl rfl | exact goW | fail)
  exact Fin.ret (Ent.trans (Ent.imp_box goPk impSale) (Ent.trans (Ent.setbox (s := 4) rfl goPk) (Ent.take goTk))) (Outs.many rfl (OutL.cons goOe (OutL.cons goOe OutL.nil)) rfl) ⟨rfl, rfl⟩
 |some k =>
  obtain ⟨d, hd, hpk, hkl⟩ := findN_some (p := slotP key) hk
  have hkey : d.key = key := by unfold slotP at hpk; simpa using hpk
  rw [hk] at kS hbad
  unfold ixN at kS
  simp only at kS
  have hp := hS d (List.mem_of_getElem? hd)
  have hmr := hJM k d hd
  rw [hkey] at hmr
  obtain ⟨v0, hv0⟩ : ∃ v0, v0 = J.getD k false := ⟨_, rfl⟩
  rw [← hv0] at hmr
  have hrow : (L.map SlotM.row)[((k : Nat) : Int).toNat]? = some [.str d.key, .str d.prod, .int d.price, .int d.most, .int d.cnt] := by rw [Int.toNat_natCast]; exact rows_at hd
  have hAt := tAtS_eq hd
  by_cases h1 : v0 = true ∨ d.cnt = 0
  ·have hO : prsE L J (some k) T E r = 11 := by unfold prsE; simp only; rw [if_pos (by rw [← hv0, hAt]; exact h1)]
   rw [hO]
   clear hok hbad hO hput hv0
   refine Spec.body Tryd.func16 rfl rfl (Tryd.ntmps16) rfl fun w0 own0 M => ?_
   cases v0 with
   |true =>
    repeat' (first | refine goH ?_ | (refine Ops.k_lookup ?_; first | (refine Ops.lookup rfl rfl goPk rfl ?_; rw [hmr])) | refine goV ?_ | refine goB (fun b => ?_) | refine goC (fun ad cap => ?_) | (refine Ops.k_nilCheck ?_; first | refine Ops.nilCheck_eptr rfl rfl ?_) | refine goG ?_ | (refine Ops.k_guard ?_; first | (refine Ops.guard_dec rfl rfl ?_ ?_ <;> intro hc <;> try omega) | refine Ops.guard_split rfl rfl ?_ ?_ <;> intro hc) | refine goI ?_ | (refine Cw.k_cond ?_; first | (refine Cw.cond_dec rfl ?_ ?_ <;> intro hc <;> try omega) | refine Cw.cond_bool rfl ?_ ?_ <;> intro hc) | exact OpV.w (OpV.nilCheck_eptr rfl) | (refine Ops.k_calla ?_; first | (refine Ops.k_callf 55 ?_; refine Ops.callS kS (Evs.cons rfl (Evs.cons rfl Evs.nil)) goPm rfl ?_) | (refine Ops.k_callf 51 ?_; refine Ops.callS kM (Evs.cons rfl Evs.nil) goPm rfl ?_)) | (apply OpW.k_call; first | (apply OpW.k_callf 55; exact OpW.callS kS (Evs.cons rfl (Evs.cons rfl Evs.nil)) goPm) | (apply OpW.k_callf 51; exact OpW.callS kM (Evs.cons rfl Evs.nil) goPm)) | refine goR ?_ | refine goP ?_ | apply PSeq.cons | apply PSeq.yes rfl rfl rfl | exact goW | fail)
    exact Fin.ret (Ent.trans (Ent.imp_box goPk impSale) (Ent.trans (Ent.setbox (s := 4) rfl goPk) (Ent.take goTk))) (Outs.many rfl (OutL.cons goOe (OutL.cons goOe OutL.nil)) rfl) ⟨rfl, rfl⟩
   |false =>
    have h1' : d.cnt = 0 := by simpa using h1
    repeat' (first | refine goH ?_ | (refine Ops.k_lookup ?_; first | (refine Ops.lookup rfl rfl goPk rfl ?_; rw [hmr])) | refine goV ?_ | refine goB (fun b => ?_) | refine goC (fun ad cap => ?_) | (refine Ops.k_nilCheck ?_; first | refine Ops.nilCheck_eptr rfl rfl ?_) | refine goG ?_ | (refine Ops.k_guard ?_; first | (refine Ops.guard_dec rfl rfl ?_ ?_ <;> intro hc <;> try omega) | refine Ops.guard_split rfl rfl ?_ ?_ <;> intro hc) | refine goI ?_ | (refine Cw.k_cond ?_; first | (refine Cw.cond_dec rfl ?_ ?_ <;> intro hc <;> try omega) | refine Cw.cond_bool rfl ?_ ?_ <;> intro hc) | exact OpV.w (OpV.nilCheck_eptr rfl) | (refine Ops.k_calla ?_; first | (refine Ops.k_callf 55 ?_; refine Ops.callS kS (Evs.cons rfl (Evs.cons rfl Evs.nil)) goPm rfl ?_) | (refine Ops.k_callf 51 ?_; refine Ops.callS kM (Evs.cons rfl Evs.nil) goPm rfl ?_)) | (apply OpW.k_call; first | (apply OpW.k_callf 55; exact OpW.callS kS (Evs.cons rfl (Evs.cons rfl Evs.nil)) goPm) | (apply OpW.k_callf 51; exact OpW.callS kM (Evs.cons rfl Evs.nil) goPm)) | refine goR ?_ | refine goP ?_ | apply PSeq.cons | apply PSeq.yes rfl rfl rfl | exact goW | fail)
    exact Fin.ret (Ent.trans (Ent.imp_box goPk impSale) (Ent.trans (Ent.setbox (s := 4) rfl goPk) (Ent.take goTk))) (Outs.many rfl (OutL.cons goOe (OutL.cons goOe OutL.nil)) rfl) ⟨rfl, rfl⟩
  obtain ⟨h1a, h1b⟩ := not_or.1 h1
  have hvf : v0 = false := by simpa using h1a
  by_cases h2 : r < d.price
  ·have hO : prsE L J (some k) T E r = 16 := by unfold prsE; simp only; rw [if_neg (by rw [← hv0, hAt]; exact h1), hAt, if_pos h2]
   rw [hO]
   subst hvf
   clear hok hbad hO hput hv0
   refine Spec.body Tryd.func16 rfl rfl (Tryd.ntmps16) rfl fun w0 own0 M => ?_
   repeat' (first | refine goH ?_ | (refine Ops.k_lookup ?_; first | (refine Ops.lookup rfl rfl goPk rfl ?_; rw [hmr])) | refine goV ?_ | refine goB (fun b => ?_) | refine goC (fun ad cap => ?_) | (refine Ops.k_nilCheck ?_; first | refine Ops.nilCheck_eptr rfl rfl ?_) | refine goG ?_ | (refine Ops.k_guard ?_; first | (refine Ops.guard_dec rfl rfl ?_ ?_ <;> intro hc <;> try omega) | refine Ops.guard_split rfl rfl ?_ ?_ <;> intro hc) | refine goI ?_ | (refine Cw.k_cond ?_; first | (refine Cw.cond_dec rfl ?_ ?_ <;> intro hc <;> try omega) | refine Cw.cond_bool rfl ?_ ?_ <;> intro hc) | exact OpV.w (OpV.nilCheck_eptr rfl) | (refine Ops.k_calla ?_; first | (refine Ops.k_callf 55 ?_; refine Ops.callS kS (Evs.cons rfl (Evs.cons rfl Evs.nil)) goPm rfl ?_) | (refine Ops.k_callf 51 ?_; refine Ops.callS kM (Evs.cons rfl Evs.nil) goPm rfl ?_)) | (apply OpW.k_call; first | (apply OpW.k_callf 55; exact OpW.callS kS (Evs.cons rfl (Evs.cons rfl Evs.nil)) goPm) | (apply OpW.k_callf 51; exact OpW.callS kM (Evs.cons rfl Evs.nil) goPm)) | refine goR ?_ | refine goP ?_ | apply PSeq.cons | apply PSeq.yes rfl rfl rfl | exact goW | fail)
   exact Fin.ret (Ent.trans (Ent.imp_box goPk impSale) (Ent.trans (Ent.setbox (s := 4) rfl goPk) (Ent.take goTk))) (Outs.many rfl (OutL.cons goOe (OutL.cons goOe OutL.nil)) rfl) ⟨rfl, rfl⟩
  have hno : ¬ payK nev (tknT T E) (tknT T E).length (r - d.price).toNat < nev := fun h => hbad (by unfold prsE; simp only; rw [if_neg (by rw [← hv0, hAt]; exact h1), hAt, if_neg h2, if_pos h])
  have hO : prsE L J (some k) T E r = 13 := by unfold prsE; simp only; rw [if_neg (by rw [← hv0, hAt]; exact h1), hAt, if_neg h2, if_neg hno]
  rw [hO]
  subst hvf
  have kP := fun (ad : Option Addr) (cap : Nat) => changeL_no (ad := ad) (cap := cap) (n := nT) (tknT T E) hok (by omega) (r - d.price).toNat (by omega) hno
  rw [Int.toNat_of_nonneg (by omega)] at kP
  clear hok hbad hO hno hv0
  generalize tknT T E = W1 at *
  generalize x + tknR T E = z1 at *
  generalize b = bm at *
  refine Spec.body Tryd.func16 rfl rfl (Tryd.ntmps16) rfl fun w0 own0 M => ?_
  repeat' (first | refine goH ?_ | (refine Ops.k_lookup ?_; first | (refine Ops.lookup rfl rfl goPk rfl ?_; rw [hmr])) | refine goV ?_ | refine goB (fun b => ?_) | refine goC (fun ad cap => ?_) | (refine Ops.k_nilCheck ?_; first | refine Ops.nilCheck_eptr rfl rfl ?_) | refine goG ?_ | (refine Ops.k_guard ?_; first | (refine Ops.guard_dec rfl rfl ?_ ?_ <;> intro hc <;> try omega) | refine Ops.guard_split rfl rfl ?_ ?_ <;> intro hc) | refine goI ?_ | (refine Cw.k_cond ?_; first | (refine Cw.cond_dec rfl ?_ ?_ <;> intro hc <;> try omega) | refine Cw.cond_bool rfl ?_ ?_ <;> intro hc) | exact OpV.w (OpV.nilCheck_eptr rfl) | (refine Ops.k_calla ?_; first | (refine Ops.k_callf 55 ?_; refine Ops.callS kS (Evs.cons rfl (Evs.cons rfl Evs.nil)) goPm rfl ?_) | (refine Ops.k_callf 51 ?_; refine Ops.callS kM (Evs.cons rfl Evs.nil) goPm rfl ?_)) | (apply OpW.k_call; first | (apply OpW.k_callf 55; exact OpW.callS kS (Evs.cons rfl (Evs.cons rfl Evs.nil)) goPm) | (apply OpW.k_callf 51; exact OpW.callS kM (Evs.cons rfl Evs.nil) goPm)) | fail)
  first | refine Cw.region_YP (fun ξ S => Chunk.box b 44 (List.map Tr.raw [Value.string ByteArray.empty, Value.int IntKind.i64 0, Value.slice none 0 0]) :: Chunk.box bm 85 [Tr.raw (.slice aT nT cT), .ints K, Tr.raw (.slice aS nS cS), .int G, Tr.raw (.map (some bj)), Tr.raw (.slice aE nE cE), .int x, Tr.raw (.map (some bs)), Tr.raw (.slice aI nI cI), Tr.raw (.slice aO nO cO), Tr.raw (.slice aF nF cF), Tr.raw (.slice aC nC cC)] :: Chunk.own aT cT 3 65 (T.map Tube.row) :: Chunk.own aS cS 5 63 (L.map SlotM.row) :: Chunk.mp Value.string bj kv :: Chunk.own aE cE 1 3 (intRows E) :: (stg (S 5) [] [ownV (ξ 5) 3 65 (T.map Tube.row)] ++ [])) rfl (by decide +kernel) rfl ((fun (ξ : Nat → Value) (S : Nat → Bool) => Chunk.box b 44 (List.map Tr.raw [Value.string ByteArray.empty, Value.int IntKind.i64 0, Value.slice none 0 0]) :: Chunk.box bm 85 [Tr.raw (.slice aT nT cT), .ints K, Tr.raw (.slice aS nS cS), .int G, Tr.raw (.map (some bj)), Tr.raw (.slice aE nE cE), .int x, Tr.raw (.map (some bs)), Tr.raw (.slice aI nI cI), Tr.raw (.slice aO nO cO), Tr.raw (.slice aF nF cF), Tr.raw (.slice aC nC cC)] :: Chunk.own aT cT 3 65 (T.map Tube.row) :: Chunk.own aS cS 5 63 (L.map SlotM.row) :: Chunk.mp Value.string bj kv :: Chunk.own aE cE 1 3 (intRows E) :: (stg (S 5) [] [ownV (ξ 5) 3 65 (T.map Tube.row)] ++ [])) (fun _ => undef) (fun _ => false)) (by simp only [upd_same, updD_same, upd_ne, updD_ne, ne_eq, Nat.reduceEqDiff, not_false_eq_true, stg_t, stg_f, vAd_s, vCap_s, blk_p, List.cons_append, List.nil_append, b2n_t, b2n_f]; exact goXm) (fun _ => rfl) ?_ | fail
  apply YSeq.w (by intro _ _ _; rfl)
  ·intro ξ S h1 h2 h3 h4
   have hN0_1 := closed_false h1 h3 (k := 1) rfl (by decide)
   have hN0_2 := closed_false hN0_1 h3 (k := 2) rfl (by decide)
   have hN0_3 := closed_false hN0_2 h3 (k := 3) rfl (by decide)
   have hN0_4 := closed_false hN0_3 h3 (k := 4) rfl (by decide)
   have hN0_5 := closed_false hN0_4 h3 (k := 5) rfl (by decide)
   try simp only [upd_same, updD_same, upd_ne, updD_ne, ne_eq, Nat.reduceEqDiff, not_false_eq_true, stg_t, stg_f, vAd_s, vCap_s, blk_p, List.cons_append, List.nil_append, b2n_t, b2n_f, hN0_5]
   exact goW
  ·intro ξ v; rfl
  ·intro ξ k v S h3 hn hk
   first
   |rfl
  apply YSeq.w (by intro _ _ _; rfl)
  ·intro ξ S h1 h2 h3 h4
   have hN1_2 := closed_false h1 h3 (k := 2) rfl (by decide)
   have hN1_3 := closed_false hN1_2 h3 (k := 3) rfl (by decide)
   have hN1_4 := closed_false hN1_3 h3 (k := 4) rfl (by decide)
   have hN1_5 := closed_false hN1_4 h3 (k := 5) rfl (by decide)
   try simp only [upd_same, updD_same, upd_ne, updD_ne, ne_eq, Nat.reduceEqDiff, not_false_eq_true, stg_t, stg_f, vAd_s, vCap_s, blk_p, List.cons_append, List.nil_append, b2n_t, b2n_f, hN1_5]
   exact goW
  ·intro ξ v; rfl
  ·intro ξ k v S h3 hn hk
   first
   |rfl
  apply YSeq.w (by intro _ _ _; rfl)
  ·intro ξ S h1 h2 h3 h4
   have hN2_3 := closed_false h1 h3 (k := 3) rfl (by decide)
   have hN2_4 := closed_false hN2_3 h3 (k := 4) rfl (by decide)
   have hN2_5 := closed_false hN2_4 h3 (k := 5) rfl (by decide)
   try simp only [upd_same, updD_same, upd_ne, updD_ne, ne_eq, Nat.reduceEqDiff, not_false_eq_true, stg_t, stg_f, vAd_s, vCap_s, blk_p, List.cons_append, List.nil_append, b2n_t, b2n_f, hN2_5]
   exact goW
  ·intro ξ v; rfl
  ·intro ξ k v S h3 hn hk
   first
   |rfl
  apply YSeq.w (by intro _ _ _; rfl)
  ·intro ξ S h1 h2 h3 h4
   have hN3_4 := closed_false h1 h3 (k := 4) rfl (by decide)
   have hN3_5 := closed_false hN3_4 h3 (k := 5) rfl (by decide)
   try simp only [upd_same, updD_same, upd_ne, updD_ne, ne_eq, Nat.reduceEqDiff, not_false_eq_true, stg_t, stg_f, vAd_s, vCap_s, blk_p, List.cons_append, List.nil_append, b2n_t, b2n_f, hN3_5]
   exact goW
  ·intro ξ v; rfl
  ·intro ξ k v S h3 hn hk
   first
   |rfl
  apply YSeq.w (by intro _ _ _; rfl)
  ·intro ξ S h1 h2 h3 h4
   have hN4_5 := closed_false h1 h3 (k := 5) rfl (by decide)
   try simp only [upd_same, updD_same, upd_ne, updD_ne, ne_eq, Nat.reduceEqDiff, not_false_eq_true, stg_t, stg_f, vAd_s, vCap_s, blk_p, List.cons_append, List.nil_append, b2n_t, b2n_f, hN4_5]
   exact goW
  ·intro ξ v; rfl
  ·intro ξ k v S h3 hn hk
   first
   |rfl
  apply YSeq.callM (nT)
  ·intro ξ S h1 h2 h3 h4
   simp only [upd_same, updD_same, upd_ne, updD_ne, ne_eq, Nat.reduceEqDiff, not_false_eq_true, stg_t, stg_f, vAd_s, vCap_s, blk_p, List.cons_append, List.nil_append, b2n_t, b2n_f, h1]
   refine ⟨_, _, _, _, _, kCl, (Evs.cons rfl Evs.nil), goXp, fun ad' cap' => ?_⟩
   try simp only [upd_same, updD_same, upd_ne, updD_ne, ne_eq, Nat.reduceEqDiff, not_false_eq_true, stg_t, stg_f, vAd_s, vCap_s, blk_p, List.cons_append, List.nil_append, b2n_t, b2n_f, h1]
   exact goXm
  apply YSeq.w (by intro _ _ _; rfl)
  ·intro ξ S h1 h2 h3 h4
   try simp only [upd_same, updD_same, upd_ne, updD_ne, ne_eq, Nat.reduceEqDiff, not_false_eq_true, stg_t, stg_f, vAd_s, vCap_s, blk_p, List.cons_append, List.nil_append, b2n_t, b2n_f]
   exact goW
  ·intro ξ v; rfl
  ·intro ξ k v S h3 hn hk
   first
   |rfl
  apply YSeq.w (by intro _ _ _; rfl)
  ·intro ξ S h1 h2 h3 h4
   try simp only [upd_same, updD_same, upd_ne, updD_ne, ne_eq, Nat.reduceEqDiff, not_false_eq_true, stg_t, stg_f, vAd_s, vCap_s, blk_p, List.cons_append, List.nil_append, b2n_t, b2n_f]
   exact goW
  ·intro ξ v; rfl
  ·intro ξ k v S h3 hn hk
   first
   |rfl
  apply YSeq.w (by intro _ _ _; rfl)
  ·intro ξ S h1 h2 h3 h4
   try simp only [upd_same, updD_same, upd_ne, updD_ne, ne_eq, Nat.reduceEqDiff, not_false_eq_true, stg_t, stg_f, vAd_s, vCap_s, blk_p, List.cons_append, List.nil_append, b2n_t, b2n_f]
   exact goW
  ·intro ξ v; rfl
  ·intro ξ k v S h3 hn hk
   first
   |rfl
  apply YSeq.w (by intro _ _ _; rfl)
  ·intro ξ S h1 h2 h3 h4
   try simp only [upd_same, updD_same, upd_ne, updD_ne, ne_eq, Nat.reduceEqDiff, not_false_eq_true, stg_t, stg_f, vAd_s, vCap_s, blk_p, List.cons_append, List.nil_append, b2n_t, b2n_f]
   exact goW
  ·intro ξ v; rfl
  ·intro ξ k v S h3 hn hk
   first
   |rfl
  apply YSeq.w (by intro _ _ _; rfl)
  ·intro ξ S h1 h2 h3 h4
   have hY10_5 : S 5 = true := h2 5 (by decide)
   try simp only [upd_same, updD_same, upd_ne, updD_ne, ne_eq, Nat.reduceEqDiff, not_false_eq_true, stg_t, stg_f, vAd_s, vCap_s, blk_p, List.cons_append, List.nil_append, b2n_t, b2n_f, hY10_5]
   exact goW
  ·intro ξ v; rfl
  ·intro ξ k v S h3 hn hk
   first
   |rfl
   |skip
    have hY10_5 : S 5 = true := h3 10 _ rfl hn 5 (by decide)
    simp only [upd_S hY10_5 hk]
  apply YSeq.w (by intro _ _ _; rfl)
  ·intro ξ S h1 h2 h3 h4
   have hY11_5 : S 5 = true := h2 5 (by decide)
   try simp only [upd_same, updD_same, upd_ne, updD_ne, ne_eq, Nat.reduceEqDiff, not_false_eq_true, stg_t, stg_f, vAd_s, vCap_s, blk_p, List.cons_append, List.nil_append, b2n_t, b2n_f, hY11_5]
   exact goW
  ·intro ξ v; rfl
  ·intro ξ k v S h3 hn hk
   first
   |rfl
   |skip
    have hY11_5 : S 5 = true := h3 11 _ rfl hn 5 (by decide)
    simp only [upd_S hY11_5 hk]
  refine YSeq.nil fun ξ hf => ?_
  refine ⟨[(0, _), (1, _), (4, _), (6, _), (7, _), (8, _), (9, _), (10, _)], _, Ent.trans (Ent.eqc rfl (by first | (simp only [upd_same, updD_same, upd_ne, updD_ne, ne_eq, Nat.reduceEqDiff, not_false_eq_true, stg_t, stg_f, vAd_s, vCap_s, blk_p, List.cons_append, List.nil_append, b2n_t, b2n_f, ownV, slV, ptV] <;> rfl) | rfl)) (Ent.sub goSub), ?_⟩
  clear hf
  generalize vAd (ξ 5) = ad62
  generalize vCap (ξ 5) = cap62
  refine Then.norm ?_
  repeat' (first | refine goH ?_ | refine goV ?_ | refine goB (fun b => ?_) | refine goC (fun ad cap => ?_) | refine goG ?_ | (refine Ops.k_guard ?_; first | (refine Ops.guard_dec rfl rfl ?_ ?_ <;> intro hc <;> try omega) | refine Ops.guard_split rfl rfl ?_ ?_ <;> intro hc) | refine goI ?_ | (refine Cw.k_cond ?_; first | (refine Cw.cond_dec rfl ?_ ?_ <;> intro hc <;> try omega) | refine Cw.cond_bool rfl ?_ ?_ <;> intro hc) | refine goR ?_ | refine goP ?_ | apply PSeq.cons | apply PSeq.yes rfl rfl rfl | exact goW | fail)
  refine Cw.loopI [(0, _), (1, _), (4, _), (6, _), (7, _), (8, _), (9, _), (70, _), (71, _)] _ (fun q e cc => ∃ (k : Nat) (W : List Tube) (z : Int), q = E.length - k ∧ (k ≤ E.length ∧ putC (E.drop k) W z = (W1, z1) ∧ W.length = T.length ∧ (∀ d ∈ W, 0 ≤ d.cnt ∧ d.cnt ≤ d.most ∧ d.most ≤ 1000) ∧ 0 ≤ z ∧ z ≤ 1000000000000 + 20000 * k) ∧ e = [(10, .int z), (72, .int k)] ∧ cc = [ownT ad62 cap62 W])
   ⟨_, _, _, (Ent.mkP goSub goPm), 0, T, x, rfl, ⟨by omega, hput, rfl, hTb, by omega, by omega⟩, rfl, rfl⟩ ?_
  clear hput hTb kCl kS kM
  rintro _ _ _ ⟨j, W, z, rfl, ⟨hj, hpu, hWl, hWb, hz0, hz1⟩, rfl, rfl⟩
  have hWr : (W.map Tube.row).length = nT := by rw [List.length_map, hWl, hnT]
  by_cases hjl : j < E.length
  ·obtain ⟨v, hv⟩ := at_lt hjl
   have hvb := hEb v (List.mem_of_getElem? hv)
   have hrowE : (intRows E)[j]? = some [.int v] := intRows_at hv
   rw [drop_at hv] at hpu
   have kF := fun (b3 : Nat) => indexFuncO_tube (ad := ad62) (cap := cap62) (cin := [Chunk.box b3 3 [.int v]]) (caps := [.pointer (some ⟨b3, 0, none⟩)]) (g := 57) (p := tubeP v) (l := W) (n := nT) (by omega) (by omega) (fun d _ => tubeCP_fn d b3 v)
   have e : idxFrom (tubeP v) W 0 = ixN (tubeN W v) := by
    rw [idxFrom_n]
    unfold ixN tubeN
    cases W.findIdx? (tubeP v) with
    |none => rfl
    |some j => exact Int.zero_add _
   rw [e] at kF
   clear e
   cases hk2 : tubeN W v with
   |none =>
    rw [hk2] at kF
    unfold ixN at kF
    simp only at kF
    rw [put_none hk2] at hpu
    repeat' (first | refine goH ?_ | refine goV ?_ | refine goB (fun b => ?_) | refine goC (fun ad cap => ?_) | refine goG ?_ | (refine Ops.k_guard ?_; first | (refine Ops.guard_dec rfl rfl ?_ ?_ <;> intro hc <;> try omega) | refine Ops.guard_split rfl rfl ?_ ?_ <;> intro hc) | refine goI ?_ | (refine Cw.k_cond ?_; first | (refine Cw.cond_dec rfl ?_ ?_ <;> intro hc <;> try omega) | refine Cw.cond_bool rfl ?_ ?_ <;> intro hc) | (refine Ops.k_calla ?_; first | (refine Ops.k_callf 56 ?_; refine Ops.callS (kF _) (Evs.cons rfl (Evs.cons rfl Evs.nil)) goPm rfl ?_)) | (apply OpW.k_call; first | (apply OpW.k_callf 56; exact OpW.callS (kF _) (Evs.cons rfl (Evs.cons rfl Evs.nil)) goPm)) | refine goR ?_ | refine goP ?_ | apply PSeq.cons | apply PSeq.yes rfl rfl rfl | exact goW | fail)
    exact ⟨_, _, _, (Ent.mk goSub goTk), ⟨j + 1, W, z + v, rfl, ⟨by omega, hpu, hWl, hWb, by omega, by omega⟩, rfl, rfl⟩, by omega⟩
   |some i =>
    obtain ⟨d2, hd2, _, hil⟩ := findN_some (p := tubeP v) hk2
    rw [hk2] at kF
    unfold ixN at kF
    simp only at kF
    have hAt2 := tAt_eq hd2
    have hdb := hWb d2 (List.mem_of_getElem? hd2)
    have hrowW : (W.map Tube.row)[((i : Nat) : Int).toNat]? = some [.int d2.val, .int d2.cnt, .int d2.most] := by rw [Int.toNat_natCast]; exact rows_at hd2
    by_cases hc2 : d2.cnt < d2.most
    ·rw [put_add hk2 (by rw [hAt2]; exact hc2)] at hpu
     have ha2 : addT W i 1 = W.set i { d2 with cnt := d2.cnt + 1 } := by unfold addT; rw [hAt2]
     rw [ha2] at hpu
     have e4 : (W.map Tube.row).set ((i : Nat) : Int).toNat [.int d2.val, .int (d2.cnt + 1), .int d2.most] = (W.set i { d2 with cnt := d2.cnt + 1 }).map Tube.row := by rw [Int.toNat_natCast]; exact tubeRow_set W i { d2 with cnt := d2.cnt + 1 }
     have hWb2 : ∀ d ∈ W.set i { d2 with cnt := d2.cnt + 1 }, 0 ≤ d.cnt ∧ d.cnt ≤ d.most ∧ d.most ≤ 1000 := fun d hd => by
      rcases List.mem_or_eq_of_mem_set hd with h | h
      ·exact hWb d h
      ·subst h
       show 0 ≤ d2.cnt + 1 ∧ d2.cnt + 1 ≤ d2.most ∧ d2.most ≤ 1000
       omega
     clear hWb
     repeat' (first | refine goH ?_ | refine goV ?_ | refine goB (fun b => ?_) | refine goC (fun ad cap => ?_) | refine goG ?_ | (refine Ops.k_guard ?_; first | (refine Ops.guard_dec rfl rfl ?_ ?_ <;> intro hc <;> try omega) | refine Ops.guard_split rfl rfl ?_ ?_ <;> intro hc) | refine goI ?_ | (refine Cw.k_cond ?_; first | (refine Cw.cond_dec rfl ?_ ?_ <;> intro hc <;> try omega) | refine Cw.cond_bool rfl ?_ ?_ <;> intro hc) | (refine Ops.k_calla ?_; first | (refine Ops.k_callf 56 ?_; refine Ops.callS (kF _) (Evs.cons rfl (Evs.cons rfl Evs.nil)) goPm rfl ?_)) | (apply OpW.k_call; first | (apply OpW.k_callf 56; exact OpW.callS (kF _) (Evs.cons rfl (Evs.cons rfl Evs.nil)) goPm)) | refine goR ?_ | refine goP ?_ | apply PSeq.cons | apply PSeq.yes rfl rfl rfl | exact goW | fail)
     erw [e4]
     exact ⟨_, _, _, (Ent.mk goSub goTk), ⟨j + 1, _, z, rfl, ⟨by omega, hpu, by rw [List.length_set, hWl], hWb2, by omega, by omega⟩, rfl, rfl⟩, by omega⟩
    ·rw [put_full hk2 (by rw [hAt2]; exact hc2)] at hpu
     repeat' (first | refine goH ?_ | refine goV ?_ | refine goB (fun b => ?_) | refine goC (fun ad cap => ?_) | refine goG ?_ | (refine Ops.k_guard ?_; first | (refine Ops.guard_dec rfl rfl ?_ ?_ <;> intro hc <;> try omega) | refine Ops.guard_split rfl rfl ?_ ?_ <;> intro hc) | refine goI ?_ | (refine Cw.k_cond ?_; first | (refine Cw.cond_dec rfl ?_ ?_ <;> intro hc <;> try omega) | refine Cw.cond_bool rfl ?_ ?_ <;> intro hc) | (refine Ops.k_calla ?_; first | (refine Ops.k_callf 56 ?_; refine Ops.callS (kF _) (Evs.cons rfl (Evs.cons rfl Evs.nil)) goPm rfl ?_)) | (apply OpW.k_call; first | (apply OpW.k_callf 56; exact OpW.callS (kF _) (Evs.cons rfl (Evs.cons rfl Evs.nil)) goPm)) | refine goR ?_ | refine goP ?_ | apply PSeq.cons | apply PSeq.yes rfl rfl rfl | exact goW | fail)
     exact ⟨_, _, _, (Ent.mk goSub goTk), ⟨j + 1, W, z + v, rfl, ⟨by omega, hpu, hWl, hWb, by omega, by omega⟩, rfl, rfl⟩, by omega⟩
  have hje : j = E.length := by omega
  rw [hje, List.drop_length] at hpu
  with_unfolding_all rw [putC] at hpu
  obtain ⟨rfl, rfl⟩ := Prod.mk.inj hpu
  repeat' (first | refine goH ?_ | refine goV ?_ | refine goB (fun b => ?_) | refine goC (fun ad cap => ?_) | (refine Ops.k_nilCheck ?_; first | refine Ops.nilCheck_eptr rfl rfl ?_) | refine goG ?_ | (refine Ops.k_guard ?_; first | (refine Ops.guard_dec rfl rfl ?_ ?_ <;> intro hc <;> try omega) | refine Ops.guard_split rfl rfl ?_ ?_ <;> intro hc) | refine goI ?_ | (refine Cw.k_cond ?_; first | (refine Cw.cond_dec rfl ?_ ?_ <;> intro hc <;> try omega) | refine Cw.cond_bool rfl ?_ ?_ <;> intro hc) | exact OpV.w (OpV.nilCheck_eptr rfl) | (refine Ops.k_calla ?_; first | (refine Ops.k_callf 58 ?_; (refine Ops.call (kP _ _) (Evs.cons rfl (Evs.cons rfl Evs.nil)) goPm rfl ?_; rintro y cs' ⟨rfl, rfl⟩))) | refine goR ?_ | refine goP ?_ | apply PSeq.cons | apply PSeq.yes rfl rfl rfl | exact goW | fail)
  exact Fin.ret (Ent.trans (Ent.imp_box goPk impSale) (Ent.trans (Ent.setbox (s := 4) rfl goPk) (Ent.take goTk))) (Outs.many rfl (OutL.cons goOe (OutL.cons goOe OutL.nil)) rfl) ⟨rfl, rfl⟩
end Lg
