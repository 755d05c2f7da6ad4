/- A part of the proof of a law of this seat: it adds no condition. By an AI agent. -/
import Derived.Test.YtcojnmobcfpeeaaDoorMs13
section
set_option linter.all false
set_option maxRecDepth 100000
set_option maxHeartbeats 8000000
namespace Lg
open Go Go.Proofs

/-! ### the other machine: slots jammed, tubes filled -/
instance : KeyTy Tryd.prog 9 Value.string := KeyTy.str Tryd.underlying9
instance : TyMap Tryd.prog 82 9 4 (.bool false) := ⟨Tryd.underlying82, ⟨_, rfl, rfl⟩⟩
abbrev KB := List (ByteArray × Tr)
/-- keys of slots differ -/
def KD (S : List SlotM) : Prop := ∀ (i j : Nat) (x y : SlotM), S[i]? = some x → S[j]? = some y → x.key = y.key → i = j
/-- the map of what is jammed -/
def JM (kv : KB) (S : List SlotM) (J : List Bool) : Prop := ∀ (k : Nat) (s : SlotM), S[k]? = some s → mread s.key (.bool false) kv = Tr.bool (J.getD k false)
theorem mget_mset_same {α : Type} [DecidableEq α] (a : α) (t : Tr) : ∀ kv : List (α × Tr), mget a (mset a t kv) = some t
 |[] => by rw [mset, mget, if_pos rfl]
 |p :: r => by
  rw [mset]
  by_cases h : a = p.1
  ·rw [if_pos h, mget, if_pos rfl]
  ·rw [if_neg h, mget, if_neg h, mget_mset_same a t r]
theorem mget_mset_ne {α : Type} [DecidableEq α] {a c : α} (t : Tr) (h : ¬ c = a) : ∀ kv : List (α × Tr), mget c (mset a t kv) = mget c kv
 |[] => by simp [mset, mget, h]
 |p :: r => by
  rw [mset]
  by_cases h2 : a = p.1
  ·rw [if_pos h2, mget, if_neg h, mget, if_neg (by rw [← h2]; exact h)]
  ·rw [if_neg h2, mget, mget, mget_mset_ne t h r]
theorem JM.set {kv : KB} {S : List SlotM} {J : List Bool} (h : JM kv S J) (hd : KD S) {k : Nat} {s : SlotM} (hs : S[k]? = some s) (hJ : J.length = S.length) (on : Bool) : JM (mset s.key (.bool on) kv) S (J.set k on) := by
 intro j y hy
 have hk := (List.getElem?_eq_some_iff.1 hs).1
 have hj := (List.getElem?_eq_some_iff.1 hy).1
 unfold mread
 by_cases e : j = k
 ·subst e
  rw [hs] at hy
  cases hy
  rw [mget_mset_same, List.getD_eq_getElem?_getD, List.getElem?_set_self (by omega)]
  rfl
 ·rw [mget_mset_ne _ (fun h2 => e (hd j k y s hy hs h2)), List.getD_eq_getElem?_getD, List.getElem?_set_ne (by omega), ← List.getD_eq_getElem?_getD]
  exact h j y hy
theorem turnR_fn {b bj bs : Nat} {aT aS aE aI aO aF aC : Option Addr} {nT cT nS cS nE cE nI cI nO cO nF cF nC cC : Nat} {K : List Int} {G x : Int} (S : List SlotM) (J : List Bool) (kv : KB) (key : ByteArray) (on : Bool) (hl : S.length ≤ 1000) (hn : nS = S.length) (hSJ : J.length = S.length) (hd : KD S) (hJM : JM kv S J) :
  Spec Tryd.prog 60 [.ptr b, .str key, .bool on] [mR b aT nT cT K aS nS cS G bj aE nE cE x bs aI nI cI aO nO cO aF nF cF aC nC cC, ownS aS cS S, Chunk.mp Value.string bj kv] (fun y cs => ∃ kv', (JM kv' S (jamL (slotN S key) J on)) ∧ y = .int (jamO (slotN S key) J on) ∧ cs = [mR b aT nT cT K aS nS cS G bj aE nE cE x bs aI nI cI aO nO cO aF nF cF aC nC cC, ownS aS cS S, Chunk.mp Value.string bj kv']) := by
 have kS : Spec Tryd.prog 55 [.ptr b, .str key] [mR b aT nT cT K aS nS cS G bj aE nE cE x bs aI nI cI aO nO cO aF nF cF aC nC cC, ownS aS cS S] (fun y cs => y = .int (ixN (slotN S key)) ∧ cs = [mR b aT nT cT K aS nS cS G bj aE nE cE x bs aI nI cI aO nO cO aF nF cF aC nC cC, ownS aS cS S]) := slotR_fn S key hl hn
 cases hk : slotN S key with
 |none =>
  rw [hk] at kS
  unfold ixN at kS
  simp only at kS
  unfold jamO jamL
  refine Spec.body Tryd.func60 rfl rfl (Tryd.ntmps60) rfl fun w0 own0 M => ?_
  repeat' (first | refine goH ?_ | refine goV ?_ | refine goI ?_ | (refine Cw.k_cond ?_; first | (refine Cw.cond_dec rfl ?_ ?_ <;> intro hc <;> try omega) | refine Cw.cond_bool rfl ?_ ?_ <;> intro hc) | (refine Ops.k_calla ?_; first | (refine Ops.k_callf 55 ?_; refine Ops.callS kS (Evs.cons rfl (Evs.cons rfl Evs.nil)) goPm rfl ?_)) | fail)
  exact Fin.ret (Ent.take goTk) (Outs.one rfl rfl) ⟨kv, hJM, rfl, rfl⟩
 |some k =>
  obtain ⟨s, hs, hp, hkl⟩ := findN_some (p := slotP key) hk
  have hkey : s.key = key := by unfold slotP at hp; simpa using hp
  rw [hk] at kS
  unfold ixN at kS
  simp only at kS
  have hmr := hJM k s hs
  rw [hkey] at hmr
  unfold jamO jamL
  simp only
  have hset := hJM.set hd hs hSJ on
  rw [hkey] at hset
  generalize J.getD k false = v at *
  by_cases h : v = on
  ·have hb : (v == on) = true := by simp [h]
   rw [if_pos h, if_pos h]
   clear h
   refine Spec.body Tryd.func60 rfl rfl (Tryd.ntmps60) rfl fun w0 own0 M => ?_
   repeat' (first | refine goH ?_ | (refine Ops.k_lookup ?_; first | (refine Ops.lookup rfl rfl goPk rfl ?_; rw [hmr])) | refine goV ?_ | (refine Ops.k_b_eql ?_; first | (refine Ops.eqlB Tryd.underlying4 rfl rfl rfl ?_; rw [hb])) | refine goI ?_ | (refine Cw.k_cond ?_; first | (refine Cw.cond_dec rfl ?_ ?_ <;> intro hc <;> try omega) | refine Cw.cond_bool rfl ?_ ?_ <;> intro hc) | (refine Ops.k_calla ?_; first | (refine Ops.k_callf 55 ?_; refine Ops.callS kS (Evs.cons rfl (Evs.cons rfl Evs.nil)) goPm rfl ?_)) | fail)
   exact Fin.ret (Ent.take goTk) (Outs.one rfl rfl) ⟨kv, hJM, rfl, rfl⟩
  ·have hb : (v == on) = false := by simp [h]
   rw [if_neg h, if_neg h]
   clear h
   refine Spec.body Tryd.func60 rfl rfl (Tryd.ntmps60) rfl fun w0 own0 M => ?_
   repeat' (first | refine goH ?_ | (refine Ops.k_lookup ?_; first | (refine Ops.lookup rfl rfl goPk rfl ?_; rw [hmr])) | (refine Ops.k_mapUpdate ?_; first | (refine Ops.mapUpdate rfl rfl rfl goPk ?_)) | refine goV ?_ | (refine Ops.k_b_eql ?_; first | (refine Ops.eqlB Tryd.underlying4 rfl rfl rfl ?_; rw [hb])) | refine goI ?_ | (refine Cw.k_cond ?_; first | (refine Cw.cond_dec rfl ?_ ?_ <;> intro hc <;> try omega) | refine Cw.cond_bool rfl ?_ ?_ <;> intro hc) | (refine Ops.k_calla ?_; first | (refine Ops.k_callf 55 ?_; refine Ops.callS kS (Evs.cons rfl (Evs.cons rfl Evs.nil)) goPm rfl ?_)) | fail)
   exact Fin.ret (Ent.take goTk) (Outs.one rfl rfl) ⟨_, hset, rfl, rfl⟩
theorem jamR_fn {b bj bs : Nat} {aT aS aE aI aO aF aC : Option Addr} {nT cT nS cS nE cE nI cI nO cO nF cF nC cC : Nat} {K : List Int} {G x : Int} (S : List SlotM) (J : List Bool) (kv : KB) (key : ByteArray) (hl : S.length ≤ 1000) (hn : nS = S.length) (hSJ : J.length = S.length) (hd : KD S) (hJM : JM kv S J) :
  Spec Tryd.prog 22 [.ptr b, .str key] [mR b aT nT cT K aS nS cS G bj aE nE cE x bs aI nI cI aO nO cO aF nF cF aC nC cC, ownS aS cS S, Chunk.mp Value.string bj kv] (fun y cs => ∃ kv', (JM kv' S (jamL (slotN S key) J true)) ∧ y = .int (jamO (slotN S key) J true) ∧ cs = [mR b aT nT cT K aS nS cS G bj aE nE cE x bs aI nI cI aO nO cO aF nF cF aC nC cC, ownS aS cS S, Chunk.mp Value.string bj kv']) := by
 have k : Spec Tryd.prog 60 [.ptr b, .str key, .bool true] [mR b aT nT cT K aS nS cS G bj aE nE cE x bs aI nI cI aO nO cO aF nF cF aC nC cC, ownS aS cS S, Chunk.mp Value.string bj kv] (fun y cs => ∃ kv', (JM kv' S (jamL (slotN S key) J true)) ∧ y = .int (jamO (slotN S key) J true) ∧ cs = [mR b aT nT cT K aS nS cS G bj aE nE cE x bs aI nI cI aO nO cO aF nF cF aC nC cC, ownS aS cS S, Chunk.mp Value.string bj kv']) := turnR_fn S J kv key true hl hn hSJ hd hJM
 refine Spec.body Tryd.func22 rfl rfl (Tryd.ntmps22) rfl fun w0 own0 M => ?_
 repeat' (first | refine goH ?_ | refine goV ?_ | refine goI ?_ | (refine Cw.k_cond ?_; first | (refine Cw.cond_dec rfl ?_ ?_ <;> intro hc <;> try omega) | refine Cw.cond_bool rfl ?_ ?_ <;> intro hc) | (refine Ops.k_calla ?_; first | (refine Ops.k_callf 60 ?_; (refine Ops.call k (Evs.cons rfl (Evs.cons rfl (Evs.cons rfl Evs.nil))) goPm rfl ?_; rintro y cs' ⟨kv', hkv, rfl, rfl⟩))) | fail)
 exact Fin.ret (Ent.take goTk) (Outs.one rfl rfl) ⟨kv', hkv, rfl, rfl⟩
theorem freeR_fn {b bj bs : Nat} {aT aS aE aI aO aF aC : Option Addr} {nT cT nS cS nE cE nI cI nO cO nF cF nC cC : Nat} {K : List Int} {G x : Int} (S : List SlotM) (J : List Bool) (kv : KB) (key : ByteArray) (hl : S.length ≤ 1000) (hn : nS = S.length) (hSJ : J.length = S.length) (hd : KD S) (hJM : JM kv S J) :
  Spec Tryd.prog 24 [.ptr b, .str key] [mR b aT nT cT K aS nS cS G bj aE nE cE x bs aI nI cI aO nO cO aF nF cF aC nC cC, ownS aS cS S, Chunk.mp Value.string bj kv] (fun y cs => ∃ kv', (JM kv' S (jamL (slotN S key) J false)) ∧ y = .int (jamO (slotN S key) J false) ∧ cs = [mR b aT nT cT K aS nS cS G bj aE nE cE x bs aI nI cI aO nO cO aF nF cF aC nC cC, ownS aS cS S, Chunk.mp Value.string bj kv']) := by
 have k : Spec Tryd.prog 60 [.ptr b, .str key, .bool false] [mR b aT nT cT K aS nS cS G bj aE nE cE x bs aI nI cI aO nO cO aF nF cF aC nC cC, ownS aS cS S, Chunk.mp Value.string bj kv] (fun y cs => ∃ kv', (JM kv' S (jamL (slotN S key) J false)) ∧ y = .int (jamO (slotN S key) J false) ∧ cs = [mR b aT nT cT K aS nS cS G bj aE nE cE x bs aI nI cI aO nO cO aF nF cF aC nC cC, ownS aS cS S, Chunk.mp Value.string bj kv']) := turnR_fn S J kv key false hl hn hSJ hd hJM
 refine Spec.body Tryd.func24 rfl rfl (Tryd.ntmps24) rfl fun w0 own0 M => ?_
 repeat' (first | refine goH ?_ | refine goV ?_ | refine goI ?_ | (refine Cw.k_cond ?_; first | (refine Cw.cond_dec rfl ?_ ?_ <;> intro hc <;> try omega) | refine Cw.cond_bool rfl ?_ ?_ <;> intro hc) | (refine Ops.k_calla ?_; first | (refine Ops.k_callf 60 ?_; (refine Ops.call k (Evs.cons rfl (Evs.cons rfl (Evs.cons rfl Evs.nil))) goPm rfl ?_; rintro y cs' ⟨kv', hkv, rfl, rfl⟩))) | fail)
 exact Fin.ret (Ent.take goTk) (Outs.one rfl rfl) ⟨kv', hkv, rfl, rfl⟩
theorem fillR_fn {b bj bs : Nat} {aT aS aE aI aO aF aC : Option Addr} {nT cT nS cS nE cE nI cI nO cO nF cF nC cC : Nat} {K : List Int} {G x : Int} (T : List Tube) (L : List Int) (v m : Int) (hl : T.length ≤ 1000) (hn : nT = T.length) (hL : L.length ≤ 1000000) (hnF : nF = L.length) (hv : 0 ≤ v ∧ v ≤ 10000) (hm : -9223372036854775808 ≤ m ∧ m ≤ 9223372036854775807) (hT : ∀ x ∈ T, 0 ≤ x.cnt ∧ x.cnt ≤ x.most ∧ x.most ≤ 1000) :
  Spec Tryd.prog 28 [.ptr b, .int v, .int m] [mR b aT nT cT K aS nS cS G bj aE nE cE x bs aI nI cI aO nO cO aF nF cF aC nC cC, ownT aT cT T, ownI aF cF L] (fun y cs => ∃ (aF' : Option Addr) (nF' cF' : Nat) (L' : List Int), (nF' = L'.length ∧ L' = if filO T (tubeN T v) m = 0 then L ++ [v * m] else L) ∧ y = .int (filO T (tubeN T v) m) ∧ cs = [mR b aT nT cT K aS nS cS G bj aE nE cE x bs aI nI cI aO nO cO aF' nF' cF' aC nC cC, ownT aT cT (filL T (tubeN T v) m), ownI aF' cF' L']) := by
 have e : idxFrom (tubeP v) T 0 = ixN (tubeN T v) := by
  rw [idxFrom_n]
  unfold ixN tubeN
  cases T.findIdx? (tubeP v) with
  |none => rfl
  |some j => exact Int.zero_add _
 have kS := fun (b3 : Nat) => indexFuncO_tube (ad := aT) (cap := cT) (cin := [Chunk.box b3 3 [.int v]]) (caps := [.pointer (some ⟨b3, 0, none⟩)]) (g := 62) (p := tubeP v) (l := T) (n := nT) (by omega) hn (fun d _ => tubeCF_fn d b3 v)
 rw [e] at kS
 clear e
 have hSr : (T.map Tube.row).length = nT := by rw [List.length_map, hn]
 have hLr : (intRows L).length = nF := by rw [intRows_len, hnF]
 cases hk : tubeN T v with
 |none =>
  rw [hk] at kS
  unfold ixN at kS
  simp only at kS
  unfold filL filO
  simp only
  rw [if_neg (by decide)]
  refine Spec.body Tryd.func28 rfl rfl (Tryd.ntmps28) rfl fun w0 own0 M => ?_
  repeat' (first | refine goH ?_ | refine goV ?_ | refine goB (fun b => ?_) | refine goC (fun ad cap => ?_) | (refine Ops.k_nilCheck ?_; first | refine Ops.nilCheck_eptr rfl rfl ?_) | refine goI ?_ | (refine Cw.k_cond ?_; first | (refine Cw.cond_dec rfl ?_ ?_ <;> intro hc <;> try omega) | refine Cw.cond_bool rfl ?_ ?_ <;> intro hc) | exact OpV.w (OpV.nilCheck_eptr rfl) | (refine Ops.k_calla ?_; first | (refine Ops.k_callf 56 ?_; refine Ops.callS (kS _) (Evs.cons rfl (Evs.cons rfl Evs.nil)) goPm rfl ?_)) | (apply OpW.k_call; first | (apply OpW.k_callf 56; exact OpW.callS (kS _) (Evs.cons rfl (Evs.cons rfl Evs.nil)) goPm)) | refine goR ?_ | refine goP ?_ | apply PSeq.cons | apply PSeq.yes rfl rfl rfl | exact goW | fail)
  exact Fin.ret (Ent.take goTk) (Outs.one rfl rfl) ⟨_, _, _, L, ⟨hnF, rfl⟩, rfl, rfl⟩
 |some k =>
  obtain ⟨d, hd, _, hkl⟩ := findN_some (p := tubeP v) hk
  rw [hk] at kS
  unfold ixN at kS
  simp only at kS
  have hb := hT d (List.mem_of_getElem? hd)
  have hrow : (T.map Tube.row)[((k : Nat) : Int).toNat]? = some [.int d.val, .int d.cnt, .int d.most] := by rw [Int.toNat_natCast]; exact rows_at hd
  have hAt := tAt_eq hd
  by_cases h1 : m < 1
  ·have hO : filO T (some k) m = 1 := by unfold filO; simp only; rw [if_pos h1]
   have hL : filL T (some k) m = T := by unfold filL; simp only; rw [if_neg (by rw [hO]; decide)]
   rw [hO, hL, if_neg (by decide)]
   refine Spec.body Tryd.func28 rfl rfl (Tryd.ntmps28) rfl fun w0 own0 M => ?_
   repeat' (first | refine goH ?_ | refine goV ?_ | refine goB (fun b => ?_) | refine goC (fun ad cap => ?_) | (refine Ops.k_nilCheck ?_; first | refine Ops.nilCheck_eptr rfl rfl ?_) | refine goI ?_ | (refine Cw.k_cond ?_; first | (refine Cw.cond_dec rfl ?_ ?_ <;> intro hc <;> try omega) | refine Cw.cond_bool rfl ?_ ?_ <;> intro hc) | exact OpV.w (OpV.nilCheck_eptr rfl) | (refine Ops.k_calla ?_; first | (refine Ops.k_callf 56 ?_; refine Ops.callS (kS _) (Evs.cons rfl (Evs.cons rfl Evs.nil)) goPm rfl ?_)) | (apply OpW.k_call; first | (apply OpW.k_callf 56; exact OpW.callS (kS _) (Evs.cons rfl (Evs.cons rfl Evs.nil)) goPm)) | refine goR ?_ | refine goP ?_ | apply PSeq.cons | apply PSeq.yes rfl rfl rfl | exact goW | fail)
   exact Fin.ret (Ent.take goTk) (Outs.one rfl rfl) ⟨_, _, _, L, ⟨hnF, rfl⟩, rfl, rfl⟩
  by_cases h2 : d.most - d.cnt < m
  ·have hO : filO T (some k) m = 12 := by unfold filO; simp only; rw [if_neg h1, hAt, if_pos h2]
   have hL : filL T (some k) m = T := by unfold filL; simp only; rw [if_neg (by rw [hO]; decide)]
   rw [hO, hL, if_neg (by decide)]
   refine Spec.body Tryd.func28 rfl rfl (Tryd.ntmps28) rfl fun w0 own0 M => ?_
   repeat' (first | refine goH ?_ | refine goV ?_ | refine goB (fun b => ?_) | refine goC (fun ad cap => ?_) | (refine Ops.k_nilCheck ?_; first | refine Ops.nilCheck_eptr rfl rfl ?_) | refine goI ?_ | (refine Cw.k_cond ?_; first | (refine Cw.cond_dec rfl ?_ ?_ <;> intro hc <;> try omega) | refine Cw.cond_bool rfl ?_ ?_ <;> intro hc) | exact OpV.w (OpV.nilCheck_eptr rfl) | (refine Ops.k_calla ?_; first | (refine Ops.k_callf 56 ?_; refine Ops.callS (kS _) (Evs.cons rfl (Evs.cons rfl Evs.nil)) goPm rfl ?_)) | (apply OpW.k_call; first | (apply OpW.k_callf 56; exact OpW.callS (kS _) (Evs.cons rfl (Evs.cons rfl Evs.nil)) goPm)) | refine goR ?_ | refine goP ?_ | apply PSeq.cons | apply PSeq.yes rfl rfl rfl | exact goW | fail)
   exact Fin.ret (Ent.take goTk) (Outs.one rfl rfl) ⟨_, _, _, L, ⟨hnF, rfl⟩, rfl, rfl⟩
  have hO : filO T (some k) m = 0 := by unfold filO; simp only; rw [if_neg h1, hAt, if_neg h2]
  have hL2 : filL T (some k) m = T.set k { d with cnt := d.cnt + m } := by unfold filL; simp only; rw [if_pos hO]; unfold addT; rw [hAt]
  rw [hO, hL2, if_pos rfl]
  have hmv := mul_bd (a := v) (b := m) (A := 10000) (B := 1000) (by omega) (by omega)
  have e4 : (T.map Tube.row).set ((k : Nat) : Int).toNat ([Tr.int d.val, .int d.cnt, .int d.most].set (0 + 1) (.int (d.cnt + m))) = (T.set k { d with cnt := d.cnt + m }).map Tube.row := by rw [Int.toNat_natCast]; exact tubeRow_set T k { d with cnt := d.cnt + m }
  have hlen : (L ++ [v * m]).length = nF + 1 := by rw [List.length_append, ← hnF]; rfl
  generalize b = bm at *
  refine Spec.body Tryd.func28 rfl rfl (Tryd.ntmps28) rfl fun w0 own0 M => ?_
  repeat' (first | refine goH ?_ | refine goV ?_ | refine goB (fun b => ?_) | refine goC (fun ad cap => ?_) | refine goI ?_ | (refine Cw.k_cond ?_; first | (refine Cw.cond_dec rfl ?_ ?_ <;> intro hc <;> try omega) | refine Cw.cond_bool rfl ?_ ?_ <;> intro hc) | (refine Ops.k_calla ?_; first | (refine Ops.k_callf 56 ?_; refine Ops.callS (kS _) (Evs.cons rfl (Evs.cons rfl Evs.nil)) goPm rfl ?_)) | (apply OpW.k_call; first | (apply OpW.k_callf 56; exact OpW.callS (kS _) (Evs.cons rfl (Evs.cons rfl Evs.nil)) goPm)) | fail)
  refine goR ?_
  repeat' (first | refine goH ?_ | refine goV ?_ | refine goB (fun b => ?_) | refine goC (fun ad cap => ?_) | refine goI ?_ | (refine Cw.k_cond ?_; first | (refine Cw.cond_dec rfl ?_ ?_ <;> intro hc <;> try omega) | refine Cw.cond_bool rfl ?_ ?_ <;> intro hc) | exact OpV.w (OpV.nilCheck_eptr rfl) | refine goP ?_ | apply PSeq.cons | apply PSeq.yes rfl rfl rfl | exact goW | fail)
  repeat' (first | refine goH ?_ | refine goV ?_ | refine goB (fun b => ?_) | refine goC (fun ad cap => ?_) | refine goI ?_ | (refine Cw.k_cond ?_; first | (refine Cw.cond_dec rfl ?_ ?_ <;> intro hc <;> try omega) | refine Cw.cond_bool rfl ?_ ?_ <;> intro hc) | fail)
  rw [e4]
  clear e4 hrow hSr
  first | refine Cw.region_YP (fun ξ S => Chunk.box b 3 [.int v] :: Chunk.box bm 85 [Tr.raw (.slice aT nT cT), .ints K, Tr.raw (.slice aS nS cS), .int G, Tr.raw (.map (some bj)), Tr.raw (.slice aE nE cE), .int x, Tr.raw (.map (some bs)), Tr.raw (.slice aI nI cI), Tr.raw (.slice aO nO cO), stg (S 12) (Tr.raw (.slice aF nF cF)) (slV (ξ 9) (nF + 1)), Tr.raw (.slice aC nC cC)] :: Chunk.own aT cT 3 65 ((T.set k { d with cnt := d.cnt + m }).map Tube.row) :: stg (S 9) (Chunk.own aF cF 1 3 (intRows L)) (ownV (ξ 9) 1 3 (intRows L ++ [[.int (v * m)]])) :: []) rfl (by decide +kernel) rfl ((fun (ξ : Nat → Value) (S : Nat → Bool) => Chunk.box b 3 [.int v] :: Chunk.box bm 85 [Tr.raw (.slice aT nT cT), .ints K, Tr.raw (.slice aS nS cS), .int G, Tr.raw (.map (some bj)), Tr.raw (.slice aE nE cE), .int x, Tr.raw (.map (some bs)), Tr.raw (.slice aI nI cI), Tr.raw (.slice aO nO cO), stg (S 12) (Tr.raw (.slice aF nF cF)) (slV (ξ 9) (nF + 1)), Tr.raw (.slice aC nC cC)] :: Chunk.own aT cT 3 65 ((T.set k { d with cnt := d.cnt + m }).map Tube.row) :: stg (S 9) (Chunk.own aF cF 1 3 (intRows L)) (ownV (ξ 9) 1 3 (intRows L ++ [[.int (v * m)]])) :: []) (fun _ => undef) (fun _ => false)) (by simp only [upd_same, updD_same, upd_ne, updD_ne, ne_eq, Nat.reduceEqDiff, not_false_eq_true, stg_t, stg_f, vAd_s, vCap_s, blk_p, List.cons_append, List.nil_append, b2n_t, b2n_f]; exact goXm) (fun _ => rfl) ?_ | fail
  apply YSeq.w (by intro _ _ _; rfl)
  ·intro ξ S h1 h2 h3 h4
   have hN0_12 := closed_false h1 h3 (k := 12) rfl (by decide)
   try simp only [upd_same, updD_same, upd_ne, updD_ne, ne_eq, Nat.reduceEqDiff, not_false_eq_true, stg_t, stg_f, vAd_s, vCap_s, blk_p, List.cons_append, List.nil_append, b2n_t, b2n_f, hN0_12]
   exact goW
  ·intro ξ v; rfl
  ·intro ξ k v S h3 hn hk
   first
   |rfl
  apply YSeq.w (by intro _ _ _; rfl)
  ·intro ξ S h1 h2 h3 h4
   have hN1_2 := closed_false h1 h3 (k := 2) rfl (by decide)
   have hN1_3 := closed_false hN1_2 h3 (k := 3) rfl (by decide)
   have hN1_4 := closed_false hN1_3 h3 (k := 4) rfl (by decide)
   have hN1_9 := closed_false hN1_4 h3 (k := 9) rfl (by decide)
   have hN1_12 := closed_false h1 h3 (k := 12) rfl (by decide)
   try simp only [upd_same, updD_same, upd_ne, updD_ne, ne_eq, Nat.reduceEqDiff, not_false_eq_true, stg_t, stg_f, vAd_s, vCap_s, blk_p, List.cons_append, List.nil_append, b2n_t, b2n_f, hN1_9, hN1_12]
   exact goW
  ·intro ξ v; rfl
  ·intro ξ k v S h3 hn hk
   first
   |rfl
  apply YSeq.w (by intro _ _ _; rfl)
  ·intro ξ S h1 h2 h3 h4
   have hN2_3 := closed_false h1 h3 (k := 3) rfl (by decide)
   have hN2_4 := closed_false hN2_3 h3 (k := 4) rfl (by decide)
   have hN2_9 := closed_false hN2_4 h3 (k := 9) rfl (by decide)
   have hN2_12 := closed_false h1 h3 (k := 12) rfl (by decide)
   try simp only [upd_same, updD_same, upd_ne, updD_ne, ne_eq, Nat.reduceEqDiff, not_false_eq_true, stg_t, stg_f, vAd_s, vCap_s, blk_p, List.cons_append, List.nil_append, b2n_t, b2n_f, hN2_9, hN2_12]
   exact goW
  ·intro ξ v; rfl
  ·intro ξ k v S h3 hn hk
   first
   |rfl
  apply YSeq.w (by intro _ _ _; rfl)
  ·intro ξ S h1 h2 h3 h4
   have hN3_4 := closed_false h1 h3 (k := 4) rfl (by decide)
   have hN3_9 := closed_false hN3_4 h3 (k := 9) rfl (by decide)
   have hN3_12 := closed_false h1 h3 (k := 12) rfl (by decide)
   try simp only [upd_same, updD_same, upd_ne, updD_ne, ne_eq, Nat.reduceEqDiff, not_false_eq_true, stg_t, stg_f, vAd_s, vCap_s, blk_p, List.cons_append, List.nil_append, b2n_t, b2n_f, hN3_9, hN3_12]
   exact goW
  ·intro ξ v; rfl
  ·intro ξ k v S h3 hn hk
   first
   |rfl
  apply YSeq.w (by intro _ _ _; rfl)
  ·intro ξ S h1 h2 h3 h4
   have hN4_9 := closed_false h1 h3 (k := 9) rfl (by decide)
   have hN4_12 := closed_false h1 h3 (k := 12) rfl (by decide)
   try simp only [upd_same, updD_same, upd_ne, updD_ne, ne_eq, Nat.reduceEqDiff, not_false_eq_true, stg_t, stg_f, vAd_s, vCap_s, blk_p, List.cons_append, List.nil_append, b2n_t, b2n_f, hN4_9, hN4_12]
   exact goW
  ·intro ξ v; rfl
  ·intro ξ k v S h3 hn hk
   first
   |rfl
  apply YSeq.w (by intro _ _ _; rfl)
  ·intro ξ S h1 h2 h3 h4
   have hN5_7 := closed_false h1 h3 (k := 7) rfl (by decide)
   have hN5_8 := closed_false hN5_7 h3 (k := 8) rfl (by decide)
   have hN5_9 := closed_false hN5_8 h3 (k := 9) rfl (by decide)
   have hN5_12 := closed_false h1 h3 (k := 12) rfl (by decide)
   try simp only [upd_same, updD_same, upd_ne, updD_ne, ne_eq, Nat.reduceEqDiff, not_false_eq_true, stg_t, stg_f, vAd_s, vCap_s, blk_p, List.cons_append, List.nil_append, b2n_t, b2n_f, hN5_9, hN5_12]
   exact goW
  ·intro ξ v; rfl
  ·intro ξ k v S h3 hn hk
   first
   |rfl
  apply YSeq.w (by intro _ _ _; rfl)
  ·intro ξ S h1 h2 h3 h4
   have hN6_7 := closed_false h1 h3 (k := 7) rfl (by decide)
   have hN6_8 := closed_false hN6_7 h3 (k := 8) rfl (by decide)
   have hN6_9 := closed_false hN6_8 h3 (k := 9) rfl (by decide)
   have hN6_12 := closed_false h1 h3 (k := 12) rfl (by decide)
   try simp only [upd_same, updD_same, upd_ne, updD_ne, ne_eq, Nat.reduceEqDiff, not_false_eq_true, stg_t, stg_f, vAd_s, vCap_s, blk_p, List.cons_append, List.nil_append, b2n_t, b2n_f, hN6_9, hN6_12]
   exact goW
  ·intro ξ v; rfl
  ·intro ξ k v S h3 hn hk
   first
   |rfl
  apply YSeq.w (by intro _ _ _; rfl)
  ·intro ξ S h1 h2 h3 h4
   have hN7_8 := closed_false h1 h3 (k := 8) rfl (by decide)
   have hN7_9 := closed_false hN7_8 h3 (k := 9) rfl (by decide)
   have hN7_12 := closed_false h1 h3 (k := 12) rfl (by decide)
   try simp only [upd_same, updD_same, upd_ne, updD_ne, ne_eq, Nat.reduceEqDiff, not_false_eq_true, stg_t, stg_f, vAd_s, vCap_s, blk_p, List.cons_append, List.nil_append, b2n_t, b2n_f, hN7_9, hN7_12]
   exact goW
  ·intro ξ v; rfl
  ·intro ξ k v S h3 hn hk
   first
   |rfl
  apply YSeq.w (by intro _ _ _; rfl)
  ·intro ξ S h1 h2 h3 h4
   have hN8_9 := closed_false h1 h3 (k := 9) rfl (by decide)
   have hN8_12 := closed_false h1 h3 (k := 12) rfl (by decide)
   try simp only [upd_same, updD_same, upd_ne, updD_ne, ne_eq, Nat.reduceEqDiff, not_false_eq_true, stg_t, stg_f, vAd_s, vCap_s, blk_p, List.cons_append, List.nil_append, b2n_t, b2n_f, hN8_9, hN8_12]
   exact goW
  ·intro ξ v; rfl
  ·intro ξ k v S h3 hn hk
   first
   |rfl
  apply YSeq.append ((nF + 1))
  ·intro ξ S h1 h2 h3 h4
   have hN9_12 := closed_false h1 h3 (k := 12) rfl (by decide)
   simp only [upd_same, updD_same, upd_ne, updD_ne, ne_eq, Nat.reduceEqDiff, not_false_eq_true, stg_t, stg_f, vAd_s, vCap_s, blk_p, List.cons_append, List.nil_append, b2n_t, b2n_f, h1, hN9_12]
   refine ⟨_, _, _, _, _, _, rfl, rfl, goXp, (by first | rfl | (simp; done) | omega), (by first | rfl | omega | (simp; done) | (simp; omega)), (by first | omega | (simp; done) | (simp; omega)), (by first | omega | (simp; done) | (simp; omega)), fun ad' cap' => ?_⟩
   exact goXm
  apply YSeq.w (by intro _ _ _; rfl)
  ·intro ξ S h1 h2 h3 h4
   have hY10_9 : S 9 = true := h2 9 (by decide)
   have hN10_11 := closed_false h1 h3 (k := 11) rfl (by decide)
   have hN10_12 := closed_false hN10_11 h3 (k := 12) rfl (by decide)
   try simp only [upd_same, updD_same, upd_ne, updD_ne, ne_eq, Nat.reduceEqDiff, not_false_eq_true, stg_t, stg_f, vAd_s, vCap_s, blk_p, List.cons_append, List.nil_append, b2n_t, b2n_f, hY10_9, hN10_12]
   exact goW
  ·intro ξ v; rfl
  ·intro ξ k v S h3 hn hk
   first
   |rfl
   |skip
    have hY10_9 : S 9 = true := h3 10 _ rfl hn 9 (by decide)
    simp only [upd_S hY10_9 hk]
  apply YSeq.w (by intro _ _ _; rfl)
  ·intro ξ S h1 h2 h3 h4
   have hY11_9 : S 9 = true := h2 9 (by decide)
   have hN11_12 := closed_false h1 h3 (k := 12) rfl (by decide)
   try simp only [upd_same, updD_same, upd_ne, updD_ne, ne_eq, Nat.reduceEqDiff, not_false_eq_true, stg_t, stg_f, vAd_s, vCap_s, blk_p, List.cons_append, List.nil_append, b2n_t, b2n_f, hY11_9, hN11_12]
   exact goW
  ·intro ξ v; rfl
  ·intro ξ k v S h3 hn hk
   first
   |rfl
   |skip
    have hY11_9 : S 9 = true := h3 11 _ rfl hn 9 (by decide)
    simp only [upd_S hY11_9 hk]
  apply YSeq.store
  ·intro ξ S h1 h2 h3 h4
   have hY12_9 : S 9 = true := h2 9 (by decide)
   simp only [upd_same, updD_same, upd_ne, updD_ne, ne_eq, Nat.reduceEqDiff, not_false_eq_true, stg_t, stg_f, vAd_s, vCap_s, blk_p, List.cons_append, List.nil_append, b2n_t, b2n_f, hY12_9, h1]
   refine ⟨_, _, _, _, _, _, _, rfl, rfl, inferInstance, goXp, rfl, Nat.le_of_ble_eq_true rfl, ?_⟩
   exact goXm
  refine YSeq.nil fun ξ hf => ?_
  refine ⟨[(0, _)], _, Ent.trans (Ent.eqc rfl (by first | (simp only [upd_same, updD_same, upd_ne, updD_ne, ne_eq, Nat.reduceEqDiff, not_false_eq_true, stg_t, stg_f, vAd_s, vCap_s, blk_p, List.cons_append, List.nil_append, b2n_t, b2n_f, ownV, slV, ptV] <;> rfl) | rfl)) (Ent.sub goSub), ?_⟩
  clear hf
  generalize vAd (ξ 9) = ad65
  generalize vCap (ξ 9) = cap65
  repeat (first | refine InB.norm ?_ | refine Then.norm ?_)
  repeat' (first | refine goH ?_ | refine goV ?_ | refine goB (fun b => ?_) | refine goC (fun ad cap => ?_) | refine goI ?_ | (refine Cw.k_cond ?_; first | (refine Cw.cond_dec rfl ?_ ?_ <;> intro hc <;> try omega) | refine Cw.cond_bool rfl ?_ ?_ <;> intro hc) | refine goR ?_ | refine goP ?_ | apply PSeq.cons | apply PSeq.yes rfl rfl rfl | exact goW | fail)
  rw [← intRows_snoc]
  exact Fin.ret (Ent.take goTk) (Outs.one rfl rfl) ⟨_, _, _, _, ⟨hlen.symm, rfl⟩, rfl, rfl⟩
end Lg
end
section
set_option linter.all false
set_option maxRecDepth 100000
set_option maxHeartbeats 8000000
namespace Lg
open Go Go.Proofs

/-! (from Bk8 and Bk9) -/
/-! ### groups: a map of owned slices -/
structure Gr where
 key : ByteArray
 ad : Option Addr
 cap : Nat
 l : List Int
abbrev Gr.v (g : Gr) : Tr := Tr.raw (.slice g.ad g.l.length g.cap)
abbrev Gr.c (g : Gr) : Chunk := Chunk.own g.ad g.cap 1 3 (intRows g.l)
def gkv (G : List Gr) : List (ByteArray × Tr) := G.map fun g => (g.key, g.v)
def gch (G : List Gr) : List Chunk := G.map Gr.c
def gval (k : ByteArray) : List Gr → List Int
 |[] => []
 |g :: G => if k = g.key then g.l else gval k G
theorem gch_app (A B : List Gr) : gch (A ++ B) = gch A ++ gch B := List.map_append
theorem gch_mid (A B : List Gr) (g : Gr) : gch (A ++ g :: B) = gch A ++ g.c :: gch B := by rw [gch_app]; rfl
theorem g_split (k : ByteArray) : ∀ (G : List Gr), (∃ A g B, G = A ++ g :: B ∧ g.key = k ∧ ∀ a ∈ A, a.key ≠ k) ∨ (∀ a ∈ G, a.key ≠ k)
 |[] => .inr (fun a h => by cases h)
 |g :: G => by
  by_cases h : g.key = k
  ·exact .inl ⟨[], g, G, rfl, h, fun a h => by cases h⟩
  ·rcases g_split k G with ⟨A, x, B, rfl, h1, h2⟩ | h1
   ·refine .inl ⟨g :: A, x, B, rfl, h1, fun a ha => ?_⟩
    rcases List.mem_cons.1 ha with rfl | ha
    ·exact h
    ·exact h2 a ha
   ·refine .inr fun a ha => ?_
    rcases List.mem_cons.1 ha with rfl | ha
    ·exact h
    ·exact h1 a ha
theorem mread_in {A B : List Gr} {g : Gr} (hA : ∀ a ∈ A, a.key ≠ g.key) : mread g.key (.slice none 0 0) (gkv (A ++ g :: B)) = g.v := by
 unfold mread
 induction A with
 |nil => simp [gkv, mget]
 |cons a A ih =>
  have := ih (fun x hx => hA x (by simp [hx]))
  simp only [gkv, List.cons_append, List.map_cons, mget] at this ⊢
  rw [if_neg (fun e => hA a (by simp) e.symm)]
  exact this
theorem mread_out {G : List Gr} {k : ByteArray} (h : ∀ a ∈ G, a.key ≠ k) : mread k (.slice none 0 0) (gkv G) = Tr.raw (.slice none 0 0) := by
 unfold mread
 induction G with
 |nil => rfl
 |cons a G ih =>
  have := ih (fun x hx => h x (by simp [hx]))
  simp only [gkv, List.map_cons, mget] at this ⊢
  rw [if_neg (fun e => h a (by simp) e.symm)]
  exact this
theorem mset_in {A B : List Gr} {g g2 : Gr} (hk : g2.key = g.key) (hA : ∀ a ∈ A, a.key ≠ g.key) : mset g.key g2.v (gkv (A ++ g :: B)) = gkv (A ++ g2 :: B) := by
 induction A with
 |nil => simp [gkv, mset, hk]
 |cons a A ih =>
  have := ih (fun x hx => hA x (by simp [hx]))
  simp only [gkv, List.cons_append, List.map_cons, mset] at this ⊢
  rw [if_neg (fun e => hA a (by simp) e.symm), this]
theorem mset_out {G : List Gr} {g : Gr} (h : ∀ a ∈ G, a.key ≠ g.key) : mset g.key g.v (gkv G) = gkv (G ++ [g]) := by
 induction G with
 |nil => rfl
 |cons a G ih =>
  have := ih (fun x hx => h x (by simp [hx]))
  simp only [gkv, List.cons_append, List.map_cons, mset] at this ⊢
  rw [if_neg (fun e => h a (by simp) e.symm), this]
theorem gval_in {A B : List Gr} {g : Gr} (hA : ∀ a ∈ A, a.key ≠ g.key) : gval g.key (A ++ g :: B) = g.l := by
 induction A with
 |nil => simp [gval]
 |cons a A ih => rw [List.cons_append, gval, if_neg (fun e => hA a (by simp) e.symm), ih (fun x hx => hA x (by simp [hx]))]
theorem gval_out {G : List Gr} {k : ByteArray} (h : ∀ a ∈ G, a.key ≠ k) : gval k G = [] := by
 induction G with
 |nil => rfl
 |cons a G ih => rw [gval, if_neg (fun e => h a (by simp) e.symm), ih (fun x hx => h x (by simp [hx]))]
theorem gval_ne {A B : List Gr} {g g2 : Gr} {k : ByteArray} (hk : g2.key = g.key) (hne : k ≠ g.key) : gval k (A ++ g2 :: B) = gval k (A ++ g :: B) := by
 induction A with
 |nil => simp only [List.nil_append, gval]; rw [if_neg (by rw [hk]; exact hne), if_neg hne]
 |cons a A ih => simp only [List.cons_append, gval]; rw [ih]
theorem gval_snoc_ne {G : List Gr} {g : Gr} {k : ByteArray} (hne : k ≠ g.key) : gval k (G ++ [g]) = gval k G := by
 induction G with
 |nil => simp [gval, hne]
 |cons a G ih => rw [List.cons_append, gval, gval, ih]
theorem gval_snoc {G : List Gr} {g : Gr} (h : ∀ a ∈ G, a.key ≠ g.key) : gval g.key (G ++ [g]) = g.l := gval_in (B := []) h

theorem grp_take (k : ByteArray) (G : List Gr) : ∃ (ad : Option Addr) (cap : Nat) (l : List Int) (R : List Chunk), mread k (.slice none 0 0) (gkv G) = Tr.raw (.slice ad l.length cap) ∧ gval k G = l ∧
  (∀ (Γ : Ctx) (env : Env) (cs cf : List Chunk), cs.Perm (Chunk.bun (gch G) :: cf) → Ent Γ env cs env (Chunk.own ad cap 1 3 (intRows l) :: Chunk.bun R :: cf)) ∧
  ∀ (ad' : Option Addr) (cap' : Nat) (l' : List Int), ∃ G' : List Gr, mset k (Tr.raw (.slice ad' l'.length cap')) (gkv G) = gkv G' ∧
   (∀ (Γ : Ctx) (env : Env) (cs cf cf' : List Chunk), cs.Perm (Chunk.own ad' cap' 1 3 (intRows l') :: cf') → cf'.Perm (Chunk.bun R :: cf) → Ent Γ env cs env (Chunk.bun (gch G') :: cf)) ∧
   gval k G' = l' ∧ ∀ j, j ≠ k → gval j G' = gval j G := by
 rcases g_split k G with ⟨A, g, B, rfl, rfl, hA⟩ | h
 ·refine ⟨g.ad, g.cap, g.l, gch A ++ gch B, mread_in hA, gval_in hA, fun Γ env cs cf hp => ?_, fun ad' cap' l' => ⟨A ++ ⟨g.key, ad', cap', l'⟩ :: B, mset_in (g2 := ⟨g.key, ad', cap', l'⟩) rfl hA, fun Γ env cs cf cf' h1 h2 => ?_, ?_, fun j hj => gval_ne rfl hj⟩⟩
  ·rw [gch_mid] at hp
   exact Ent.pull hp
  ·rw [gch_mid]
   exact Ent.putb h1 h2
  ·exact gval_in (g := ⟨g.key, ad', cap', l'⟩) hA
 ·refine ⟨none, 0, [], gch G, mread_out h, gval_out h, fun Γ env cs cf hp => Ent.trans (Ent.perm hp) (Ent.nil 1 3), fun ad' cap' l' => ⟨G ++ [⟨k, ad', cap', l'⟩], mset_out (g := ⟨k, ad', cap', l'⟩) h, fun Γ env cs cf cf' h1 h2 => ?_, gval_snoc (g := ⟨k, ad', cap', l'⟩) h, fun j hj => gval_snoc_ne hj⟩⟩
  rw [gch_app]
  exact Ent.push h1 h2
instance : TyMap Tryd.prog 83 9 22 (.slice none 0 0) := ⟨Tryd.underlying83, ⟨_, rfl, rfl⟩⟩
instance : KeyTy Tryd.prog 9 Value.string := KeyTy.str Tryd.underlying9
theorem OpV.lookup_eqG {P : Program} {Γ : Ctx} {env : Env} {cs cf : List Chunk} {ty T K E : TypeId} {x y : Operand} {α : Type} [DecidableEq α] {enc : α → Value} {zv : Value} [hT : TyMap P T K E zv] [hK : KeyTy P K enc] {b : Nat} {a : α} {kv : List (α × Tr)} {t : Tr} (hx : ev env x = some (.raw (.map (some b)))) (hy : ev env y = some (.raw (enc a)))
  (hp : cs.Perm (Chunk.mp enc b kv :: cf)) (he : mread a zv kv = t) : OpW P Γ (.lookup T x y false) ty env cs t := he ▸ OpV.w (OpV.lookup hx hy hp)
/-! ### the keys of a map -/
end Lg
end
section
set_option linter.all false
set_option maxRecDepth 100000
set_option maxHeartbeats 8000000
namespace Lg
open Go Go.Proofs

/-! ### coins put into tubes one by one -/
def putC : List Int → List Tube → Int → List Tube × Int
 |[], W, x => (W, x)
 |v :: E, W, x => match tubeN W v with
  |some k => if (tAt W k).cnt < (tAt W k).most then putC E (addT W k 1) x else putC E W (x + v)
  |none => putC E W (x + v)
theorem zip_set {α β γ : Type} (f : α → β → γ) {T : List α} {A : List β} {k : Nat} {d : α} (hd : T[k]? = some d) (b : β) : T.zipWith f (A.set k b) = (T.zipWith f A).set k (f d b) := by
 apply List.ext_getElem?
 intro i
 by_cases h : i = k
 ·subst h
  rw [List.getElem?_zipWith, hd]
  by_cases hA : i < A.length
  ·have hlt := (List.getElem?_eq_some_iff.1 hd).1
   rw [List.getElem?_set_self hA, List.getElem?_set_self (by rw [List.length_zipWith]; omega)]
  ·rw [List.getElem?_eq_none (by rw [List.length_set]; omega), List.getElem?_eq_none (by rw [List.length_set, List.length_zipWith]; omega)]
 ·rw [List.getElem?_zipWith, List.getElem?_set_ne (by omega), List.getElem?_set_ne (by omega), List.getElem?_zipWith]
theorem sumF_setQ {α : Type} {f : α → Int} : ∀ {l : List α} {i : Nat} {x y : α}, l[i]? = some x → sumF f (l.set i y) = sumF f l - f x + f y
 |[], i, x, y, h => by simp at h
 |z :: l, 0, x, y, h => by
  simp at h
  subst h
  rw [List.set_cons_zero, sumF_cons, sumF_cons]
  omega
 |z :: l, i + 1, x, y, h => by
  rw [List.set_cons_succ, sumF_cons, sumF_cons, sumF_setQ (l := l) (i := i) (x := x) (by simpa using h)]
  omega
theorem tubeN_val {T W : List Tube} (h : W.map Tube.val = T.map Tube.val) (v : Int) : tubeN W v = tubeN T v := by
 have e : ∀ L : List Tube, tubeN L v = (L.map Tube.val).findIdx? (fun x => decide (x = v)) := fun L => by
  unfold tubeN
  rw [List.findIdx?_map]
  rfl
 rw [e, e, h]
theorem stlT_val {T : List Tube} : ∀ {A : List Int}, A.length = T.length → (stlT T A).map Tube.val = T.map Tube.val := by
 induction T with
 |nil => intro A _; rfl
 |cons d T ih =>
  intro A h
  cases A with
  |nil => simp at h
  |cons a A =>
   have := ih (A := A) (by simpa using h)
   unfold stlT at this ⊢
   rw [List.zipWith_cons_cons, List.map_cons, List.map_cons, this]
   rfl
theorem put_cnt {T : List Tube} (hT : ∀ d ∈ T, 0 ≤ d.cnt ∧ d.cnt ≤ d.most) : ∀ (E A : List Int) (s x : Int), A.length = T.length → (∀ a ∈ A, 0 ≤ a) → putC E (stlT T A) x = (stlT T (cntA T E A s).1, x + ((cntA T E A s).2 - s) + (stlR T (cntA T E A s).1 - stlR T A))
 |[], A, s, x, hl, hA => by
  rw [putC, cntA]
  simp
 |v :: E, A, s, x, hl, hA => by
  have hN := tubeN_val (stlT_val hl) v
  rw [putC, cntA, hN]
  cases hk : tubeN T v with
  |none =>
   simp only
   rw [put_cnt hT E A (s + v) (x + v) hl hA]
   congr 1
   omega
  |some k =>
   simp only
   obtain ⟨d, hd, hp, hkl⟩ := findN_some (p := tubeP v) hk
   have hdv : d.val = v := by unfold tubeP at hp; simpa using hp
   obtain ⟨a, ha⟩ := at_lt (l := A) (k := k) (by omega)
   have ha0 := hA a (List.mem_of_getElem? ha)
   have hdb := hT d (List.mem_of_getElem? hd)
   have hg : A.getD k 0 = a := by rw [List.getD_eq_getElem?_getD, ha]; rfl
   have hW : (stlT T A)[k]? = some (stl1 d a) := by unfold stlT; rw [List.getElem?_zipWith, hd, ha]
   have hS : (T.zipWith stlO A)[k]? = some (stlO d a) := by rw [List.getElem?_zipWith, hd, ha]
   have hR : stlR T (A.set k (a + 1)) = stlR T A - stlO d a + stlO d (a + 1) := by
    unfold stlR
    rw [zip_set stlO hd, sumF_setQ hS]
    rfl
   have hl2 : (A.set k (a + 1)).length = T.length := by rw [List.length_set, hl]
   have hA2 : ∀ b ∈ A.set k (a + 1), 0 ≤ b := fun b hb => by
    rcases List.mem_or_eq_of_mem_set hb with h | h
    ·exact hA b h
    ·omega
   have hT2 : stlT T (A.set k (a + 1)) = (stlT T A).set k (stl1 d (a + 1)) := by unfold stlT; exact zip_set stl1 hd _
   rw [tAt_eq hW, hg]
   have ih := fun x => put_cnt hT E (A.set k (a + 1)) s x hl2 hA2
   by_cases hc : a < d.most - d.cnt
   ·have h1 : (stl1 d a).cnt < (stl1 d a).most := by show d.cnt + min a (d.most - d.cnt) < d.most; omega
    have h2 : addT (stlT T A) k 1 = stlT T (A.set k (a + 1)) := by
     rw [hT2]
     unfold addT
     rw [tAt_eq hW]
     congr 1
     show Tube.mk d.val (d.cnt + min a (d.most - d.cnt) + 1) d.most = Tube.mk d.val (d.cnt + min (a + 1) (d.most - d.cnt)) d.most
     congr 1
     omega
    have h3 : stlO d (a + 1) = stlO d a := by
     unfold stlO
     rw [show a + 1 - min (a + 1) (d.most - d.cnt) = 0 by omega, show a - min a (d.most - d.cnt) = 0 by omega]
    rw [if_pos h1, h2, ih x, hR, h3]
    congr 1
    omega
   ·have h1 : ¬ (stl1 d a).cnt < (stl1 d a).most := by show ¬ d.cnt + min a (d.most - d.cnt) < d.most; omega
    have h2 : stlT T A = stlT T (A.set k (a + 1)) := by
     rw [hT2]
     have : stl1 d (a + 1) = stl1 d a := by
      show Tube.mk d.val (d.cnt + min (a + 1) (d.most - d.cnt)) d.most = Tube.mk d.val (d.cnt + min a (d.most - d.cnt)) d.most
      congr 1
      omega
     rw [this]
     apply List.ext_getElem?
     intro i
     by_cases h : i = k
     ·subst h
      rw [List.getElem?_set_self (List.getElem?_eq_some_iff.1 hW).1, hW]
     ·rw [List.getElem?_set_ne (by omega)]
    have h3 : stlO d (a + 1) = stlO d a + v := by
     unfold stlO
     rw [show min (a + 1) (d.most - d.cnt) = d.most - d.cnt by omega, show min a (d.most - d.cnt) = d.most - d.cnt by omega, show a + 1 - (d.most - d.cnt) = (a - (d.most - d.cnt)) + 1 by omega, Int.add_mul, Int.one_mul, hdv]
    rw [if_neg h1]
    conv => lhs; rw [h2]
    rw [ih (x + v), hR, h3]
    congr 1
    omega
theorem stl_zero {T : List Tube} (hT : ∀ d ∈ T, 0 ≤ d.cnt ∧ d.cnt ≤ d.most) : stlT T (List.replicate T.length 0) = T ∧ stlR T (List.replicate T.length 0) = 0 := by
 induction T with
 |nil => exact ⟨rfl, rfl⟩
 |cons d T ih =>
  obtain ⟨h1, h2⟩ := ih fun x hx => hT x (by simp [hx])
  have h3 := hT d (by simp)
  unfold stlT stlR at *
  rw [List.length_cons, List.replicate_succ, List.zipWith_cons_cons, List.zipWith_cons_cons, sumF_cons, h1, h2]
  refine ⟨?_, ?_⟩
  ·congr 1
   show Tube.mk d.val (d.cnt + min 0 (d.most - d.cnt)) d.most = d
   rw [show d.cnt + min 0 (d.most - d.cnt) = d.cnt by omega]
  ·unfold stlO
   rw [show (0 : Int) - min 0 (d.most - d.cnt) = 0 by omega]
   simp
theorem put_tkn {T : List Tube} (hT : ∀ d ∈ T, 0 ≤ d.cnt ∧ d.cnt ≤ d.most) (E : List Int) (x : Int) : putC E T x = (tknT T E, x + tknR T E) := by
 obtain ⟨h1, h2⟩ := stl_zero hT
 have h := put_cnt hT E (List.replicate T.length 0) 0 x (by rw [List.length_replicate]) (fun a ha => by rw [(List.mem_replicate.1 ha).2]; omega)
 rw [h1, h2] at h
 rw [h]
 unfold tknT tknR tknA
 congr 1
 omega
end Lg
end
