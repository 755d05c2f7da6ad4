/- A part of the proof of a law of this seat: it adds no condition. By an AI agent. -/
import Derived.Test.YtcojnmobcfpeeaaDoorMs11
section
set_option linter.all false
set_option maxRecDepth 100000
set_option maxHeartbeats 8000000
namespace Lg
open Go Go.Proofs

/-! ### machines: coins in, slots jammed, loaded, filled (the program's side) -/
def insO (K : List Int) (H cr v : Int) : Int := if v ∉ K then 8 else if H < cr + v then 12 else 0
def insL (K : List Int) (H cr v : Int) (E : List Int) : List Int := if insO K H cr v = 0 then E ++ [v] else E
def insC (K : List Int) (H cr v : Int) : Int := if insO K H cr v = 0 then cr + v else cr
theorem intRows_snoc (E : List Int) (v : Int) : intRows (E ++ [v]) = intRows E ++ [[Tr.int v]] := by simp [intRows]
attribute [local irreducible] intRows
theorem insert_fn {b : Nat} {aT aS aJ aE aY : Option Addr} {nT cT nS cS nJ cJ nE cE nY cY : Nat} {K : List Int} {H i o f c x r : Int} (E : List Int) (v : Int) (hK : K.length ≤ 1000) (hE : E.length ≤ 1000000) (hn : nE = E.length) (hr : 0 ≤ r ∧ r ≤ 1000000) (hv : 0 ≤ v ∧ v ≤ 1000000) :
  Spec Tryd.prog 13 [.ptr b, .int v] [mX b aT nT cT K aS nS cS H aJ nJ cJ aE nE cE aY nY cY i o f c x r, ownI aE cE E] (fun y cs => ∃ (aE' : Option Addr) (cE' : Nat), y = .int (insO K H r v) ∧ cs = [mX b aT nT cT K aS nS cS H aJ nJ cJ aE' ((insL K H r v E).length) cE' aY nY cY i o f c x (insC K H r v), ownI aE' cE' (insL K H r v E)]) := by
 have kC := contains_fn K v (by omega)
 have hl : (intRows E).length = nE := by rw [intRows_len, hn]
 by_cases h1 : v ∈ K
 ·rw [decide_eq_true h1] at kC
  by_cases h2 : H < r + v
  ·have e : insO K H r v = 12 := by unfold insO; rw [if_neg (not_not_intro h1), if_pos h2]
   unfold insL insC
   rw [e, if_neg (by decide), if_neg (by decide), ← hn]
   clear e h1
   refine Spec.body Tryd.func13 rfl rfl (Tryd.ntmps13) rfl fun w0 own0 M => ?_
   repeat' (first | refine goH ?_ | refine goV ?_ | refine goB (fun b => ?_) | refine goC (fun ad cap => ?_) | refine goG ?_ | (refine Ops.k_guard ?_; first | (refine Ops.guard_dec rfl rfl ?_ ?_ <;> intro hc <;> try omega) | refine Ops.guard_split rfl rfl ?_ ?_ <;> intro hc) | refine goI ?_ | (refine Cw.k_cond ?_; first | (refine Cw.cond_dec rfl ?_ ?_ <;> intro hc <;> try omega) | refine Cw.cond_bool rfl ?_ ?_ <;> intro hc) | (refine Ops.k_calla ?_; first | (refine Ops.k_callf 39 ?_; refine Ops.callV kC (Evs.cons rfl (Evs.cons rfl Evs.nil)) rfl ?_)) | (apply OpW.k_call; first | (apply OpW.k_callf 39; exact OpW.callV kC (Evs.cons rfl (Evs.cons rfl Evs.nil)))) | refine goR ?_ | refine goP ?_ | apply PSeq.cons | apply PSeq.yes rfl rfl rfl | exact goW | fail)
   exact Fin.ret (Ent.take (Take.cons goPk (Take.cons goPk Take.nil))) (Outs.one rfl rfl) ⟨_, _, rfl, rfl⟩
  ·have e : insO K H r v = 0 := by unfold insO; rw [if_neg (not_not_intro h1), if_neg h2]
   unfold insL insC
   rw [e, if_pos rfl, if_pos rfl]
   have hlen : (E ++ [v]).length = nE + 1 := by rw [List.length_append, ← hn]; rfl
   rw [hlen]
   clear e h1
   refine Spec.body Tryd.func13 rfl rfl (Tryd.ntmps13) rfl fun w0 own0 M => ?_
   repeat' (first | refine goH ?_ | refine goV ?_ | refine goB (fun b => ?_) | refine goC (fun ad cap => ?_) | refine goG ?_ | (refine Ops.k_guard ?_; first | (refine Ops.guard_dec rfl rfl ?_ ?_ <;> intro hc <;> try omega) | refine Ops.guard_split rfl rfl ?_ ?_ <;> intro hc) | refine goI ?_ | (refine Cw.k_cond ?_; first | (refine Cw.cond_dec rfl ?_ ?_ <;> intro hc <;> try omega) | refine Cw.cond_bool rfl ?_ ?_ <;> intro hc) | (refine Ops.k_calla ?_; first | (refine Ops.k_callf 39 ?_; refine Ops.callV kC (Evs.cons rfl (Evs.cons rfl Evs.nil)) rfl ?_)) | (apply OpW.k_call; first | (apply OpW.k_callf 39; exact OpW.callV kC (Evs.cons rfl (Evs.cons rfl Evs.nil)))) | refine goR ?_ | refine goP ?_ | apply PSeq.cons | apply PSeq.yes rfl rfl rfl | exact goW | fail)
   have hl2 : (intRows E ++ [[Tr.int v]]).length = nE + 1 := by rw [List.length_append, hl]; rfl
   try rw [hl2]
   rw [← intRows_snoc]
   exact Fin.ret (Ent.take (Take.cons goPk (Take.cons goPk Take.nil))) (Outs.one rfl rfl) ⟨_, _, rfl, rfl⟩
 ·rw [decide_eq_false h1] at kC
  have e : insO K H r v = 8 := by unfold insO; rw [if_pos h1]
  unfold insL insC
  rw [e, if_neg (by decide), if_neg (by decide), ← hn]
  clear e h1
  refine Spec.body Tryd.func13 rfl rfl (Tryd.ntmps13) rfl fun w0 own0 M => ?_
  repeat' (first | refine goH ?_ | refine goV ?_ | refine goB (fun b => ?_) | refine goC (fun ad cap => ?_) | refine goG ?_ | (refine Ops.k_guard ?_; first | (refine Ops.guard_dec rfl rfl ?_ ?_ <;> intro hc <;> try omega) | refine Ops.guard_split rfl rfl ?_ ?_ <;> intro hc) | refine goI ?_ | (refine Cw.k_cond ?_; first | (refine Cw.cond_dec rfl ?_ ?_ <;> intro hc <;> try omega) | refine Cw.cond_bool rfl ?_ ?_ <;> intro hc) | (refine Ops.k_calla ?_; first | (refine Ops.k_callf 39 ?_; refine Ops.callV kC (Evs.cons rfl (Evs.cons rfl Evs.nil)) rfl ?_)) | (apply OpW.k_call; first | (apply OpW.k_callf 39; exact OpW.callV kC (Evs.cons rfl (Evs.cons rfl Evs.nil)))) | refine goR ?_ | refine goP ?_ | apply PSeq.cons | apply PSeq.yes rfl rfl rfl | exact goW | fail)
  exact Fin.ret (Ent.take (Take.cons goPk (Take.cons goPk Take.nil))) (Outs.one rfl rfl) ⟨_, _, rfl, rfl⟩

def jamO (n : Option Nat) (J : List Bool) (on : Bool) : Int := match n with
 |none => 8
 |some k => if J.getD k false = on then 11 else 0
def jamL (n : Option Nat) (J : List Bool) (on : Bool) : List Bool := match n with
 |none => J
 |some k => if J.getD k false = on then J else J.set k on
theorem turn_fn {b : Nat} {aT aS aJ aE aY : Option Addr} {nT cT nS cS nJ cJ nE cE nY cY : Nat} {K : List Int} {H i o f c x r : Int} (S : List SlotM) (J : List Bool) (key : ByteArray) (on : Bool) (hl : S.length ≤ 1000) (hn : nS = S.length) (hJ : nJ = J.length) (hSJ : J.length = S.length) :
  Spec Tryd.prog 59 [.ptr b, .str key, .bool on] [mX b aT nT cT K aS nS cS H aJ nJ cJ aE nE cE aY nY cY i o f c x r, ownS aS cS S, ownJ aJ cJ J] (fun y cs => y = .int (jamO (slotN S key) J on) ∧ cs = [mX b aT nT cT K aS nS cS H aJ nJ cJ aE nE cE aY nY cY i o f c x r, ownS aS cS S, ownJ aJ cJ (jamL (slotN S key) J on)]) := by
 have kS := slot_fn (b := b) (aT := aT) (nT := nT) (cT := cT) (K := K) (aS := aS) (nS := nS) (cS := cS) (H := H) (aJ := aJ) (nJ := nJ) (cJ := cJ) (aE := aE) (nE := nE) (cE := cE) (aY := aY) (nY := nY) (cY := cY) (i := i) (o := o) (f := f) (c := c) (x := x) (r := r) S key hl hn
 have hJr : (boolRows J).length = nJ := by rw [boolRows_len, hJ]
 cases hk : slotN S key with
 |none =>
  rw [hk] at kS
  unfold ixN at kS
  simp only at kS
  unfold jamO jamL
  refine Spec.body Tryd.func59 rfl rfl (Tryd.ntmps59) rfl fun w0 own0 M => ?_
  repeat' (first | refine goH ?_ | refine goV ?_ | refine goB (fun b => ?_) | refine goC (fun ad cap => ?_) | refine goG ?_ | (refine Ops.k_guard ?_; first | (refine Ops.guard_dec rfl rfl ?_ ?_ <;> intro hc <;> try omega) | refine Ops.guard_split rfl rfl ?_ ?_ <;> intro hc) | refine goI ?_ | (refine Cw.k_cond ?_; first | (refine Cw.cond_dec rfl ?_ ?_ <;> intro hc <;> try omega) | refine Cw.cond_bool rfl ?_ ?_ <;> intro hc) | (refine Ops.k_calla ?_; first | (refine Ops.k_callf 52 ?_; refine Ops.callS kS (Evs.cons rfl (Evs.cons rfl Evs.nil)) goPm rfl ?_)) | (apply OpW.k_call; first | (apply OpW.k_callf 52; exact OpW.callS kS (Evs.cons rfl (Evs.cons rfl Evs.nil)) goPm)) | refine goR ?_ | refine goP ?_ | apply PSeq.cons | apply PSeq.yes rfl rfl rfl | exact goW | fail)
  exact Fin.ret (Ent.take (Take.cons goPk (Take.cons goPk (Take.cons goPk Take.nil)))) (Outs.one rfl rfl) ⟨rfl, rfl⟩
 |some k =>
  obtain ⟨_, _, _, hkl⟩ := findN_some (p := slotP key) hk
  rw [hk] at kS
  unfold ixN at kS
  simp only at kS
  obtain ⟨v, hv⟩ := at_lt (l := J) (k := k) (by omega)
  have hrow : (boolRows J)[((k : Nat) : Int).toNat]? = some [Tr.bool v] := by rw [Int.toNat_natCast]; exact boolRows_at hv
  have hrow2 : (boolRows J)[k]? = some [Tr.bool v] := boolRows_at hv
  have hg : J.getD k false = v := by rw [List.getD_eq_getElem?_getD, hv]; rfl
  unfold jamO jamL
  simp only
  rw [hg]
  by_cases h : v = on
  ·have hb : (v == on) = true := by simp [h]
   rw [if_pos h, if_pos h]
   clear h
   refine Spec.body Tryd.func59 rfl rfl (Tryd.ntmps59) rfl fun w0 own0 M => ?_
   repeat' (first | refine goH ?_ | refine goV ?_ | refine goB (fun b => ?_) | refine goC (fun ad cap => ?_) | (refine Ops.k_b_eql ?_; first | (refine Ops.eqlB Tryd.underlying4 rfl rfl rfl ?_; rw [hb])) | refine goG ?_ | (refine Ops.k_guard ?_; first | (refine Ops.guard_dec rfl rfl ?_ ?_ <;> intro hc <;> try omega) | refine Ops.guard_split rfl rfl ?_ ?_ <;> intro hc) | refine goI ?_ | (refine Cw.k_cond ?_; first | (refine Cw.cond_dec rfl ?_ ?_ <;> intro hc <;> try omega) | refine Cw.cond_bool rfl ?_ ?_ <;> intro hc) | (refine Ops.k_calla ?_; first | (refine Ops.k_callf 52 ?_; refine Ops.callS kS (Evs.cons rfl (Evs.cons rfl Evs.nil)) goPm rfl ?_)) | (apply OpW.k_call; first | (apply OpW.k_callf 52; exact OpW.callS kS (Evs.cons rfl (Evs.cons rfl Evs.nil)) goPm)) | refine goR ?_ | refine goP ?_ | apply PSeq.cons | apply PSeq.yes rfl rfl rfl | exact goW | fail)
   exact Fin.ret (Ent.take (Take.cons goPk (Take.cons goPk (Take.cons goPk Take.nil)))) (Outs.one rfl rfl) ⟨rfl, rfl⟩
  ·have hb : (v == on) = false := by simp [h]
   rw [if_neg h, if_neg h]
   clear h
   refine Spec.body Tryd.func59 rfl rfl (Tryd.ntmps59) rfl fun w0 own0 M => ?_
   repeat' (first | refine goH ?_ | refine goV ?_ | refine goB (fun b => ?_) | refine goC (fun ad cap => ?_) | (refine Ops.k_b_eql ?_; first | (refine Ops.eqlB Tryd.underlying4 rfl rfl rfl ?_; rw [hb])) | refine goG ?_ | (refine Ops.k_guard ?_; first | (refine Ops.guard_dec rfl rfl ?_ ?_ <;> intro hc <;> try omega) | refine Ops.guard_split rfl rfl ?_ ?_ <;> intro hc) | refine goI ?_ | (refine Cw.k_cond ?_; first | (refine Cw.cond_dec rfl ?_ ?_ <;> intro hc <;> try omega) | refine Cw.cond_bool rfl ?_ ?_ <;> intro hc) | (refine Ops.k_calla ?_; first | (refine Ops.k_callf 52 ?_; refine Ops.callS kS (Evs.cons rfl (Evs.cons rfl Evs.nil)) goPm rfl ?_)) | (apply OpW.k_call; first | (apply OpW.k_callf 52; exact OpW.callS kS (Evs.cons rfl (Evs.cons rfl Evs.nil)) goPm)) | refine goR ?_ | refine goP ?_ | apply PSeq.cons | apply PSeq.yes rfl rfl rfl | exact goW | fail)
   have e4 : (boolRows J).set ((k : Nat) : Int).toNat [Tr.bool on] = boolRows (J.set k on) := by rw [Int.toNat_natCast, boolRows_set]
   erw [e4]
   exact Fin.ret (Ent.take (Take.cons goPk (Take.cons goPk (Take.cons goPk Take.nil)))) (Outs.one rfl rfl) ⟨rfl, rfl⟩
theorem jam_fn {b : Nat} {aT aS aJ aE aY : Option Addr} {nT cT nS cS nJ cJ nE cE nY cY : Nat} {K : List Int} {H i o f c x r : Int} (S : List SlotM) (J : List Bool) (key : ByteArray) (hl : S.length ≤ 1000) (hn : nS = S.length) (hJ : nJ = J.length) (hSJ : J.length = S.length) :
  Spec Tryd.prog 21 [.ptr b, .str key] [mX b aT nT cT K aS nS cS H aJ nJ cJ aE nE cE aY nY cY i o f c x r, ownS aS cS S, ownJ aJ cJ J] (fun y cs => y = .int (jamO (slotN S key) J true) ∧ cs = [mX b aT nT cT K aS nS cS H aJ nJ cJ aE nE cE aY nY cY i o f c x r, ownS aS cS S, ownJ aJ cJ (jamL (slotN S key) J true)]) := by
 have k := turn_fn (b := b) (aT := aT) (nT := nT) (cT := cT) (K := K) (aS := aS) (nS := nS) (cS := cS) (H := H) (aJ := aJ) (nJ := nJ) (cJ := cJ) (aE := aE) (nE := nE) (cE := cE) (aY := aY) (nY := nY) (cY := cY) (i := i) (o := o) (f := f) (c := c) (x := x) (r := r) S J key true hl hn hJ hSJ
 generalize jamO (slotN S key) J true = w at *
 generalize jamL (slotN S key) J true = L at *
 refine Spec.body Tryd.func21 rfl rfl (Tryd.ntmps21) rfl fun w0 own0 M => ?_
 repeat' (first | refine goH ?_ | refine goV ?_ | refine goB (fun b => ?_) | refine goC (fun ad cap => ?_) | refine goG ?_ | (refine Ops.k_guard ?_; first | (refine Ops.guard_dec rfl rfl ?_ ?_ <;> intro hc <;> try omega) | refine Ops.guard_split rfl rfl ?_ ?_ <;> intro hc) | refine goI ?_ | (refine Cw.k_cond ?_; first | (refine Cw.cond_dec rfl ?_ ?_ <;> intro hc <;> try omega) | refine Cw.cond_bool rfl ?_ ?_ <;> intro hc) | (refine Ops.k_calla ?_; first | (refine Ops.k_callf 59 ?_; (refine Ops.call k (Evs.cons rfl (Evs.cons rfl (Evs.cons rfl Evs.nil))) goPm rfl ?_; rintro y cs' ⟨rfl, rfl⟩))) | refine goR ?_ | refine goP ?_ | apply PSeq.cons | apply PSeq.yes rfl rfl rfl | exact goW | fail)
 exact Fin.ret (Ent.take (Take.cons goPk (Take.cons goPk (Take.cons goPk Take.nil)))) (Outs.one rfl rfl) ⟨rfl, rfl⟩
theorem free_fn {b : Nat} {aT aS aJ aE aY : Option Addr} {nT cT nS cS nJ cJ nE cE nY cY : Nat} {K : List Int} {H i o f c x r : Int} (S : List SlotM) (J : List Bool) (key : ByteArray) (hl : S.length ≤ 1000) (hn : nS = S.length) (hJ : nJ = J.length) (hSJ : J.length = S.length) :
  Spec Tryd.prog 23 [.ptr b, .str key] [mX b aT nT cT K aS nS cS H aJ nJ cJ aE nE cE aY nY cY i o f c x r, ownS aS cS S, ownJ aJ cJ J] (fun y cs => y = .int (jamO (slotN S key) J false) ∧ cs = [mX b aT nT cT K aS nS cS H aJ nJ cJ aE nE cE aY nY cY i o f c x r, ownS aS cS S, ownJ aJ cJ (jamL (slotN S key) J false)]) := by
 have k := turn_fn (b := b) (aT := aT) (nT := nT) (cT := cT) (K := K) (aS := aS) (nS := nS) (cS := cS) (H := H) (aJ := aJ) (nJ := nJ) (cJ := cJ) (aE := aE) (nE := nE) (cE := cE) (aY := aY) (nY := nY) (cY := cY) (i := i) (o := o) (f := f) (c := c) (x := x) (r := r) S J key false hl hn hJ hSJ
 generalize jamO (slotN S key) J false = w at *
 generalize jamL (slotN S key) J false = L at *
 refine Spec.body Tryd.func23 rfl rfl (Tryd.ntmps23) rfl fun w0 own0 M => ?_
 repeat' (first | refine goH ?_ | refine goV ?_ | refine goB (fun b => ?_) | refine goC (fun ad cap => ?_) | refine goG ?_ | (refine Ops.k_guard ?_; first | (refine Ops.guard_dec rfl rfl ?_ ?_ <;> intro hc <;> try omega) | refine Ops.guard_split rfl rfl ?_ ?_ <;> intro hc) | refine goI ?_ | (refine Cw.k_cond ?_; first | (refine Cw.cond_dec rfl ?_ ?_ <;> intro hc <;> try omega) | refine Cw.cond_bool rfl ?_ ?_ <;> intro hc) | (refine Ops.k_calla ?_; first | (refine Ops.k_callf 59 ?_; (refine Ops.call k (Evs.cons rfl (Evs.cons rfl (Evs.cons rfl Evs.nil))) goPm rfl ?_; rintro y cs' ⟨rfl, rfl⟩))) | refine goR ?_ | refine goP ?_ | apply PSeq.cons | apply PSeq.yes rfl rfl rfl | exact goW | fail)
 exact Fin.ret (Ent.take (Take.cons goPk (Take.cons goPk (Take.cons goPk Take.nil)))) (Outs.one rfl rfl) ⟨rfl, rfl⟩
end Lg
end
section
set_option linter.all false
set_option maxRecDepth 100000
set_option maxHeartbeats 8000000
namespace Lg
open Go Go.Proofs

/-! ### machines: the other side -/
abbrev mR (b : Nat) (aT : Option Addr) (nT cT : Nat) (K : List Int) (aS : Option Addr) (nS cS : Nat) (G : Int) (bj : Nat) (aE : Option Addr) (nE cE : Nat) (x : Int) (bs : Nat) (aI : Option Addr) (nI cI : Nat) (aO : Option Addr) (nO cO : Nat) (aF : Option Addr) (nF cF : Nat) (aC : Option Addr) (nC cC : Nat) : Chunk :=
 Chunk.box b 85 [Tr.raw (.slice aT nT cT), .ints K, Tr.raw (.slice aS nS cS), .int G, Tr.raw (.map (some bj)), Tr.raw (.slice aE nE cE), .int x, Tr.raw (.map (some bs)), Tr.raw (.slice aI nI cI), Tr.raw (.slice aO nO cO), Tr.raw (.slice aF nF cF), Tr.raw (.slice aC nC cC)]
theorem sumF_snoc {α : Type} (f : α → Int) : ∀ (l : List α) (x : α), sumF f (l ++ [x]) = sumF f l + f x
 |[], x => by simp [sumF]
 |y :: l, x => by rw [List.cons_append, sumF, sumF, sumF_snoc f l x]; omega
theorem sumId_bd : ∀ {E : List Int}, (∀ v ∈ E, 0 ≤ v ∧ v ≤ 1000000000000) → 0 ≤ sumF id E ∧ sumF id E ≤ 1000000000000 * E.length
 |[], _ => by simp [sumF]
 |v :: E, h => by
  have h1 := sumId_bd (E := E) fun x hx => h x (by simp [hx])
  have h2 := h v (by simp)
  rw [sumF, List.length_cons]
  simp only [id]
  omega
attribute [local irreducible] intRows
theorem slotCR_fn (d : SlotM) (b : Nat) (key : ByteArray) : Spec Tryd.prog 73 [.agg d.row, .ptr b] [Chunk.box b 9 [.str key]] (fun r cs => r = .bool (slotP key d) ∧ cs = [Chunk.box b 9 [.str key]]) := by
 unfold SlotM.row slotP
 refine Spec.body Tryd.func73 rfl rfl (Tryd.ntmps73) rfl fun w0 own0 M => ?_
 by_cases h : d.key = key
 ·rw [decide_eq_true h]
  repeat' (first | refine goH ?_ | refine goV ?_ | refine goB (fun b => ?_) | refine goI ?_ | (refine Cw.k_cond ?_; first | (refine Cw.cond_dec rfl ?_ ?_ <;> intro hc <;> try omega) | refine Cw.cond_bool rfl ?_ ?_ <;> intro hc) | fail)
  exact Fin.ret (Ent.take (Take.cons goPk Take.nil)) (Outs.one rfl rfl) ⟨rfl, rfl⟩
 ·rw [decide_eq_false h]
  repeat' (first | refine goH ?_ | refine goV ?_ | refine goB (fun b => ?_) | refine goI ?_ | (refine Cw.k_cond ?_; first | (refine Cw.cond_dec rfl ?_ ?_ <;> intro hc <;> try omega) | refine Cw.cond_bool rfl ?_ ?_ <;> intro hc) | fail)
  exact Fin.ret (Ent.take (Take.cons goPk Take.nil)) (Outs.one rfl rfl) ⟨rfl, rfl⟩
theorem tubeCF_fn (d : Tube) (b : Nat) (v : Int) : Spec Tryd.prog 62 [.agg d.row, .ptr b] [Chunk.box b 3 [.int v]] (fun r cs => r = .bool (tubeP v d) ∧ cs = [Chunk.box b 3 [.int v]]) := by
 unfold Tube.row tubeP
 refine Spec.body Tryd.func62 rfl rfl (Tryd.ntmps62) rfl fun w0 own0 M => ?_
 repeat' (first | refine goH ?_ | refine goV ?_ | refine goB (fun b => ?_) | refine goI ?_ | (refine Cw.k_cond ?_; first | (refine Cw.cond_dec rfl ?_ ?_ <;> intro hc <;> try omega) | refine Cw.cond_bool rfl ?_ ?_ <;> intro hc) | fail)
 exact Fin.ret (Ent.take (Take.cons goPk Take.nil)) (Outs.one rfl rfl) ⟨rfl, rfl⟩
theorem tubeCP_fn (d : Tube) (b : Nat) (v : Int) : Spec Tryd.prog 57 [.agg d.row, .ptr b] [Chunk.box b 3 [.int v]] (fun r cs => r = .bool (tubeP v d) ∧ cs = [Chunk.box b 3 [.int v]]) := by
 unfold Tube.row tubeP
 refine Spec.body Tryd.func57 rfl rfl (Tryd.ntmps57) rfl fun w0 own0 M => ?_
 repeat' (first | refine goH ?_ | refine goV ?_ | refine goB (fun b => ?_) | refine goI ?_ | (refine Cw.k_cond ?_; first | (refine Cw.cond_dec rfl ?_ ?_ <;> intro hc <;> try omega) | refine Cw.cond_bool rfl ?_ ?_ <;> intro hc) | fail)
 exact Fin.ret (Ent.take (Take.cons goPk Take.nil)) (Outs.one rfl rfl) ⟨rfl, rfl⟩
theorem slotR_fn {b bj bs : Nat} {aT aS aE aI aO aF aC : Option Addr} {nT cT nS cS nE cE nI cI nO cO nF cF nC cC : Nat} {K : List Int} {G x : Int} (S : List SlotM) (key : ByteArray) (hl : S.length ≤ 1000) (hn : nS = S.length) : Spec Tryd.prog 55 [.ptr b, .str key] [mR b aT nT cT K aS nS cS G bj aE nE cE x bs aI nI cI aO nO cO aF nF cF aC nC cC, ownS aS cS S] (fun y cs => y = .int (ixN (slotN S key)) ∧ cs = [mR b aT nT cT K aS nS cS G bj aE nE cE x bs aI nI cI aO nO cO aF nF cF aC nC cC, ownS aS cS S]) := by
 have e : idxFrom (slotP key) S 0 = ixN (slotN S key) := by
  rw [idxFrom_n]
  unfold ixN slotN
  cases S.findIdx? (slotP key) with
  |none => rfl
  |some j => exact Int.zero_add _
 have k := fun (b3 : Nat) => indexFuncO_slot (ad := aS) (cap := cS) (cin := [Chunk.box b3 9 [.str key]]) (caps := [.pointer (some ⟨b3, 0, none⟩)]) (g := 73) (p := slotP key) (l := S) (n := nS) (by omega) hn (fun d _ => slotCR_fn d b3 key)
 rw [e] at k
 generalize ixN (slotN S key) = v at *
 refine Spec.body Tryd.func55 rfl rfl (Tryd.ntmps55) rfl fun w0 own0 M => ?_
 repeat' (first | refine goH ?_ | refine goV ?_ | refine goB (fun b => ?_) | refine goI ?_ | (refine Cw.k_cond ?_; first | (refine Cw.cond_dec rfl ?_ ?_ <;> intro hc <;> try omega) | refine Cw.cond_bool rfl ?_ ?_ <;> intro hc) | (refine Ops.k_calla ?_; first | (refine Ops.k_callf 69 ?_; refine Ops.callS (k _) (Evs.cons rfl (Evs.cons rfl Evs.nil)) goPm rfl ?_)) | fail)
 exact Fin.ret (Ent.take (Take.cons goPk (Take.cons goPk Take.nil))) (Outs.one rfl rfl) ⟨rfl, rfl⟩
theorem sumO_fn {a : Option Addr} {n c : Nat} (E : List Int) (hn : n = E.length) (hl : E.length ≤ 1000000) (hE : ∀ v ∈ E, 0 ≤ v ∧ v ≤ 1000000000000) : Spec Tryd.prog 51 [Tr.raw (.slice a n c)] [ownI a c E] (fun y cs => y = .int (sumF id E) ∧ cs = [ownI a c E]) := by
 have hlE : (intRows E).length = n := by rw [intRows_len, hn]
 have hb : ∀ k, 0 ≤ sumF id (E.take k) ∧ sumF id (E.take k) ≤ 1000000000000 * (E.take k).length := fun k => sumId_bd fun v hv => hE v (List.mem_of_mem_take hv)
 refine Spec.body Tryd.func51 rfl rfl (Tryd.ntmps51) rfl fun w0 own0 M => ?_
 repeat' (first | refine goH ?_ | refine goV ?_ | refine goI ?_ | (refine Cw.k_cond ?_; first | (refine Cw.cond_dec rfl ?_ ?_ <;> intro hc <;> try omega) | refine Cw.cond_bool rfl ?_ ?_ <;> intro hc) | fail)
 refine Cw.loopI [(6, _), (7, _)] _ (fun q e cc => ∃ (k : Nat) (z : Int), q = E.length - k ∧ (k ≤ E.length ∧ z = sumF id (E.take k)) ∧ e = [(3, .int z), (8, .int k)] ∧ cc = [])
  ⟨_, _, _, (Ent.mkP goSub goPm), 0, 0, rfl, ⟨by omega, rfl⟩, rfl, rfl⟩ ?_
 rintro _ _ _ ⟨k, z, rfl, ⟨hk, hz⟩, rfl, rfl⟩
 by_cases hkl : k < E.length
 ·obtain ⟨v, hv⟩ := at_lt hkl
  have hrow : (intRows E)[k]? = some [.int v] := intRows_at hv
  have hst : sumF id (E.take (k + 1)) = z + v := by rw [take_at hv, sumF_snoc, hz]; rfl
  have hv2 := hE v (List.mem_of_getElem? hv)
  have hzb := hb k
  rw [← hz, List.length_take] at hzb
  clear hb hz
  repeat' (first | refine goH ?_ | refine goV ?_ | refine goI ?_ | (refine Cw.k_cond ?_; first | (refine Cw.cond_dec rfl ?_ ?_ <;> intro hc <;> try omega) | refine Cw.cond_bool rfl ?_ ?_ <;> intro hc) | fail)
  exact ⟨_, _, _, (Ent.mk goSub goTk), ⟨k + 1, z + v, rfl, ⟨by omega, hst.symm⟩, rfl, rfl⟩, by omega⟩
 ·rw [show k = E.length by omega, List.take_length] at hz
  subst hz
  repeat' (first | refine goH ?_ | refine goV ?_ | refine goI ?_ | (refine Cw.k_cond ?_; first | (refine Cw.cond_dec rfl ?_ ?_ <;> intro hc <;> try omega) | refine Cw.cond_bool rfl ?_ ?_ <;> intro hc) | fail)
  exact Fin.ret (Ent.take (Take.cons goPk Take.nil)) (Outs.one rfl rfl) ⟨rfl, rfl⟩
theorem insertR_fn {b bj bs : Nat} {aT aS aE aI aO aF aC : Option Addr} {nT cT nS cS nE cE nI cI nO cO nF cF nC cC : Nat} {K : List Int} {G x : Int} (E : List Int) (v : Int) (hK : K.length ≤ 1000) (hE : E.length ≤ 1000000) (hn : nE = E.length) (hEb : ∀ v ∈ E, 0 ≤ v ∧ v ≤ 1000000000000) (hr : sumF id E ≤ 1000000) (hv : 0 ≤ v ∧ v ≤ 1000000) :
  Spec Tryd.prog 14 [.ptr b, .int v] [mR b aT nT cT K aS nS cS G bj aE nE cE x bs aI nI cI aO nO cO aF nF cF aC nC cC, ownI aE cE E] (fun y cs => ∃ (aE' : Option Addr) (cE' : Nat), y = .int (insO K G (sumF id E) v) ∧ cs = [mR b aT nT cT K aS nS cS G bj aE' ((insL K G (sumF id E) v E).length) cE' x bs aI nI cI aO nO cO aF nF cF aC nC cC, ownI aE' cE' (insL K G (sumF id E) v E)]) := by
 have kC := contains_fn K v (by omega)
 have kS := sumO_fn (a := aE) (n := nE) (c := cE) E hn hE hEb
 have hl : (intRows E).length = nE := by rw [intRows_len, hn]
 have hs0 := (sumId_bd hEb).1
 generalize sumF id E = r at *
 by_cases h1 : v ∈ K
 ·rw [decide_eq_true h1] at kC
  by_cases h2 : G < r + v
  ·have e : insO K G r v = 12 := by unfold insO; rw [if_neg (not_not_intro h1), if_pos h2]
   unfold insL
   rw [e, if_neg (by decide), ← hn]
   clear e h1
   refine Spec.body Tryd.func14 rfl rfl (Tryd.ntmps14) rfl fun w0 own0 M => ?_
   repeat' (first | refine goH ?_ | refine goV ?_ | refine goC (fun ad cap => ?_) | refine goI ?_ | (refine Cw.k_cond ?_; first | (refine Cw.cond_dec rfl ?_ ?_ <;> intro hc <;> try omega) | refine Cw.cond_bool rfl ?_ ?_ <;> intro hc) | (refine Ops.k_calla ?_; first | (refine Ops.k_callf 39 ?_; refine Ops.callV kC (Evs.cons rfl (Evs.cons rfl Evs.nil)) rfl ?_)) | (apply OpW.k_call; first | (apply OpW.k_callf 39; exact OpW.callV kC (Evs.cons rfl (Evs.cons rfl Evs.nil)))) | fail)
   refine goR ?_
   repeat' (first | refine goH ?_ | refine goV ?_ | refine goC (fun ad cap => ?_) | refine goI ?_ | (refine Cw.k_cond ?_; first | (refine Cw.cond_dec rfl ?_ ?_ <;> intro hc <;> try omega) | refine Cw.cond_bool rfl ?_ ?_ <;> intro hc) | exact OpW.callS kS (Evs.cons rfl Evs.nil) goPm | (refine Ops.k_calla ?_; first | (refine Ops.k_callf 51 ?_; refine Ops.callS kS (Evs.cons rfl Evs.nil) goPm rfl ?_)) | (apply OpW.k_call; first | (apply OpW.k_callf 51; exact OpW.callS kS (Evs.cons rfl Evs.nil) goPm)) | refine goR ?_ | refine goP ?_ | apply PSeq.cons | apply PSeq.yes rfl rfl rfl | exact goW | fail)
   exact Fin.ret (Ent.take (Take.cons goPk (Take.cons goPk Take.nil))) (Outs.one rfl rfl) ⟨_, _, rfl, rfl⟩
  ·have e : insO K G r v = 0 := by unfold insO; rw [if_neg (not_not_intro h1), if_neg h2]
   unfold insL
   rw [e, if_pos rfl]
   have hlen : (E ++ [v]).length = nE + 1 := by rw [List.length_append, ← hn]; rfl
   rw [hlen]
   clear e h1
   refine Spec.body Tryd.func14 rfl rfl (Tryd.ntmps14) rfl fun w0 own0 M => ?_
   repeat' (first | refine goH ?_ | refine goV ?_ | refine goC (fun ad cap => ?_) | refine goI ?_ | (refine Cw.k_cond ?_; first | (refine Cw.cond_dec rfl ?_ ?_ <;> intro hc <;> try omega) | refine Cw.cond_bool rfl ?_ ?_ <;> intro hc) | (refine Ops.k_calla ?_; first | (refine Ops.k_callf 39 ?_; refine Ops.callV kC (Evs.cons rfl (Evs.cons rfl Evs.nil)) rfl ?_)) | (apply OpW.k_call; first | (apply OpW.k_callf 39; exact OpW.callV kC (Evs.cons rfl (Evs.cons rfl Evs.nil)))) | fail)
   refine goR ?_
   repeat' (first | refine goH ?_ | refine goV ?_ | refine goC (fun ad cap => ?_) | refine goI ?_ | (refine Cw.k_cond ?_; first | (refine Cw.cond_dec rfl ?_ ?_ <;> intro hc <;> try omega) | refine Cw.cond_bool rfl ?_ ?_ <;> intro hc) | exact OpW.callS kS (Evs.cons rfl Evs.nil) goPm | (refine Ops.k_calla ?_; first | (refine Ops.k_callf 51 ?_; refine Ops.callS kS (Evs.cons rfl Evs.nil) goPm rfl ?_)) | (apply OpW.k_call; first | (apply OpW.k_callf 51; exact OpW.callS kS (Evs.cons rfl Evs.nil) goPm)) | refine goR ?_ | refine goP ?_ | apply PSeq.cons | apply PSeq.yes rfl rfl rfl | exact goW | fail)
   have hl2 : (intRows E ++ [[Tr.int v]]).length = nE + 1 := by rw [List.length_append, hl]; rfl
   try rw [hl2]
   rw [← intRows_snoc]
   exact Fin.ret (Ent.take (Take.cons goPk (Take.cons goPk Take.nil))) (Outs.one rfl rfl) ⟨_, _, rfl, rfl⟩
 ·rw [decide_eq_false h1] at kC
  have e : insO K G r v = 8 := by unfold insO; rw [if_pos h1]
  unfold insL
  rw [e, if_neg (by decide), ← hn]
  clear e h1
  refine Spec.body Tryd.func14 rfl rfl (Tryd.ntmps14) rfl fun w0 own0 M => ?_
  repeat' (first | refine goH ?_ | refine goV ?_ | refine goC (fun ad cap => ?_) | refine goI ?_ | (refine Cw.k_cond ?_; first | (refine Cw.cond_dec rfl ?_ ?_ <;> intro hc <;> try omega) | refine Cw.cond_bool rfl ?_ ?_ <;> intro hc) | (refine Ops.k_calla ?_; first | (refine Ops.k_callf 39 ?_; refine Ops.callV kC (Evs.cons rfl (Evs.cons rfl Evs.nil)) rfl ?_)) | (apply OpW.k_call; first | (apply OpW.k_callf 39; exact OpW.callV kC (Evs.cons rfl (Evs.cons rfl Evs.nil)))) | refine goR ?_ | refine goP ?_ | apply PSeq.cons | apply PSeq.yes rfl rfl rfl | exact goW | fail)
  exact Fin.ret (Ent.take (Take.cons goPk (Take.cons goPk Take.nil))) (Outs.one rfl rfl) ⟨_, _, rfl, rfl⟩
theorem backR_fn {b bj bs : Nat} {aT aS aE aI aO aF aC : Option Addr} {nT cT nS cS nE cE nI cI nO cO nF cF nC cC : Nat} {K : List Int} {G x : Int} (E : List Int) (hn : nE = E.length) :
  Spec Tryd.prog 19 [.ptr b] [mR b aT nT cT K aS nS cS G bj aE nE cE x bs aI nI cI aO nO cO aF nF cF aC nC cC, ownI aE cE E] (fun y cs => y = .ints E ∧ cs = [mR b aT nT cT K aS nS cS G bj none 0 0 x bs aI nI cI aO nO cO aF nF cF aC nC cC]) := by
 have hl : nE = (intRows E).length := by rw [intRows_len, hn]
 refine Spec.body Tryd.func19 rfl rfl (Tryd.ntmps19) rfl fun w0 own0 M => ?_
 repeat' (first | refine goH ?_ | refine goV ?_ | refine goI ?_ | (refine Cw.k_cond ?_; first | (refine Cw.cond_dec rfl ?_ ?_ <;> intro hc <;> try omega) | refine Cw.cond_bool rfl ?_ ?_ <;> intro hc) | fail)
 exact Fin.ret (Ent.trans (Ent.settle (s := 2) rfl goPk hl) (Ent.take (Take.cons goPk Take.nil))) (Outs.one rfl rfl) ⟨rfl, rfl⟩
theorem collectR_fn {b bj bs : Nat} {aT aS aE aI aO aF aC : Option Addr} {nT cT nS cS nE cE nI cI nO cO nF cF nC cC : Nat} {K : List Int} {G x : Int} (C : List Int) (hn : nC = C.length) (hC : C.length ≤ 1000000) :
  Spec Tryd.prog 32 [.ptr b] [mR b aT nT cT K aS nS cS G bj aE nE cE x bs aI nI cI aO nO cO aF nF cF aC nC cC, ownI aC cC C] (fun y cs => ∃ (aC' : Option Addr) (cC' : Nat), y = .int x ∧ cs = [mR b aT nT cT K aS nS cS G bj aE nE cE 0 bs aI nI cI aO nO cO aF nF cF aC' ((C ++ [x]).length) cC', ownI aC' cC' (C ++ [x])]) := by
 have hl : (intRows C).length = nC := by rw [intRows_len, hn]
 have hlen : (C ++ [x]).length = nC + 1 := by rw [List.length_append, ← hn]; rfl
 rw [hlen]
 refine Spec.body Tryd.func32 rfl rfl (Tryd.ntmps32) rfl fun w0 own0 M => ?_
 repeat' (first | refine goH ?_ | refine goV ?_ | refine goC (fun ad cap => ?_) | refine goI ?_ | (refine Cw.k_cond ?_; first | (refine Cw.cond_dec rfl ?_ ?_ <;> intro hc <;> try omega) | refine Cw.cond_bool rfl ?_ ?_ <;> intro hc) | fail)
 have hl2 : (intRows C ++ [[Tr.int x]]).length = nC + 1 := by rw [List.length_append, hl]; rfl
 try rw [hl2]
 rw [← intRows_snoc]
 exact Fin.ret (Ent.take (Take.cons goPk (Take.cons goPk Take.nil))) (Outs.one rfl rfl) ⟨_, _, rfl, rfl⟩
theorem loadR_fn {b bj bs : Nat} {aT aS aE aI aO aF aC : Option Addr} {nT cT nS cS nE cE nI cI nO cO nF cF nC cC : Nat} {K : List Int} {G x : Int} (S : List SlotM) (key : ByteArray) (m : Int) (hl : S.length ≤ 1000) (hn : nS = S.length) (hm : -9223372036854775808 ≤ m ∧ m ≤ 9223372036854775807) (hS : ∀ x ∈ S, 0 ≤ x.cnt ∧ x.cnt ≤ x.most ∧ x.most ≤ 1000) :
  Spec Tryd.prog 26 [.ptr b, .str key, .int m] [mR b aT nT cT K aS nS cS G bj aE nE cE x bs aI nI cI aO nO cO aF nF cF aC nC cC, ownS aS cS S] (fun y cs => y = .int (loadO S (slotN S key) m) ∧ cs = [mR b aT nT cT K aS nS cS G bj aE nE cE x bs aI nI cI aO nO cO aF nF cF aC nC cC, ownS aS cS (loadL S (slotN S key) m)]) := by
 have kS : Spec Tryd.prog 55 [.ptr b, .str key] [mR b aT nT cT K aS nS cS G bj aE nE cE x bs aI nI cI aO nO cO aF nF cF aC nC cC, ownS aS cS S] (fun y cs => y = .int (ixN (slotN S key)) ∧ cs = [mR b aT nT cT K aS nS cS G bj aE nE cE x bs aI nI cI aO nO cO aF nF cF aC nC cC, ownS aS cS S]) := slotR_fn S key hl hn
 have hSr : (S.map SlotM.row).length = nS := by rw [List.length_map, hn]
 cases hk : slotN S key with
 |none =>
  rw [hk] at kS
  unfold ixN at kS
  simp only at kS
  unfold loadO loadL
  refine Spec.body Tryd.func26 rfl rfl (Tryd.ntmps26) rfl fun w0 own0 M => ?_
  repeat' (first | refine goH ?_ | refine goV ?_ | (refine Ops.k_nilCheck ?_; first | refine Ops.nilCheck_eptr rfl rfl ?_) | refine goI ?_ | (refine Cw.k_cond ?_; first | (refine Cw.cond_dec rfl ?_ ?_ <;> intro hc <;> try omega) | refine Cw.cond_bool rfl ?_ ?_ <;> intro hc) | exact OpV.w (OpV.nilCheck_eptr rfl) | (refine Ops.k_calla ?_; first | (refine Ops.k_callf 55 ?_; refine Ops.callS kS (Evs.cons rfl (Evs.cons rfl Evs.nil)) goPm rfl ?_)) | (apply OpW.k_call; first | (apply OpW.k_callf 55; exact OpW.callS kS (Evs.cons rfl (Evs.cons rfl Evs.nil)) goPm)) | refine goR ?_ | refine goP ?_ | apply PSeq.cons | apply PSeq.yes rfl rfl rfl | exact goW | fail)
  exact Fin.ret (Ent.take (Take.cons goPk (Take.cons goPk Take.nil))) (Outs.one rfl rfl) ⟨rfl, rfl⟩
 |some k =>
  obtain ⟨d, hd, _, hkl⟩ := findN_some (p := slotP key) hk
  rw [hk] at kS
  unfold ixN at kS
  simp only at kS
  have hb := hS d (List.mem_of_getElem? hd)
  have hrow : (S.map SlotM.row)[((k : Nat) : Int).toNat]? = some [.str d.key, .str d.prod, .int d.price, .int d.most, .int d.cnt] := by rw [Int.toNat_natCast]; exact rows_at hd
  have hAt := tAtS_eq hd
  by_cases h1 : m < 1
  ·have hO : loadO S (some k) m = 1 := by unfold loadO; simp only; rw [if_pos h1]
   have hL : loadL S (some k) m = S := by unfold loadL; simp only; rw [if_neg (by rw [hO]; decide)]
   rw [hO, hL]
   refine Spec.body Tryd.func26 rfl rfl (Tryd.ntmps26) rfl fun w0 own0 M => ?_
   repeat' (first | refine goH ?_ | refine goV ?_ | (refine Ops.k_nilCheck ?_; first | refine Ops.nilCheck_eptr rfl rfl ?_) | refine goI ?_ | (refine Cw.k_cond ?_; first | (refine Cw.cond_dec rfl ?_ ?_ <;> intro hc <;> try omega) | refine Cw.cond_bool rfl ?_ ?_ <;> intro hc) | exact OpV.w (OpV.nilCheck_eptr rfl) | (refine Ops.k_calla ?_; first | (refine Ops.k_callf 55 ?_; refine Ops.callS kS (Evs.cons rfl (Evs.cons rfl Evs.nil)) goPm rfl ?_)) | (apply OpW.k_call; first | (apply OpW.k_callf 55; exact OpW.callS kS (Evs.cons rfl (Evs.cons rfl Evs.nil)) goPm)) | refine goR ?_ | refine goP ?_ | apply PSeq.cons | apply PSeq.yes rfl rfl rfl | exact goW | fail)
   exact Fin.ret (Ent.take (Take.cons goPk (Take.cons goPk Take.nil))) (Outs.one rfl rfl) ⟨rfl, rfl⟩
  by_cases h2 : d.most - d.cnt < m
  ·have hO : loadO S (some k) m = 12 := by unfold loadO; simp only; rw [if_neg h1, hAt, if_pos h2]
   have hL : loadL S (some k) m = S := by unfold loadL; simp only; rw [if_neg (by rw [hO]; decide)]
   rw [hO, hL]
   refine Spec.body Tryd.func26 rfl rfl (Tryd.ntmps26) rfl fun w0 own0 M => ?_
   repeat' (first | refine goH ?_ | refine goV ?_ | (refine Ops.k_nilCheck ?_; first | refine Ops.nilCheck_eptr rfl rfl ?_) | refine goI ?_ | (refine Cw.k_cond ?_; first | (refine Cw.cond_dec rfl ?_ ?_ <;> intro hc <;> try omega) | refine Cw.cond_bool rfl ?_ ?_ <;> intro hc) | exact OpV.w (OpV.nilCheck_eptr rfl) | (refine Ops.k_calla ?_; first | (refine Ops.k_callf 55 ?_; refine Ops.callS kS (Evs.cons rfl (Evs.cons rfl Evs.nil)) goPm rfl ?_)) | (apply OpW.k_call; first | (apply OpW.k_callf 55; exact OpW.callS kS (Evs.cons rfl (Evs.cons rfl Evs.nil)) goPm)) | refine goR ?_ | refine goP ?_ | apply PSeq.cons | apply PSeq.yes rfl rfl rfl | exact goW | fail)
   exact Fin.ret (Ent.take (Take.cons goPk (Take.cons goPk Take.nil))) (Outs.one rfl rfl) ⟨rfl, rfl⟩
  have hO : loadO S (some k) m = 0 := by unfold loadO; simp only; rw [if_neg h1, hAt, if_neg h2]
  have hL : loadL S (some k) m = S.set k { d with cnt := d.cnt + m } := by unfold loadL; simp only; rw [if_pos hO]; unfold addCnt; rw [hAt]
  rw [hO, hL]
  have e4 : (S.map SlotM.row).set ((k : Nat) : Int).toNat [.str d.key, .str d.prod, .int d.price, .int d.most, .int (d.cnt + m)] = (S.set k { d with cnt := d.cnt + m }).map SlotM.row := by rw [Int.toNat_natCast]; exact slotRow_set S k { d with cnt := d.cnt + m }
  refine Spec.body Tryd.func26 rfl rfl (Tryd.ntmps26) rfl fun w0 own0 M => ?_
  repeat' (first | refine goH ?_ | refine goV ?_ | (refine Ops.k_nilCheck ?_; first | refine Ops.nilCheck_eptr rfl rfl ?_) | refine goI ?_ | (refine Cw.k_cond ?_; first | (refine Cw.cond_dec rfl ?_ ?_ <;> intro hc <;> try omega) | refine Cw.cond_bool rfl ?_ ?_ <;> intro hc) | exact OpV.w (OpV.nilCheck_eptr rfl) | (refine Ops.k_calla ?_; first | (refine Ops.k_callf 55 ?_; refine Ops.callS kS (Evs.cons rfl (Evs.cons rfl Evs.nil)) goPm rfl ?_)) | (apply OpW.k_call; first | (apply OpW.k_callf 55; exact OpW.callS kS (Evs.cons rfl (Evs.cons rfl Evs.nil)) goPm)) | refine goR ?_ | refine goP ?_ | apply PSeq.cons | apply PSeq.yes rfl rfl rfl | exact goW | fail)
  erw [e4]
  exact Fin.ret (Ent.take (Take.cons goPk (Take.cons goPk Take.nil))) (Outs.one rfl rfl) ⟨rfl, rfl⟩

theorem priceR_fn {b bj bs : Nat} {aT aS aE aI aO aF aC : Option Addr} {nT cT nS cS nE cE nI cI nO cO nF cF nC cC : Nat} {K : List Int} {G x : Int} (S : List SlotM) (key : ByteArray) (m : Int) (hl : S.length ≤ 1000) (hn : nS = S.length) :
  Spec Tryd.prog 30 [.ptr b, .str key, .int m] [mR b aT nT cT K aS nS cS G bj aE nE cE x bs aI nI cI aO nO cO aF nF cF aC nC cC, ownS aS cS S] (fun y cs => y = .int (priO (slotN S key) m) ∧ cs = [mR b aT nT cT K aS nS cS G bj aE nE cE x bs aI nI cI aO nO cO aF nF cF aC nC cC, ownS aS cS (priL S (slotN S key) m)]) := by
 have kS : Spec Tryd.prog 55 [.ptr b, .str key] [mR b aT nT cT K aS nS cS G bj aE nE cE x bs aI nI cI aO nO cO aF nF cF aC nC cC, ownS aS cS S] (fun y cs => y = .int (ixN (slotN S key)) ∧ cs = [mR b aT nT cT K aS nS cS G bj aE nE cE x bs aI nI cI aO nO cO aF nF cF aC nC cC, ownS aS cS S]) := slotR_fn S key hl hn
 have hSr : (S.map SlotM.row).length = nS := by rw [List.length_map, hn]
 cases hk : slotN S key with
 |none =>
  rw [hk] at kS
  unfold ixN at kS
  simp only at kS
  unfold priO priL
  refine Spec.body Tryd.func30 rfl rfl (Tryd.ntmps30) rfl fun w0 own0 M => ?_
  repeat' (first | refine goH ?_ | refine goV ?_ | (refine Ops.k_nilCheck ?_; first | refine Ops.nilCheck_eptr rfl rfl ?_) | refine goG ?_ | (refine Ops.k_guard ?_; first | (refine Ops.guard_dec rfl rfl ?_ ?_ <;> intro hc <;> try omega) | refine Ops.guard_split rfl rfl ?_ ?_ <;> intro hc) | refine goI ?_ | (refine Cw.k_cond ?_; first | (refine Cw.cond_dec rfl ?_ ?_ <;> intro hc <;> try omega) | refine Cw.cond_bool rfl ?_ ?_ <;> intro hc) | exact OpV.w (OpV.nilCheck_eptr rfl) | (refine Ops.k_calla ?_; first | (refine Ops.k_callf 55 ?_; refine Ops.callS kS (Evs.cons rfl (Evs.cons rfl Evs.nil)) goPm rfl ?_)) | fail)
  exact Fin.ret (Ent.take (Take.cons goPk (Take.cons goPk Take.nil))) (Outs.one rfl rfl) ⟨rfl, rfl⟩
 |some k =>
  obtain ⟨d, hd, _, hkl⟩ := findN_some (p := slotP key) hk
  rw [hk] at kS
  unfold ixN at kS
  simp only at kS
  have hrow : (S.map SlotM.row)[((k : Nat) : Int).toNat]? = some [.str d.key, .str d.prod, .int d.price, .int d.most, .int d.cnt] := by rw [Int.toNat_natCast]; exact rows_at hd
  unfold priL priO
  simp only
  rw [tAtS_eq hd]
  by_cases h1 : m < 1 ∨ 20000 < m
  ·rw [if_pos h1, if_pos h1]
   by_cases h1a : m < 1
   all_goals
    refine Spec.body Tryd.func30 rfl rfl (Tryd.ntmps30) rfl fun w0 own0 M => ?_
    repeat' (first | refine goH ?_ | refine goV ?_ | refine goG ?_ | (refine Ops.k_guard ?_; first | (refine Ops.guard_dec rfl rfl ?_ ?_ <;> intro hc <;> try omega) | refine Ops.guard_split rfl rfl ?_ ?_ <;> intro hc) | refine goI ?_ | (refine Cw.k_cond ?_; first | (refine Cw.cond_dec rfl ?_ ?_ <;> intro hc <;> try omega) | refine Cw.cond_bool rfl ?_ ?_ <;> intro hc) | (refine Ops.k_calla ?_; first | (refine Ops.k_callf 55 ?_; refine Ops.callS kS (Evs.cons rfl (Evs.cons rfl Evs.nil)) goPm rfl ?_)) | fail)
    exact Fin.ret (Ent.take (Take.cons goPk (Take.cons goPk Take.nil))) (Outs.one rfl rfl) ⟨rfl, rfl⟩
  rw [if_neg h1, if_neg h1]
  have e4 : (S.map SlotM.row).set ((k : Nat) : Int).toNat [.str d.key, .str d.prod, .int m, .int d.most, .int d.cnt] = (S.set k { d with price := m }).map SlotM.row := by rw [Int.toNat_natCast]; exact slotRow_set S k { d with price := m }
  refine Spec.body Tryd.func30 rfl rfl (Tryd.ntmps30) rfl fun w0 own0 M => ?_
  repeat' (first | refine goH ?_ | refine goV ?_ | refine goG ?_ | (refine Ops.k_guard ?_; first | (refine Ops.guard_dec rfl rfl ?_ ?_ <;> intro hc <;> try omega) | refine Ops.guard_split rfl rfl ?_ ?_ <;> intro hc) | refine goI ?_ | (refine Cw.k_cond ?_; first | (refine Cw.cond_dec rfl ?_ ?_ <;> intro hc <;> try omega) | refine Cw.cond_bool rfl ?_ ?_ <;> intro hc) | (refine Ops.k_calla ?_; first | (refine Ops.k_callf 55 ?_; refine Ops.callS kS (Evs.cons rfl (Evs.cons rfl Evs.nil)) goPm rfl ?_)) | fail)
  erw [e4]
  exact Fin.ret (Ent.take (Take.cons goPk (Take.cons goPk Take.nil))) (Outs.one rfl rfl) ⟨rfl, rfl⟩

end Lg
end
