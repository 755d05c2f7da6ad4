/- A part of the proof of a law of this seat: it adds no condition. By an AI agent. -/
import Derived.Test.YtcojnmobcfpeeaaDoorLgOrd
import Derived.Test.YtcojnmobcfpeeaaDoorMs12
import Derived.Test.YtcojnmobcfpeeaaDoorMs21
set_option linter.all false
set_option maxRecDepth 100000
set_option maxHeartbeats 8000000
namespace Lg
open Go Go.Proofs

/-! ### the machines' methods over one bundle -/
theorem Spec.bunF {P : Program} {f : FuncId} {args : List Tr} {cin L F : List Chunk} {post : Tr → List Chunk → Prop} (h : Spec P f args cin post) (hp : L.Perm (cin ++ F)) : Spec P f args [Chunk.bun L] (fun r cs => ∃ c2, post r c2 ∧ cs = [Chunk.bun (c2 ++ F)]) := by
 have k := h.frame F
 unfold Spec at k ⊢
 have hb : ∀ X : List Chunk, fps [Chunk.bun X] = fps X := fun X => by rw [fps_bun, List.append_nil]
 have hfp : (fps L).Perm (fps (cin ++ F)) := hp.flatMap_right _
 have hav : ∀ M, av M (cin ++ F) = av M [Chunk.bun L] := fun M => by
  funext b
  simp only [av, hb]
  rw [hfp.mem_iff]
 have hav2 : ∀ M (X : List Chunk), av M [Chunk.bun X] = av M X := fun M X => by
  funext b
  simp only [av, hb]
 refine ⟨k.1, fun M w vs hv hch hnd hlt hM => ?_⟩
 rw [← hav] at hv
 rw [hb] at hnd
 have hch2 : ∀ c ∈ cin ++ F, c.holds w (av M (cin ++ F)) := fun c hc => by
  have h1 := hch (Chunk.bun L) (by simp)
  rw [← hav] at h1
  unfold Chunk.bun at h1
  exact h1 c (hp.mem_iff.2 hc)
 have hr := k.2 M w vs hv hch2 (hfp.nodup_iff.1 hnd) (fun b hb' => hlt b (by rw [hb]; exact hfp.mem_iff.2 hb')) hM
 refine hr.mono ?_
 rintro e w' ⟨v, r, cs', he, ⟨c2, hpost, rfl⟩, hrd, hcs, hnd2, hfr, hF⟩
 refine ⟨v, r, _, he, ⟨c2, hpost, rfl⟩, ?_, ?_, ?_, ?_, ?_⟩
 ·rw [hav2]; exact hrd
 ·intro c hc
  rw [List.mem_singleton.1 hc, hav2]
  unfold Chunk.bun
  intro y hy
  exact hcs y hy
 ·rw [hb]; exact hnd2
 ·intro b hb'
  rw [hb] at hb'
  obtain ⟨h1, h2, h3⟩ := hfr b hb'
  refine ⟨h1, h2, ?_⟩
  rcases h3 with h3 | h3
  ·exact .inl (by rw [hb]; exact hfp.mem_iff.2 h3)
  ·exact .inr h3
 ·have := hF
  rw [hb]
  exact ⟨this.os, this.tape, this.output, this.size, fun b hb' hn => this.block b hb' (fun hm => hn (hfp.mem_iff.2 hm)), this.drawn⟩
theorem jamL_len (n : Option Nat) (J : List Bool) (on : Bool) : (jamL n J on).length = J.length := by
 unfold jamL
 cases n with
 |none => rfl
 |some q =>
  simp only
  split
  ·rfl
  ·rw [List.length_set]
theorem loadL_len (L : List SlotM) (n : Option Nat) (m : Int) : (loadL L n m).length = L.length := by
 unfold loadL
 cases n with
 |none => rfl
 |some q =>
  simp only
  split
  ·unfold addCnt; rw [List.length_set]
  ·rfl
theorem priL_len (L : List SlotM) (n : Option Nat) (m : Int) : (priL L n m).length = L.length := by
 unfold priL
 cases n with
 |none => rfl
 |some q =>
  simp only
  split
  ·rfl
  ·rw [List.length_set]
theorem filL_len (T : List Tube) (n : Option Nat) (m : Int) : (filL T n m).length = T.length := by
 unfold filL
 cases n with
 |none => rfl
 |some q =>
  simp only
  split
  ·unfold addT; rw [List.length_set]
  ·rfl
theorem subT_len {T : List Tube} {E : List Int} (a : Nat) : (subT (tknT T E) (coinsL (tknT T E) a)).length = T.length := by
 have h1 : (tknT T E).length = T.length := by
  have hAl : (tknA T E).1.length = T.length := by unfold tknA; rw [cntA_len, List.length_replicate]
  unfold tknT
  exact stlT_len _ _ hAl
 unfold subT
 rw [List.length_zipWith, coinsL_len, h1]
 omega
def IsX (b : Nat) (K : List Int) (G : Int) (T : List Tube) (L : List SlotM) (J : List Bool) (E : List Int) (Y : List Tally) (i o f c x r : Int) (ch : Chunk) : Prop := ∃ (aT aS aJ aE aY : Option Addr) (nT nS nJ nE nY cT cS cJ cE cY : Nat) (l : List Chunk), (nT = T.length ∧ nS = L.length ∧ nJ = J.length ∧ nE = E.length ∧ nY = Y.length) ∧ l.Perm [mX b aT nT cT K aS nS cS G aJ nJ cJ aE nE cE aY nY cY i o f c x r, ownT aT cT T, ownS aS cS L, ownJ aJ cJ J, ownI aE cE E, ownY aY cY Y] ∧ ch = Chunk.bun l
def IsY (b : Nat) (K : List Int) (G : Int) (T : List Tube) (L : List SlotM) (E : List Int) (x : Int) (kv : KB) (Gm : List Gr) (LI LO LF LC : List Int) (ch : Chunk) : Prop := ∃ (bj bs : Nat) (aT aS aE aI aO aF aC : Option Addr) (nT nS nE nI nO nF nC cT cS cE cI cO cF cC : Nat) (l : List Chunk), (nT = T.length ∧ nS = L.length ∧ nE = E.length ∧ nI = LI.length ∧ nO = LO.length ∧ nF = LF.length ∧ nC = LC.length) ∧ l.Perm [mR b aT nT cT K aS nS cS G bj aE nE cE x bs aI nI cI aO nO cO aF nF cF aC nC cC, ownT aT cT T, ownS aS cS L, ownI aE cE E, Chunk.mp Value.string bj kv, Chunk.mp Value.string bs (gkv Gm), Chunk.bun (gch Gm), ownI aI cI LI, ownI aO cO LO, ownI aF cF LF, ownI aC cC LC] ∧ ch = Chunk.bun l
attribute [local irreducible] intRows tknT tknR coinsL subT
theorem insX {k : Nat} {K : List Int} {G : Int} {T : List Tube} {L : List SlotM} {J : List Bool} {E : List Int} {Y : List Tally} {i o f c x r : Int} {kv : KB} {Gm : List Gr} {LI LO LF LC : List Int} {b : Nat} {ch : Chunk} (h : MI2 k K G T L J E Y i o f c x r kv Gm LI LO LF LC) (hk : k ≤ 100) (hX : IsX b K G T L J E Y i o f c x r ch) (v : Int) (hv : 0 ≤ v ∧ v ≤ 1000000) : Spec Tryd.prog 13 [.ptr b, .int v] [ch] (fun y cs => ∃ ch', IsX b K G T L J (insL K G r v E) Y i o f c x (insC K G r v) ch' ∧ y = .int (insO K G r v) ∧ cs = [ch']) := by
 obtain ⟨aT, aS, aJ, aE, aY, nT, nS, nJ, nE, nY, cT, cS, cJ, cE, cY, l, ⟨hnT, hnS, hnJ, hnE, hnY⟩, hp, rfl⟩ := hX
 have hEl := h.pe.1; have hE2 := h.pe.2.1; have hE3 := h.pe.2.2; have hLl := h.pl.1; have hLb := h.pl.2; have hTl := h.pt.len; have hTc := h.pt.cnt; have hrr := h.pr; have hii := h.pi; have hoo := h.po; have hff := h.pf; have hcc := h.pc; have hxx := h.px; have hgg := h.pg; have hs0 := (sumId_bd fun v hv => (show 0 ≤ v ∧ v ≤ 1000000000000 by have := hE2 v hv; omega : 0 ≤ v ∧ v ≤ 1000000000000)).1; have hi0 := sum_ge hii.2.1; have ho0 := sum_ge hoo.2.1; have hf0 := sum_ge hff.2.1; have hc0 := sum_ge hcc.2
 refine (Spec.bunF (insert_fn (b := b) (aT := aT) (nT := nT) (cT := cT) (K := K) (aS := aS) (nS := nS) (cS := cS) (H := G) (aJ := aJ) (nJ := nJ) (cJ := cJ) (aE := aE) (nE := nE) (cE := cE) (aY := aY) (nY := nY) (cY := cY) (i := i) (o := o) (f := f) (c := c) (x := x) (r := r) E v (by have := h.pkl.1; omega) (by omega) hnE (by omega) hv) (hp.trans (Perm.cons' goPk (Perm.cons' goPk (List.Perm.refl _))))).mono ?_
 rintro y cs ⟨c2, ⟨aE', cE', rfl, rfl⟩, rfl⟩
 refine ⟨_, ⟨aT, aS, aJ, aE', aY, _, _, _, _, _, cT, cS, cJ, cE', cY, _, ⟨hnT, hnS, hnJ, rfl, hnY⟩, ?_, rfl⟩, rfl, rfl⟩
 exact (Perm.cons' goPk (Perm.cons' goPk (Perm.cons' goPk (Perm.cons' goPk (Perm.cons' goPk (Perm.cons' goPk (List.Perm.refl _)))))))
theorem jamX {k : Nat} {K : List Int} {G : Int} {T : List Tube} {L : List SlotM} {J : List Bool} {E : List Int} {Y : List Tally} {i o f c x r : Int} {kv : KB} {Gm : List Gr} {LI LO LF LC : List Int} {b : Nat} {ch : Chunk} (h : MI2 k K G T L J E Y i o f c x r kv Gm LI LO LF LC) (hk : k ≤ 100) (hX : IsX b K G T L J E Y i o f c x r ch) (key : ByteArray) : Spec Tryd.prog 21 [.ptr b, .str key] [ch] (fun y cs => ∃ ch', IsX b K G T L (jamL (slotN L key) J true) E Y i o f c x r ch' ∧ y = .int (jamO (slotN L key) J true) ∧ cs = [ch']) := by
 obtain ⟨aT, aS, aJ, aE, aY, nT, nS, nJ, nE, nY, cT, cS, cJ, cE, cY, l, ⟨hnT, hnS, hnJ, hnE, hnY⟩, hp, rfl⟩ := hX
 have hEl := h.pe.1; have hE2 := h.pe.2.1; have hE3 := h.pe.2.2; have hLl := h.pl.1; have hLb := h.pl.2; have hTl := h.pt.len; have hTc := h.pt.cnt; have hrr := h.pr; have hii := h.pi; have hoo := h.po; have hff := h.pf; have hcc := h.pc; have hxx := h.px; have hgg := h.pg; have hs0 := (sumId_bd fun v hv => (show 0 ≤ v ∧ v ≤ 1000000000000 by have := hE2 v hv; omega : 0 ≤ v ∧ v ≤ 1000000000000)).1; have hi0 := sum_ge hii.2.1; have ho0 := sum_ge hoo.2.1; have hf0 := sum_ge hff.2.1; have hc0 := sum_ge hcc.2
 refine (Spec.bunF (jam_fn (b := b) (aT := aT) (nT := nT) (cT := cT) (K := K) (aS := aS) (nS := nS) (cS := cS) (H := G) (aJ := aJ) (nJ := nJ) (cJ := cJ) (aE := aE) (nE := nE) (cE := cE) (aY := aY) (nY := nY) (cY := cY) (i := i) (o := o) (f := f) (c := c) (x := x) (r := r) L J key (by omega) hnS hnJ h.pj) (hp.trans (Perm.cons' goPk (Perm.cons' goPk (Perm.cons' goPk (List.Perm.refl _)))))).mono ?_
 rintro y cs ⟨c2, ⟨rfl, rfl⟩, rfl⟩
 refine ⟨_, ⟨aT, aS, aJ, aE, aY, _, _, _, _, _, cT, cS, cJ, cE, cY, _, ⟨hnT, hnS, hnJ.trans (jamL_len ..).symm, hnE, hnY⟩, ?_, rfl⟩, rfl, rfl⟩
 exact (Perm.cons' goPk (Perm.cons' goPk (Perm.cons' goPk (Perm.cons' goPk (Perm.cons' goPk (Perm.cons' goPk (List.Perm.refl _)))))))
theorem freeX {k : Nat} {K : List Int} {G : Int} {T : List Tube} {L : List SlotM} {J : List Bool} {E : List Int} {Y : List Tally} {i o f c x r : Int} {kv : KB} {Gm : List Gr} {LI LO LF LC : List Int} {b : Nat} {ch : Chunk} (h : MI2 k K G T L J E Y i o f c x r kv Gm LI LO LF LC) (hk : k ≤ 100) (hX : IsX b K G T L J E Y i o f c x r ch) (key : ByteArray) : Spec Tryd.prog 23 [.ptr b, .str key] [ch] (fun y cs => ∃ ch', IsX b K G T L (jamL (slotN L key) J false) E Y i o f c x r ch' ∧ y = .int (jamO (slotN L key) J false) ∧ cs = [ch']) := by
 obtain ⟨aT, aS, aJ, aE, aY, nT, nS, nJ, nE, nY, cT, cS, cJ, cE, cY, l, ⟨hnT, hnS, hnJ, hnE, hnY⟩, hp, rfl⟩ := hX
 have hEl := h.pe.1; have hE2 := h.pe.2.1; have hE3 := h.pe.2.2; have hLl := h.pl.1; have hLb := h.pl.2; have hTl := h.pt.len; have hTc := h.pt.cnt; have hrr := h.pr; have hii := h.pi; have hoo := h.po; have hff := h.pf; have hcc := h.pc; have hxx := h.px; have hgg := h.pg; have hs0 := (sumId_bd fun v hv => (show 0 ≤ v ∧ v ≤ 1000000000000 by have := hE2 v hv; omega : 0 ≤ v ∧ v ≤ 1000000000000)).1; have hi0 := sum_ge hii.2.1; have ho0 := sum_ge hoo.2.1; have hf0 := sum_ge hff.2.1; have hc0 := sum_ge hcc.2
 refine (Spec.bunF (free_fn (b := b) (aT := aT) (nT := nT) (cT := cT) (K := K) (aS := aS) (nS := nS) (cS := cS) (H := G) (aJ := aJ) (nJ := nJ) (cJ := cJ) (aE := aE) (nE := nE) (cE := cE) (aY := aY) (nY := nY) (cY := cY) (i := i) (o := o) (f := f) (c := c) (x := x) (r := r) L J key (by omega) hnS hnJ h.pj) (hp.trans (Perm.cons' goPk (Perm.cons' goPk (Perm.cons' goPk (List.Perm.refl _)))))).mono ?_
 rintro y cs ⟨c2, ⟨rfl, rfl⟩, rfl⟩
 refine ⟨_, ⟨aT, aS, aJ, aE, aY, _, _, _, _, _, cT, cS, cJ, cE, cY, _, ⟨hnT, hnS, hnJ.trans (jamL_len ..).symm, hnE, hnY⟩, ?_, rfl⟩, rfl, rfl⟩
 exact (Perm.cons' goPk (Perm.cons' goPk (Perm.cons' goPk (Perm.cons' goPk (Perm.cons' goPk (Perm.cons' goPk (List.Perm.refl _)))))))
theorem loadX {k : Nat} {K : List Int} {G : Int} {T : List Tube} {L : List SlotM} {J : List Bool} {E : List Int} {Y : List Tally} {i o f c x r : Int} {kv : KB} {Gm : List Gr} {LI LO LF LC : List Int} {b : Nat} {ch : Chunk} (h : MI2 k K G T L J E Y i o f c x r kv Gm LI LO LF LC) (hk : k ≤ 100) (hX : IsX b K G T L J E Y i o f c x r ch) (key : ByteArray) (m : Int) (hm : -9223372036854775808 ≤ m ∧ m ≤ 9223372036854775807) : Spec Tryd.prog 25 [.ptr b, .str key, .int m] [ch] (fun y cs => ∃ ch', IsX b K G T (loadL L (slotN L key) m) J E Y i o f c x r ch' ∧ y = .int (loadO L (slotN L key) m) ∧ cs = [ch']) := by
 obtain ⟨aT, aS, aJ, aE, aY, nT, nS, nJ, nE, nY, cT, cS, cJ, cE, cY, l, ⟨hnT, hnS, hnJ, hnE, hnY⟩, hp, rfl⟩ := hX
 have hEl := h.pe.1; have hE2 := h.pe.2.1; have hE3 := h.pe.2.2; have hLl := h.pl.1; have hLb := h.pl.2; have hTl := h.pt.len; have hTc := h.pt.cnt; have hrr := h.pr; have hii := h.pi; have hoo := h.po; have hff := h.pf; have hcc := h.pc; have hxx := h.px; have hgg := h.pg; have hs0 := (sumId_bd fun v hv => (show 0 ≤ v ∧ v ≤ 1000000000000 by have := hE2 v hv; omega : 0 ≤ v ∧ v ≤ 1000000000000)).1; have hi0 := sum_ge hii.2.1; have ho0 := sum_ge hoo.2.1; have hf0 := sum_ge hff.2.1; have hc0 := sum_ge hcc.2
 refine (Spec.bunF (load_fn (b := b) (aT := aT) (nT := nT) (cT := cT) (K := K) (aS := aS) (nS := nS) (cS := cS) (H := G) (aJ := aJ) (nJ := nJ) (cJ := cJ) (aE := aE) (nE := nE) (cE := cE) (aY := aY) (nY := nY) (cY := cY) (i := i) (o := o) (f := f) (c := c) (x := x) (r := r) L key m (by omega) hnS hm (fun s hs => by have := hLb s hs; omega)) (hp.trans (Perm.cons' goPk (Perm.cons' goPk (List.Perm.refl _))))).mono ?_
 rintro y cs ⟨c2, ⟨rfl, rfl⟩, rfl⟩
 refine ⟨_, ⟨aT, aS, aJ, aE, aY, _, _, _, _, _, cT, cS, cJ, cE, cY, _, ⟨hnT, hnS.trans (loadL_len ..).symm, hnJ, hnE, hnY⟩, ?_, rfl⟩, rfl, rfl⟩
 exact (Perm.cons' goPk (Perm.cons' goPk (Perm.cons' goPk (Perm.cons' goPk (Perm.cons' goPk (Perm.cons' goPk (List.Perm.refl _)))))))
theorem priceX {k : Nat} {K : List Int} {G : Int} {T : List Tube} {L : List SlotM} {J : List Bool} {E : List Int} {Y : List Tally} {i o f c x r : Int} {kv : KB} {Gm : List Gr} {LI LO LF LC : List Int} {b : Nat} {ch : Chunk} (h : MI2 k K G T L J E Y i o f c x r kv Gm LI LO LF LC) (hk : k ≤ 100) (hX : IsX b K G T L J E Y i o f c x r ch) (key : ByteArray) (m : Int) : Spec Tryd.prog 29 [.ptr b, .str key, .int m] [ch] (fun y cs => ∃ ch', IsX b K G T (priL L (slotN L key) m) J E Y i o f c x r ch' ∧ y = .int (priO (slotN L key) m) ∧ cs = [ch']) := by
 obtain ⟨aT, aS, aJ, aE, aY, nT, nS, nJ, nE, nY, cT, cS, cJ, cE, cY, l, ⟨hnT, hnS, hnJ, hnE, hnY⟩, hp, rfl⟩ := hX
 have hEl := h.pe.1; have hE2 := h.pe.2.1; have hE3 := h.pe.2.2; have hLl := h.pl.1; have hLb := h.pl.2; have hTl := h.pt.len; have hTc := h.pt.cnt; have hrr := h.pr; have hii := h.pi; have hoo := h.po; have hff := h.pf; have hcc := h.pc; have hxx := h.px; have hgg := h.pg; have hs0 := (sumId_bd fun v hv => (show 0 ≤ v ∧ v ≤ 1000000000000 by have := hE2 v hv; omega : 0 ≤ v ∧ v ≤ 1000000000000)).1; have hi0 := sum_ge hii.2.1; have ho0 := sum_ge hoo.2.1; have hf0 := sum_ge hff.2.1; have hc0 := sum_ge hcc.2
 refine (Spec.bunF (price_fn (b := b) (aT := aT) (nT := nT) (cT := cT) (K := K) (aS := aS) (nS := nS) (cS := cS) (H := G) (aJ := aJ) (nJ := nJ) (cJ := cJ) (aE := aE) (nE := nE) (cE := cE) (aY := aY) (nY := nY) (cY := cY) (i := i) (o := o) (f := f) (c := c) (x := x) (r := r) L key m (by omega) hnS) (hp.trans (Perm.cons' goPk (Perm.cons' goPk (List.Perm.refl _))))).mono ?_
 rintro y cs ⟨c2, ⟨rfl, rfl⟩, rfl⟩
 refine ⟨_, ⟨aT, aS, aJ, aE, aY, _, _, _, _, _, cT, cS, cJ, cE, cY, _, ⟨hnT, hnS.trans (priL_len ..).symm, hnJ, hnE, hnY⟩, ?_, rfl⟩, rfl, rfl⟩
 exact (Perm.cons' goPk (Perm.cons' goPk (Perm.cons' goPk (Perm.cons' goPk (Perm.cons' goPk (Perm.cons' goPk (List.Perm.refl _)))))))
theorem fillX {k : Nat} {K : List Int} {G : Int} {T : List Tube} {L : List SlotM} {J : List Bool} {E : List Int} {Y : List Tally} {i o f c x r : Int} {kv : KB} {Gm : List Gr} {LI LO LF LC : List Int} {b : Nat} {ch : Chunk} (h : MI2 k K G T L J E Y i o f c x r kv Gm LI LO LF LC) (hk : k ≤ 100) (hX : IsX b K G T L J E Y i o f c x r ch) (v m : Int) (hv : 0 ≤ v ∧ v ≤ 10000) (hm : -9223372036854775808 ≤ m ∧ m ≤ 9223372036854775807) : Spec Tryd.prog 27 [.ptr b, .int v, .int m] [ch] (fun y cs => ∃ ch', IsX b K G (filL T (tubeN T v) m) L J E Y i o (if filO T (tubeN T v) m = 0 then f + m * v else f) c x r ch' ∧ y = .int (filO T (tubeN T v) m) ∧ cs = [ch']) := by
 obtain ⟨aT, aS, aJ, aE, aY, nT, nS, nJ, nE, nY, cT, cS, cJ, cE, cY, l, ⟨hnT, hnS, hnJ, hnE, hnY⟩, hp, rfl⟩ := hX
 have hEl := h.pe.1; have hE2 := h.pe.2.1; have hE3 := h.pe.2.2; have hLl := h.pl.1; have hLb := h.pl.2; have hTl := h.pt.len; have hTc := h.pt.cnt; have hrr := h.pr; have hii := h.pi; have hoo := h.po; have hff := h.pf; have hcc := h.pc; have hxx := h.px; have hgg := h.pg; have hs0 := (sumId_bd fun v hv => (show 0 ≤ v ∧ v ≤ 1000000000000 by have := hE2 v hv; omega : 0 ≤ v ∧ v ≤ 1000000000000)).1; have hi0 := sum_ge hii.2.1; have ho0 := sum_ge hoo.2.1; have hf0 := sum_ge hff.2.1; have hc0 := sum_ge hcc.2
 refine (Spec.bunF (fill_fn (b := b) (aT := aT) (nT := nT) (cT := cT) (K := K) (aS := aS) (nS := nS) (cS := cS) (H := G) (aJ := aJ) (nJ := nJ) (cJ := cJ) (aE := aE) (nE := nE) (cE := cE) (aY := aY) (nY := nY) (cY := cY) (i := i) (o := o) (f := f) (c := c) (x := x) (r := r) T v m (by omega) hnT hv (by omega) hm hTc) (hp.trans (Perm.cons' goPk (Perm.cons' goPk (List.Perm.refl _))))).mono ?_
 rintro y cs ⟨c2, ⟨rfl, rfl⟩, rfl⟩
 refine ⟨_, ⟨aT, aS, aJ, aE, aY, _, _, _, _, _, cT, cS, cJ, cE, cY, _, ⟨hnT.trans (filL_len ..).symm, hnS, hnJ, hnE, hnY⟩, ?_, rfl⟩, rfl, rfl⟩
 exact (Perm.cons' goPk (Perm.cons' goPk (Perm.cons' goPk (Perm.cons' goPk (Perm.cons' goPk (Perm.cons' goPk (List.Perm.refl _)))))))
theorem collectX {k : Nat} {K : List Int} {G : Int} {T : List Tube} {L : List SlotM} {J : List Bool} {E : List Int} {Y : List Tally} {i o f c x r : Int} {kv : KB} {Gm : List Gr} {LI LO LF LC : List Int} {b : Nat} {ch : Chunk} (h : MI2 k K G T L J E Y i o f c x r kv Gm LI LO LF LC) (hk : k ≤ 100) (hX : IsX b K G T L J E Y i o f c x r ch)  : Spec Tryd.prog 31 [.ptr b] [ch] (fun y cs => ∃ ch', IsX b K G T L J E Y i o f (c + x) 0 r ch' ∧ y = .int x ∧ cs = [ch']) := by
 obtain ⟨aT, aS, aJ, aE, aY, nT, nS, nJ, nE, nY, cT, cS, cJ, cE, cY, l, ⟨hnT, hnS, hnJ, hnE, hnY⟩, hp, rfl⟩ := hX
 have hEl := h.pe.1; have hE2 := h.pe.2.1; have hE3 := h.pe.2.2; have hLl := h.pl.1; have hLb := h.pl.2; have hTl := h.pt.len; have hTc := h.pt.cnt; have hrr := h.pr; have hii := h.pi; have hoo := h.po; have hff := h.pf; have hcc := h.pc; have hxx := h.px; have hgg := h.pg; have hs0 := (sumId_bd fun v hv => (show 0 ≤ v ∧ v ≤ 1000000000000 by have := hE2 v hv; omega : 0 ≤ v ∧ v ≤ 1000000000000)).1; have hi0 := sum_ge hii.2.1; have ho0 := sum_ge hoo.2.1; have hf0 := sum_ge hff.2.1; have hc0 := sum_ge hcc.2
 refine (Spec.bunF (collect_fn (b := b) (aT := aT) (nT := nT) (cT := cT) (K := K) (aS := aS) (nS := nS) (cS := cS) (H := G) (aJ := aJ) (nJ := nJ) (cJ := cJ) (aE := aE) (nE := nE) (cE := cE) (aY := aY) (nY := nY) (cY := cY) (i := i) (o := o) (f := f) (c := c) (x := x) (r := r) (by omega) (by omega)) (hp.trans (Perm.cons' goPk (List.Perm.refl _)))).mono ?_
 rintro y cs ⟨c2, ⟨rfl, rfl⟩, rfl⟩
 refine ⟨_, ⟨aT, aS, aJ, aE, aY, _, _, _, _, _, cT, cS, cJ, cE, cY, _, ⟨hnT, hnS, hnJ, hnE, hnY⟩, ?_, rfl⟩, rfl, rfl⟩
 exact (Perm.cons' goPk (Perm.cons' goPk (Perm.cons' goPk (Perm.cons' goPk (Perm.cons' goPk (Perm.cons' goPk (List.Perm.refl _)))))))
theorem auditX {k : Nat} {K : List Int} {G : Int} {T : List Tube} {L : List SlotM} {J : List Bool} {E : List Int} {Y : List Tally} {i o f c x r : Int} {kv : KB} {Gm : List Gr} {LI LO LF LC : List Int} {b : Nat} {ch : Chunk} (h : MI2 k K G T L J E Y i o f c x r kv Gm LI LO LF LC) (hk : k ≤ 100) (hX : IsX b K G T L J E Y i o f c x r ch)  : Spec Tryd.prog 34 [.ptr b] [ch] (fun y cs => ∃ ch', IsX b K G T L J E Y i o f c x r ch' ∧ y = .agg [.sl 3 (Y.map Tally.row), .int i, .int o, .int f, .int c, .int x, .int r, .tubes T] ∧ cs = [ch']) := by
 obtain ⟨aT, aS, aJ, aE, aY, nT, nS, nJ, nE, nY, cT, cS, cJ, cE, cY, l, ⟨hnT, hnS, hnJ, hnE, hnY⟩, hp, rfl⟩ := hX
 have hEl := h.pe.1; have hE2 := h.pe.2.1; have hE3 := h.pe.2.2; have hLl := h.pl.1; have hLb := h.pl.2; have hTl := h.pt.len; have hTc := h.pt.cnt; have hrr := h.pr; have hii := h.pi; have hoo := h.po; have hff := h.pf; have hcc := h.pc; have hxx := h.px; have hgg := h.pg; have hs0 := (sumId_bd fun v hv => (show 0 ≤ v ∧ v ≤ 1000000000000 by have := hE2 v hv; omega : 0 ≤ v ∧ v ≤ 1000000000000)).1; have hi0 := sum_ge hii.2.1; have ho0 := sum_ge hoo.2.1; have hf0 := sum_ge hff.2.1; have hc0 := sum_ge hcc.2
 refine (Spec.bunF (audit_fn (b := b) (aT := aT) (nT := nT) (cT := cT) (K := K) (aS := aS) (nS := nS) (cS := cS) (G := G) (aJ := aJ) (nJ := nJ) (cJ := cJ) (aE := aE) (nE := nE) (cE := cE) (aY := aY) (nY := nY) (cY := cY) (i := i) (o := o) (f := f) (c := c) (x := x) (r := r) T Y (by omega) hnT (by have := h.py; rw [this]; unfold audY; rw [List.length_map]; omega) hnY) (hp.trans (Perm.cons' goPk (Perm.cons' goPk (Perm.cons' goPk (List.Perm.refl _)))))).mono ?_
 rintro y cs ⟨c2, ⟨rfl, rfl⟩, rfl⟩
 refine ⟨_, ⟨aT, aS, aJ, aE, aY, _, _, _, _, _, cT, cS, cJ, cE, cY, _, ⟨hnT, hnS, hnJ, hnE, hnY⟩, ?_, rfl⟩, rfl, rfl⟩
 exact (Perm.cons' goPk (Perm.cons' goPk (Perm.cons' goPk (Perm.cons' goPk (Perm.cons' goPk (Perm.cons' goPk (List.Perm.refl _)))))))
theorem insY {k : Nat} {K : List Int} {G : Int} {T : List Tube} {L : List SlotM} {J : List Bool} {E : List Int} {Y : List Tally} {i o f c x r : Int} {kv : KB} {Gm : List Gr} {LI LO LF LC : List Int} {b : Nat} {ch : Chunk} (h : MI2 k K G T L J E Y i o f c x r kv Gm LI LO LF LC) (hk : k ≤ 100) (hY : IsY b K G T L E x kv Gm LI LO LF LC ch) (v : Int) (hv : 0 ≤ v ∧ v ≤ 1000000) : Spec Tryd.prog 14 [.ptr b, .int v] [ch] (fun y cs => ∃ ch', IsY b K G T L (insL K G (sumF id E) v E) x kv Gm LI LO LF LC ch' ∧ y = .int (insO K G (sumF id E) v) ∧ cs = [ch']) := by
 obtain ⟨bj, bs, aT, aS, aE, aI, aO, aF, aC, nT, nS, nE, nI, nO, nF, nC, cT, cS, cE, cI, cO, cF, cC, l, ⟨hnT, hnS, hnE, hnI, hnO, hnF, hnC⟩, hp, rfl⟩ := hY
 have hEl := h.pe.1; have hE2 := h.pe.2.1; have hE3 := h.pe.2.2; have hLl := h.pl.1; have hLb := h.pl.2; have hTl := h.pt.len; have hTc := h.pt.cnt; have hrr := h.pr; have hii := h.pi; have hoo := h.po; have hff := h.pf; have hcc := h.pc; have hxx := h.px; have hgg := h.pg; have hs0 := (sumId_bd fun v hv => (show 0 ≤ v ∧ v ≤ 1000000000000 by have := hE2 v hv; omega : 0 ≤ v ∧ v ≤ 1000000000000)).1; have hi0 := sum_ge hii.2.1; have ho0 := sum_ge hoo.2.1; have hf0 := sum_ge hff.2.1; have hc0 := sum_ge hcc.2
 refine (Spec.bunF (insertR_fn (b := b) (bj := bj) (bs := bs) (aT := aT) (aS := aS) (aE := aE) (aI := aI) (aO := aO) (aF := aF) (aC := aC) (nT := nT) (cT := cT) (nS := nS) (cS := cS) (nE := nE) (cE := cE) (nI := nI) (cI := cI) (nO := nO) (cO := cO) (nF := nF) (cF := cF) (nC := nC) (cC := cC) (K := K) (G := G) (x := x) E v (by have := h.pkl.1; omega) (by omega) hnE (fun u hu => by have := hE2 u hu; omega) (by omega) hv) (hp.trans (Perm.cons' goPk (Perm.cons' goPk (List.Perm.refl _))))).mono ?_
 rintro y cs ⟨c2, ⟨aE', cE', rfl, rfl⟩, rfl⟩
 refine ⟨_, ⟨bj, bs, aT, aS, aE', aI, aO, aF, aC, _, _, _, _, _, _, _, cT, cS, cE', cI, cO, cF, cC, _, ⟨hnT, hnS, rfl, hnI, hnO, hnF, hnC⟩, ?_, rfl⟩, rfl, rfl⟩
 exact (Perm.cons' goPk (Perm.cons' goPk (Perm.cons' goPk (Perm.cons' goPk (Perm.cons' goPk (Perm.cons' goPk (Perm.cons' goPk (Perm.cons' goPk (Perm.cons' goPk (Perm.cons' goPk (Perm.cons' goPk (List.Perm.refl _))))))))))))
theorem jamY {k : Nat} {K : List Int} {G : Int} {T : List Tube} {L : List SlotM} {J : List Bool} {E : List Int} {Y : List Tally} {i o f c x r : Int} {kv : KB} {Gm : List Gr} {LI LO LF LC : List Int} {b : Nat} {ch : Chunk} (h : MI2 k K G T L J E Y i o f c x r kv Gm LI LO LF LC) (hk : k ≤ 100) (hY : IsY b K G T L E x kv Gm LI LO LF LC ch) (key : ByteArray) : Spec Tryd.prog 22 [.ptr b, .str key] [ch] (fun y cs => ∃ kv' ch', JM kv' L (jamL (slotN L key) J true) ∧ IsY b K G T L E x (kv') Gm LI LO LF LC ch' ∧ y = .int (jamO (slotN L key) J true) ∧ cs = [ch']) := by
 obtain ⟨bj, bs, aT, aS, aE, aI, aO, aF, aC, nT, nS, nE, nI, nO, nF, nC, cT, cS, cE, cI, cO, cF, cC, l, ⟨hnT, hnS, hnE, hnI, hnO, hnF, hnC⟩, hp, rfl⟩ := hY
 have hEl := h.pe.1; have hE2 := h.pe.2.1; have hE3 := h.pe.2.2; have hLl := h.pl.1; have hLb := h.pl.2; have hTl := h.pt.len; have hTc := h.pt.cnt; have hrr := h.pr; have hii := h.pi; have hoo := h.po; have hff := h.pf; have hcc := h.pc; have hxx := h.px; have hgg := h.pg; have hs0 := (sumId_bd fun v hv => (show 0 ≤ v ∧ v ≤ 1000000000000 by have := hE2 v hv; omega : 0 ≤ v ∧ v ≤ 1000000000000)).1; have hi0 := sum_ge hii.2.1; have ho0 := sum_ge hoo.2.1; have hf0 := sum_ge hff.2.1; have hc0 := sum_ge hcc.2
 refine (Spec.bunF (jamR_fn (b := b) (bj := bj) (bs := bs) (aT := aT) (aS := aS) (aE := aE) (aI := aI) (aO := aO) (aF := aF) (aC := aC) (nT := nT) (cT := cT) (nS := nS) (cS := cS) (nE := nE) (cE := cE) (nI := nI) (cI := cI) (nO := nO) (cO := cO) (nF := nF) (cF := cF) (nC := nC) (cC := cC) (K := K) (G := G) (x := x) L J kv key (by omega) hnS h.pj h.kd h.jm) (hp.trans (Perm.cons' goPk (Perm.cons' goPk (Perm.cons' goPk (List.Perm.refl _)))))).mono ?_
 rintro y cs ⟨c2, ⟨kv', hkv, rfl, rfl⟩, rfl⟩
 refine ⟨kv', _, hkv, ⟨bj, bs, aT, aS, aE, aI, aO, aF, aC, _, _, _, _, _, _, _, cT, cS, cE, cI, cO, cF, cC, _, ⟨hnT, hnS, hnE, hnI, hnO, hnF, hnC⟩, ?_, rfl⟩, rfl, rfl⟩
 exact (Perm.cons' goPk (Perm.cons' goPk (Perm.cons' goPk (Perm.cons' goPk (Perm.cons' goPk (Perm.cons' goPk (Perm.cons' goPk (Perm.cons' goPk (Perm.cons' goPk (Perm.cons' goPk (Perm.cons' goPk (List.Perm.refl _))))))))))))
theorem freeY {k : Nat} {K : List Int} {G : Int} {T : List Tube} {L : List SlotM} {J : List Bool} {E : List Int} {Y : List Tally} {i o f c x r : Int} {kv : KB} {Gm : List Gr} {LI LO LF LC : List Int} {b : Nat} {ch : Chunk} (h : MI2 k K G T L J E Y i o f c x r kv Gm LI LO LF LC) (hk : k ≤ 100) (hY : IsY b K G T L E x kv Gm LI LO LF LC ch) (key : ByteArray) : Spec Tryd.prog 24 [.ptr b, .str key] [ch] (fun y cs => ∃ kv' ch', JM kv' L (jamL (slotN L key) J false) ∧ IsY b K G T L E x (kv') Gm LI LO LF LC ch' ∧ y = .int (jamO (slotN L key) J false) ∧ cs = [ch']) := by
 obtain ⟨bj, bs, aT, aS, aE, aI, aO, aF, aC, nT, nS, nE, nI, nO, nF, nC, cT, cS, cE, cI, cO, cF, cC, l, ⟨hnT, hnS, hnE, hnI, hnO, hnF, hnC⟩, hp, rfl⟩ := hY
 have hEl := h.pe.1; have hE2 := h.pe.2.1; have hE3 := h.pe.2.2; have hLl := h.pl.1; have hLb := h.pl.2; have hTl := h.pt.len; have hTc := h.pt.cnt; have hrr := h.pr; have hii := h.pi; have hoo := h.po; have hff := h.pf; have hcc := h.pc; have hxx := h.px; have hgg := h.pg; have hs0 := (sumId_bd fun v hv => (show 0 ≤ v ∧ v ≤ 1000000000000 by have := hE2 v hv; omega : 0 ≤ v ∧ v ≤ 1000000000000)).1; have hi0 := sum_ge hii.2.1; have ho0 := sum_ge hoo.2.1; have hf0 := sum_ge hff.2.1; have hc0 := sum_ge hcc.2
 refine (Spec.bunF (freeR_fn (b := b) (bj := bj) (bs := bs) (aT := aT) (aS := aS) (aE := aE) (aI := aI) (aO := aO) (aF := aF) (aC := aC) (nT := nT) (cT := cT) (nS := nS) (cS := cS) (nE := nE) (cE := cE) (nI := nI) (cI := cI) (nO := nO) (cO := cO) (nF := nF) (cF := cF) (nC := nC) (cC := cC) (K := K) (G := G) (x := x) L J kv key (by omega) hnS h.pj h.kd h.jm) (hp.trans (Perm.cons' goPk (Perm.cons' goPk (Perm.cons' goPk (List.Perm.refl _)))))).mono ?_
 rintro y cs ⟨c2, ⟨kv', hkv, rfl, rfl⟩, rfl⟩
 refine ⟨kv', _, hkv, ⟨bj, bs, aT, aS, aE, aI, aO, aF, aC, _, _, _, _, _, _, _, cT, cS, cE, cI, cO, cF, cC, _, ⟨hnT, hnS, hnE, hnI, hnO, hnF, hnC⟩, ?_, rfl⟩, rfl, rfl⟩
 exact (Perm.cons' goPk (Perm.cons' goPk (Perm.cons' goPk (Perm.cons' goPk (Perm.cons' goPk (Perm.cons' goPk (Perm.cons' goPk (Perm.cons' goPk (Perm.cons' goPk (Perm.cons' goPk (Perm.cons' goPk (List.Perm.refl _))))))))))))
theorem loadY {k : Nat} {K : List Int} {G : Int} {T : List Tube} {L : List SlotM} {J : List Bool} {E : List Int} {Y : List Tally} {i o f c x r : Int} {kv : KB} {Gm : List Gr} {LI LO LF LC : List Int} {b : Nat} {ch : Chunk} (h : MI2 k K G T L J E Y i o f c x r kv Gm LI LO LF LC) (hk : k ≤ 100) (hY : IsY b K G T L E x kv Gm LI LO LF LC ch) (key : ByteArray) (m : Int) (hm : -9223372036854775808 ≤ m ∧ m ≤ 9223372036854775807) : Spec Tryd.prog 26 [.ptr b, .str key, .int m] [ch] (fun y cs => ∃ ch', IsY b K G T (loadL L (slotN L key) m) E x kv Gm LI LO LF LC ch' ∧ y = .int (loadO L (slotN L key) m) ∧ cs = [ch']) := by
 obtain ⟨bj, bs, aT, aS, aE, aI, aO, aF, aC, nT, nS, nE, nI, nO, nF, nC, cT, cS, cE, cI, cO, cF, cC, l, ⟨hnT, hnS, hnE, hnI, hnO, hnF, hnC⟩, hp, rfl⟩ := hY
 have hEl := h.pe.1; have hE2 := h.pe.2.1; have hE3 := h.pe.2.2; have hLl := h.pl.1; have hLb := h.pl.2; have hTl := h.pt.len; have hTc := h.pt.cnt; have hrr := h.pr; have hii := h.pi; have hoo := h.po; have hff := h.pf; have hcc := h.pc; have hxx := h.px; have hgg := h.pg; have hs0 := (sumId_bd fun v hv => (show 0 ≤ v ∧ v ≤ 1000000000000 by have := hE2 v hv; omega : 0 ≤ v ∧ v ≤ 1000000000000)).1; have hi0 := sum_ge hii.2.1; have ho0 := sum_ge hoo.2.1; have hf0 := sum_ge hff.2.1; have hc0 := sum_ge hcc.2
 refine (Spec.bunF (loadR_fn (b := b) (bj := bj) (bs := bs) (aT := aT) (aS := aS) (aE := aE) (aI := aI) (aO := aO) (aF := aF) (aC := aC) (nT := nT) (cT := cT) (nS := nS) (cS := cS) (nE := nE) (cE := cE) (nI := nI) (cI := cI) (nO := nO) (cO := cO) (nF := nF) (cF := cF) (nC := nC) (cC := cC) (K := K) (G := G) (x := x) L key m (by omega) hnS hm (fun s hs => by have := hLb s hs; omega)) (hp.trans (Perm.cons' goPk (Perm.cons' goPk (List.Perm.refl _))))).mono ?_
 rintro y cs ⟨c2, ⟨rfl, rfl⟩, rfl⟩
 refine ⟨_, ⟨bj, bs, aT, aS, aE, aI, aO, aF, aC, _, _, _, _, _, _, _, cT, cS, cE, cI, cO, cF, cC, _, ⟨hnT, hnS.trans (loadL_len ..).symm, hnE, hnI, hnO, hnF, hnC⟩, ?_, rfl⟩, rfl, rfl⟩
 exact (Perm.cons' goPk (Perm.cons' goPk (Perm.cons' goPk (Perm.cons' goPk (Perm.cons' goPk (Perm.cons' goPk (Perm.cons' goPk (Perm.cons' goPk (Perm.cons' goPk (Perm.cons' goPk (Perm.cons' goPk (List.Perm.refl _))))))))))))
theorem priceY {k : Nat} {K : List Int} {G : Int} {T : List Tube} {L : List SlotM} {J : List Bool} {E : List Int} {Y : List Tally} {i o f c x r : Int} {kv : KB} {Gm : List Gr} {LI LO LF LC : List Int} {b : Nat} {ch : Chunk} (h : MI2 k K G T L J E Y i o f c x r kv Gm LI LO LF LC) (hk : k ≤ 100) (hY : IsY b K G T L E x kv Gm LI LO LF LC ch) (key : ByteArray) (m : Int) : Spec Tryd.prog 30 [.ptr b, .str key, .int m] [ch] (fun y cs => ∃ ch', IsY b K G T (priL L (slotN L key) m) E x kv Gm LI LO LF LC ch' ∧ y = .int (priO (slotN L key) m) ∧ cs = [ch']) := by
 obtain ⟨bj, bs, aT, aS, aE, aI, aO, aF, aC, nT, nS, nE, nI, nO, nF, nC, cT, cS, cE, cI, cO, cF, cC, l, ⟨hnT, hnS, hnE, hnI, hnO, hnF, hnC⟩, hp, rfl⟩ := hY
 have hEl := h.pe.1; have hE2 := h.pe.2.1; have hE3 := h.pe.2.2; have hLl := h.pl.1; have hLb := h.pl.2; have hTl := h.pt.len; have hTc := h.pt.cnt; have hrr := h.pr; have hii := h.pi; have hoo := h.po; have hff := h.pf; have hcc := h.pc; have hxx := h.px; have hgg := h.pg; have hs0 := (sumId_bd fun v hv => (show 0 ≤ v ∧ v ≤ 1000000000000 by have := hE2 v hv; omega : 0 ≤ v ∧ v ≤ 1000000000000)).1; have hi0 := sum_ge hii.2.1; have ho0 := sum_ge hoo.2.1; have hf0 := sum_ge hff.2.1; have hc0 := sum_ge hcc.2
 refine (Spec.bunF (priceR_fn (b := b) (bj := bj) (bs := bs) (aT := aT) (aS := aS) (aE := aE) (aI := aI) (aO := aO) (aF := aF) (aC := aC) (nT := nT) (cT := cT) (nS := nS) (cS := cS) (nE := nE) (cE := cE) (nI := nI) (cI := cI) (nO := nO) (cO := cO) (nF := nF) (cF := cF) (nC := nC) (cC := cC) (K := K) (G := G) (x := x) L key m (by omega) hnS) (hp.trans (Perm.cons' goPk (Perm.cons' goPk (List.Perm.refl _))))).mono ?_
 rintro y cs ⟨c2, ⟨rfl, rfl⟩, rfl⟩
 refine ⟨_, ⟨bj, bs, aT, aS, aE, aI, aO, aF, aC, _, _, _, _, _, _, _, cT, cS, cE, cI, cO, cF, cC, _, ⟨hnT, hnS.trans (priL_len ..).symm, hnE, hnI, hnO, hnF, hnC⟩, ?_, rfl⟩, rfl, rfl⟩
 exact (Perm.cons' goPk (Perm.cons' goPk (Perm.cons' goPk (Perm.cons' goPk (Perm.cons' goPk (Perm.cons' goPk (Perm.cons' goPk (Perm.cons' goPk (Perm.cons' goPk (Perm.cons' goPk (Perm.cons' goPk (List.Perm.refl _))))))))))))
theorem fillY {k : Nat} {K : List Int} {G : Int} {T : List Tube} {L : List SlotM} {J : List Bool} {E : List Int} {Y : List Tally} {i o f c x r : Int} {kv : KB} {Gm : List Gr} {LI LO LF LC : List Int} {b : Nat} {ch : Chunk} (h : MI2 k K G T L J E Y i o f c x r kv Gm LI LO LF LC) (hk : k ≤ 100) (hY : IsY b K G T L E x kv Gm LI LO LF LC ch) (v m : Int) (hv : 0 ≤ v ∧ v ≤ 10000) (hm : -9223372036854775808 ≤ m ∧ m ≤ 9223372036854775807) : Spec Tryd.prog 28 [.ptr b, .int v, .int m] [ch] (fun y cs => ∃ LF' ch', (LF' = if filO T (tubeN T v) m = 0 then LF ++ [v * m] else LF) ∧ IsY b K G (filL T (tubeN T v) m) L E x kv Gm LI LO (LF') LC ch' ∧ y = .int (filO T (tubeN T v) m) ∧ cs = [ch']) := by
 obtain ⟨bj, bs, aT, aS, aE, aI, aO, aF, aC, nT, nS, nE, nI, nO, nF, nC, cT, cS, cE, cI, cO, cF, cC, l, ⟨hnT, hnS, hnE, hnI, hnO, hnF, hnC⟩, hp, rfl⟩ := hY
 have hEl := h.pe.1; have hE2 := h.pe.2.1; have hE3 := h.pe.2.2; have hLl := h.pl.1; have hLb := h.pl.2; have hTl := h.pt.len; have hTc := h.pt.cnt; have hrr := h.pr; have hii := h.pi; have hoo := h.po; have hff := h.pf; have hcc := h.pc; have hxx := h.px; have hgg := h.pg; have hs0 := (sumId_bd fun v hv => (show 0 ≤ v ∧ v ≤ 1000000000000 by have := hE2 v hv; omega : 0 ≤ v ∧ v ≤ 1000000000000)).1; have hi0 := sum_ge hii.2.1; have ho0 := sum_ge hoo.2.1; have hf0 := sum_ge hff.2.1; have hc0 := sum_ge hcc.2
 refine (Spec.bunF (fillR_fn (b := b) (bj := bj) (bs := bs) (aT := aT) (aS := aS) (aE := aE) (aI := aI) (aO := aO) (aF := aF) (aC := aC) (nT := nT) (cT := cT) (nS := nS) (cS := cS) (nE := nE) (cE := cE) (nI := nI) (cI := cI) (nO := nO) (cO := cO) (nF := nF) (cF := cF) (nC := nC) (cC := cC) (K := K) (G := G) (x := x) T LF v m (by omega) hnT (by have := hff.2.1.1; omega) hnF hv hm hTc) (hp.trans (Perm.cons' goPk (Perm.cons' goPk (Perm.cons' goPk (List.Perm.refl _)))))).mono ?_
 rintro y cs ⟨c2, ⟨aF', nF', cF', LF', ⟨hn', hL'⟩, rfl, rfl⟩, rfl⟩
 refine ⟨LF', _, hL', ⟨bj, bs, aT, aS, aE, aI, aO, aF', aC, _, _, _, _, _, _, _, cT, cS, cE, cI, cO, cF', cC, _, ⟨hnT.trans (filL_len ..).symm, hnS, hnE, hnI, hnO, hn', hnC⟩, ?_, rfl⟩, rfl, rfl⟩
 exact (Perm.cons' goPk (Perm.cons' goPk (Perm.cons' goPk (Perm.cons' goPk (Perm.cons' goPk (Perm.cons' goPk (Perm.cons' goPk (Perm.cons' goPk (Perm.cons' goPk (Perm.cons' goPk (Perm.cons' goPk (List.Perm.refl _))))))))))))
theorem collectY {k : Nat} {K : List Int} {G : Int} {T : List Tube} {L : List SlotM} {J : List Bool} {E : List Int} {Y : List Tally} {i o f c x r : Int} {kv : KB} {Gm : List Gr} {LI LO LF LC : List Int} {b : Nat} {ch : Chunk} (h : MI2 k K G T L J E Y i o f c x r kv Gm LI LO LF LC) (hk : k ≤ 100) (hY : IsY b K G T L E x kv Gm LI LO LF LC ch)  : Spec Tryd.prog 32 [.ptr b] [ch] (fun y cs => ∃ ch', IsY b K G T L E 0 kv Gm LI LO LF (LC ++ [x]) ch' ∧ y = .int x ∧ cs = [ch']) := by
 obtain ⟨bj, bs, aT, aS, aE, aI, aO, aF, aC, nT, nS, nE, nI, nO, nF, nC, cT, cS, cE, cI, cO, cF, cC, l, ⟨hnT, hnS, hnE, hnI, hnO, hnF, hnC⟩, hp, rfl⟩ := hY
 have hEl := h.pe.1; have hE2 := h.pe.2.1; have hE3 := h.pe.2.2; have hLl := h.pl.1; have hLb := h.pl.2; have hTl := h.pt.len; have hTc := h.pt.cnt; have hrr := h.pr; have hii := h.pi; have hoo := h.po; have hff := h.pf; have hcc := h.pc; have hxx := h.px; have hgg := h.pg; have hs0 := (sumId_bd fun v hv => (show 0 ≤ v ∧ v ≤ 1000000000000 by have := hE2 v hv; omega : 0 ≤ v ∧ v ≤ 1000000000000)).1; have hi0 := sum_ge hii.2.1; have ho0 := sum_ge hoo.2.1; have hf0 := sum_ge hff.2.1; have hc0 := sum_ge hcc.2
 refine (Spec.bunF (collectR_fn (b := b) (bj := bj) (bs := bs) (aT := aT) (aS := aS) (aE := aE) (aI := aI) (aO := aO) (aF := aF) (aC := aC) (nT := nT) (cT := cT) (nS := nS) (cS := cS) (nE := nE) (cE := cE) (nI := nI) (cI := cI) (nO := nO) (cO := cO) (nF := nF) (cF := cF) (nC := nC) (cC := cC) (K := K) (G := G) (x := x) LC hnC (by have := hcc.2.1; omega)) (hp.trans (Perm.cons' goPk (Perm.cons' goPk (List.Perm.refl _))))).mono ?_
 rintro y cs ⟨c2, ⟨aC', cC', rfl, rfl⟩, rfl⟩
 refine ⟨_, ⟨bj, bs, aT, aS, aE, aI, aO, aF, aC', _, _, _, _, _, _, _, cT, cS, cE, cI, cO, cF, cC', _, ⟨hnT, hnS, hnE, hnI, hnO, hnF, rfl⟩, ?_, rfl⟩, rfl, rfl⟩
 exact (Perm.cons' goPk (Perm.cons' goPk (Perm.cons' goPk (Perm.cons' goPk (Perm.cons' goPk (Perm.cons' goPk (Perm.cons' goPk (Perm.cons' goPk (Perm.cons' goPk (Perm.cons' goPk (Perm.cons' goPk (List.Perm.refl _))))))))))))
theorem auditY {k : Nat} {K : List Int} {G : Int} {T : List Tube} {L : List SlotM} {J : List Bool} {E : List Int} {Y : List Tally} {i o f c x r : Int} {kv : KB} {Gm : List Gr} {LI LO LF LC : List Int} {b : Nat} {ch : Chunk} (h : MI2 k K G T L J E Y i o f c x r kv Gm LI LO LF LC) (hk : k ≤ 100) (hY : IsY b K G T L E x kv Gm LI LO LF LC ch)  : Spec Tryd.prog 35 [.ptr b] [ch] (fun y cs => ∃ ch', IsY b K G T L E x kv Gm LI LO LF LC ch' ∧ y = .agg [.sl 3 ((audY L Gm).map Tally.row), .int (sumF id LI), .int (sumF id LO), .int (sumF id LF), .int (sumF id LC), .int x, .int (sumF id E), .tubes T] ∧ cs = [ch']) := by
 obtain ⟨bj, bs, aT, aS, aE, aI, aO, aF, aC, nT, nS, nE, nI, nO, nF, nC, cT, cS, cE, cI, cO, cF, cC, l, ⟨hnT, hnS, hnE, hnI, hnO, hnF, hnC⟩, hp, rfl⟩ := hY
 have hEl := h.pe.1; have hE2 := h.pe.2.1; have hE3 := h.pe.2.2; have hLl := h.pl.1; have hLb := h.pl.2; have hTl := h.pt.len; have hTc := h.pt.cnt; have hrr := h.pr; have hii := h.pi; have hoo := h.po; have hff := h.pf; have hcc := h.pc; have hxx := h.px; have hgg := h.pg; have hs0 := (sumId_bd fun v hv => (show 0 ≤ v ∧ v ≤ 1000000000000 by have := hE2 v hv; omega : 0 ≤ v ∧ v ≤ 1000000000000)).1; have hi0 := sum_ge hii.2.1; have ho0 := sum_ge hoo.2.1; have hf0 := sum_ge hff.2.1; have hc0 := sum_ge hcc.2
 refine (Spec.bunF (auditR_fn (b := b) (bj := bj) (bs := bs) (aT := aT) (aS := aS) (aE := aE) (aI := aI) (aO := aO) (aF := aF) (aC := aC) (nT := nT) (cT := cT) (nS := nS) (cS := cS) (nE := nE) (cE := cE) (nI := nI) (cI := cI) (nO := nO) (cO := cO) (nF := nF) (cF := cF) (nC := nC) (cC := cC) (K := K) (G := G) (x := x) T L E LI LO LF LC Gm (by omega) hnT (by omega) hnS hnE hnI hnO hnF hnC ⟨by omega, fun u hu => by have := hE2 u hu; omega⟩ ⟨by have := hii.2.1.1; omega, hii.2.1.2⟩ ⟨by have := hoo.2.1.1; omega, hoo.2.1.2⟩ ⟨by have := hff.2.1.1; omega, hff.2.1.2⟩ ⟨by have := hcc.2.1; omega, hcc.2.2⟩ (fun q => ⟨by have := (h.gm q).1.1; omega, (h.gm q).1.2⟩)) (hp.trans (Perm.cons' goPk (Perm.cons' goPk (Perm.cons' goPk (Perm.cons' goPk (Perm.cons' goPk (Perm.cons' goPk (Perm.cons' goPk (Perm.cons' goPk (Perm.cons' goPk (Perm.cons' goPk (List.Perm.refl _))))))))))))).mono ?_
 rintro y cs ⟨c2, ⟨rfl, rfl⟩, rfl⟩
 refine ⟨_, ⟨bj, bs, aT, aS, aE, aI, aO, aF, aC, _, _, _, _, _, _, _, cT, cS, cE, cI, cO, cF, cC, _, ⟨hnT, hnS, hnE, hnI, hnO, hnF, hnC⟩, ?_, rfl⟩, rfl, rfl⟩
 exact (Perm.cons' goPk (Perm.cons' goPk (Perm.cons' goPk (Perm.cons' goPk (Perm.cons' goPk (Perm.cons' goPk (Perm.cons' goPk (Perm.cons' goPk (Perm.cons' goPk (Perm.cons' goPk (Perm.cons' goPk (List.Perm.refl _))))))))))))
end Lg
