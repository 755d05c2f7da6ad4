/- A part of the proof of a law of this seat: it adds no condition. By an AI agent. -/
import Derived.Test.YtcojnmobcfpeeaaDoorSGen
import Derived.Test.YtcojnmobcfpeeaaDoorMs22
section
set_option linter.all false
set_option maxRecDepth 100000
set_option maxHeartbeats 8000000
namespace Lg
open Go Go.Proofs

/-! ### the two machines at the start, Press and Back of both -/
theorem Spec.nilc {P : Program} {f : FuncId} {args : List Tr} {cin : List Chunk} {post : Tr → List Chunk → Prop} (h : Spec P f args cin post) (kk : Nat) (e : TypeId) : Spec P f args cin (fun r cs => ∃ c2, post r c2 ∧ cs = Chunk.own none 0 kk e [] :: c2) := by
 have hf : ∀ X : List Chunk, fps (Chunk.own none 0 kk e [] :: X) = fps X := fun X => by simp [fps, Chunk.own, Value.ownBlock]
 have ha : ∀ M (X : List Chunk), av M (Chunk.own none 0 kk e [] :: X) = av M X := fun M X => by funext b; simp [av, hf]
 unfold Spec at h ⊢
 refine ⟨h.1, fun M w vs hv hch hnd hlt hM => ?_⟩
 refine (h.2 M w vs hv hch hnd hlt hM).mono ?_
 rintro z w' ⟨v, r, cs', he, hpost, hrd, hcs, hnd2, hfr, hF⟩
 refine ⟨v, r, _, he, ⟨cs', hpost, rfl⟩, ?_, ?_, ?_, ?_, hF⟩
 ·rw [ha]; exact hrd
 ·intro c hc
  rw [ha]
  rcases List.mem_cons.1 hc with rfl | hc
  ·unfold Chunk.own
   exact ⟨by simp, [], ⟨by simp, .inl ⟨rfl, rfl⟩⟩, rfl⟩
  ·exact hcs c hc
 ·rw [hf]; exact hnd2
 ·rw [hf]; exact hfr
theorem Spec.nilI {f : FuncId} {args : List Tr} {cin : List Chunk} {post : Tr → List Chunk → Prop} (h : Spec Tryd.prog f args cin post) : Spec Tryd.prog f args cin (fun r cs => ∃ c2, post r c2 ∧ cs = ownI none 0 [] :: c2) := Spec.nilc h 1 3
theorem Spec.bun0 {P : Program} {f : FuncId} {args : List Tr} {post : Tr → List Chunk → Prop} (h : Spec P f args [] post) : Spec P f args [] (fun r cs => ∃ c2, post r c2 ∧ cs = [Chunk.bun c2]) := by
 have hb : ∀ X : List Chunk, fps [Chunk.bun X] = fps X := fun X => by rw [fps_bun, List.append_nil]
 have hav2 : ∀ M (X : List Chunk), av M [Chunk.bun X] = av M X := fun M X => by
  funext b
  simp only [av, hb]
 unfold Spec at h ⊢
 refine ⟨h.1, fun M w vs hv hch hnd hlt hM => ?_⟩
 refine (h.2 M w vs hv hch hnd hlt hM).mono ?_
 rintro e w' ⟨v, r, cs', he, hpost, hrd, hcs, hnd2, hfr, hF⟩
 refine ⟨v, r, _, he, ⟨cs', hpost, rfl⟩, ?_, ?_, ?_, ?_, hF⟩
 ·rw [hav2]; exact hrd
 ·intro c hc
  rw [List.mem_singleton.1 hc, hav2]
  unfold Chunk.bun
  intro y hy
  exact hcs y hy
 ·rw [hb]; exact hnd2
 ·rw [hb]; exact hfr
theorem slt_lt {L : List SlotM} (h : firstE (sltE L) 0 L.length = 0) : ∀ (d i : Nat) (x y : SlotM), L[i]? = some x → L[i + 1 + d]? = some y → strLt x.key y.key = true
 |0, i, x, y, hx, hy => by
  have hk := (List.getElem?_eq_some_iff.1 hy).1
  have h2 := firstE_zero h (i + 1 + 0) (Nat.zero_le _) (by omega)
  unfold sltE at h2
  rw [hy] at h2
  simp only at h2
  by_cases h3 : isKey y.key = false
  ·rw [if_pos h3] at h2; omega
  rw [if_neg h3] at h2
  by_cases h4 : prevB (fun x y => strLe x.key y.key) L (i + 1 + 0) y = true
  ·rw [if_pos h4] at h2; omega
  have h1 : prevB (fun x y => strLe x.key y.key) L (i + 1 + 0) y = false := by simpa using h4
  unfold prevB at h1
  rw [show i + 1 + 0 = i + 1 from rfl] at h1
  simp only [hx] at h1
  unfold strLe at h1
  rw [Bool.or_eq_false_iff] at h1
  cases h5 : strLt x.key y.key
  ·have := strLt_tri h5 h1.1
   simp [this] at h1
  ·rfl
 |d + 1, i, x, y, hx, hy => by
  have hlt := (List.getElem?_eq_some_iff.1 hy).1
  obtain ⟨z, hz⟩ := at_lt (l := L) (k := i + 1 + d) (by omega)
  exact strLt_trans (slt_lt h d i x z hx hz) (slt_lt h 0 (i + 1 + d) z y hz hy)
theorem slt_kd {L : List SlotM} (h : firstE (sltE L) 0 L.length = 0) : KD L := by
 intro i j x y hx hy e
 rcases Nat.lt_trichotomy i j with c | c | c
 ·have := slt_lt h (j - i - 1) i x y hx (by rw [show i + 1 + (j - i - 1) = j by omega]; exact hy)
  rw [e, strLt_irrefl] at this
  cases this
 ·exact c
 ·have := slt_lt h (i - j - 1) j y x hy (by rw [show j + 1 + (i - j - 1) = i by omega]; exact hx)
  rw [e, strLt_irrefl] at this
  cases this
theorem cfg_slt {T : List Tube} {K : List Int} {L : List SlotM} {G : Int} (h : cfgE T K L G = 0) : firstE (sltE L) 0 L.length = 0 := by
 have hp := cfgP T K L G
 by_cases h1 : tubesErr T = 0
 ·by_cases h2 : 20 < K.length
  ·have := hp.p2 h1 h2; omega
  by_cases h3 : firstE (tkE K) 0 K.length = 0
  ·by_cases h4 : T.any (fun d => !decide (d.val ∈ K)) = true ∨ L.length = 0
   ·have := hp.p4 h1 h2 h3 h4; omega
   by_cases h5 : 60 < L.length
   ·have := hp.p5 h1 h2 h3 h4 h5; omega
   by_cases h6 : firstE (sltE L) 0 L.length = 0
   ·exact h6
   ·have := hp.p6 h1 h2 h3 h4 h5 _ rfl h6; omega
  ·have := hp.p3 h1 h2 _ rfl h3; omega
 ·have := hp.p1 _ rfl h1; omega
theorem MI2.start {T : List Tube} {K : List Int} {L : List SlotM} {G : Int} (h : cfgE T K L G = 0) : MI2 0 K G T L (List.replicate L.length false) [] (newY L) 0 0 0 0 0 0 [] [] [] [] [] [] := by
 have ho := cfg_ok h
 have z : ∀ n : Int, n ≤ n * 0 + n := fun n => by omega
 exact {
  pt := ho.t
  pkl := ho.k
  pg := ho.h
  pl := ho.s
  kd := slt_kd (cfg_slt h)
  pj := List.length_replicate
  jm := fun k s hs => by
   have e : (List.replicate L.length false).getD k false = false := by
    rw [List.getD_eq_getElem?_getD]
    by_cases hk : k < L.length
    ·rw [List.getElem?_replicate, if_pos hk]; rfl
    ·rw [List.getElem?_replicate, if_neg hk]; rfl
   rw [e]
   rfl
  py := by unfold newY audY; rfl
  pe := ⟨by simp, fun v h => (by cases h), by decide⟩
  pr := rfl
  pi := ⟨rfl, LiB.nil 0, by omega⟩
  po := ⟨rfl, LiB.nil 0, by omega⟩
  pf := ⟨rfl, LiB.nil 0, by omega⟩
  pc := ⟨rfl, LiB.nil 0⟩
  px := ⟨by omega, by omega⟩
  gm := fun q => ⟨LiB.nil 0, by show (0 : Int) ≤ _; omega⟩ }
theorem newX (T : List Tube) (K : List Int) (L : List SlotM) (G : Int) (h0 : cfgE T K L G = 0) : Spec Tryd.prog 6 [.cfg T K L G] [] (fun y cs => ∃ (b : Nat) (ch : Chunk), IsX b K G T L (List.replicate L.length false) [] (newY L) 0 0 0 0 0 0 ch ∧ y = .tup [.ptr b, .int 0] ∧ cs = [ch]) := by
 have ho := cfg_ok h0
 have h1 := ho.t.len
 have h2 := ho.k.1
 have h3 := ho.s.1
 have hb := Spec.bun0 (Spec.nilI (new_fn T K L G h0 (by omega) (by omega) (by omega)))
 refine hb.mono ?_
 rintro y cs ⟨c2, ⟨c3, ⟨b, aT, aS, aJ, aY, cT, cS, cJ, cY, rfl, rfl⟩, rfl⟩, rfl⟩
 refine ⟨b, _, ⟨aT, aS, aJ, none, aY, _, _, _, 0, _, cT, cS, cJ, 0, cY, _, ⟨rfl, rfl, List.length_replicate.symm, rfl, by unfold newY; rw [List.length_map]⟩, ?_, rfl⟩, rfl, rfl⟩
 exact (Perm.cons' goPk (Perm.cons' goPk (Perm.cons' goPk (Perm.cons' goPk (Perm.cons' goPk (Perm.cons' goPk (List.Perm.refl _)))))))
theorem newY_ (T : List Tube) (K : List Int) (L : List SlotM) (G : Int) (h0 : cfgE T K L G = 0) : Spec Tryd.prog 9 [.cfg T K L G] [] (fun y cs => ∃ (b : Nat) (ch : Chunk), IsY b K G T L [] 0 [] [] [] [] [] [] ch ∧ y = .ptr b ∧ cs = [ch]) := by
 have ho := cfg_ok h0
 have h1 := ho.t.len
 have h2 := ho.k.1
 have h3 := ho.s.1
 have hb := Spec.bun0 (Spec.nilI (Spec.nilI (Spec.nilI (Spec.nilI (Spec.nilI (newR_fn T K L G (by omega) (by omega) (by omega)))))))
 refine hb.mono ?_
 rintro y cs ⟨c2, ⟨c3, ⟨c4, ⟨c5, ⟨c6, ⟨c7, ⟨b, bj, bs, aT, aS, cT, cS, rfl, rfl⟩, rfl⟩, rfl⟩, rfl⟩, rfl⟩, rfl⟩, rfl⟩
 refine ⟨b, _, ⟨bj, bs, aT, aS, none, none, none, none, none, _, _, 0, 0, 0, 0, 0, cT, cS, 0, 0, 0, 0, 0, _, ⟨rfl, rfl, rfl, rfl, rfl, rfl, rfl⟩, ?_, rfl⟩, rfl, rfl⟩
 exact (Perm.cons' goPk (Perm.cons' goPk (Perm.cons' goPk (Perm.cons' goPk (Perm.cons' goPk (Perm.cons' goPk (Perm.cons' goPk (Perm.cons' goPk (Perm.cons' goPk (Perm.cons' goPk (Perm.cons' goPk (List.Perm.refl _))))))))))))
theorem new_bad (T : List Tube) (K : List Int) (L : List SlotM) (G : Int) (h0 : cfgE T K L G ≠ 0) : PFn Tryd.prog 6 [.cfg T K L G] (· = .tup [Tr.raw (.pointer none), .int (cfgE T K L G)]) := by
 have k1 := checkConfig_fn T K L G
 generalize cfgE T K L G = e at *
 refine PFn.mk (Spec.body Tryd.func6 rfl rfl (Tryd.ntmps6) rfl fun w0 own0 M => ?_)
 repeat' (first | refine goH ?_ | (refine Ops.k_b_neq ?_; first | (refine Ops.val' rfl (OpV.neq_t rfl rfl h0) ?_)) | refine goV ?_ | refine goB (fun b => ?_) | refine goC (fun ad cap => ?_) | refine goI ?_ | (refine Cw.k_cond ?_; first | (refine Cw.cond_dec rfl ?_ ?_ <;> intro hc <;> try omega) | refine Cw.cond_bool rfl ?_ ?_ <;> intro hc) | (refine Ops.k_calla ?_; first | (refine Ops.k_callf 7 ?_; refine Ops.callV k1 (Evs.cons rfl Evs.nil) rfl ?_)) | (apply OpW.k_call; first | (apply OpW.k_callf 7; exact OpW.callV k1 (Evs.cons rfl Evs.nil))) | fail)
 exact Fin.ret (Ent.take goTk) (Outs.many rfl (OutL.cons goOe (OutL.cons goOe OutL.nil)) rfl) ⟨rfl, rfl⟩
attribute [local irreducible] intRows tknT tknR coinsL subT
theorem backX {k : Nat} {K : List Int} {G : Int} {T : List Tube} {L : List SlotM} {J : List Bool} {E : List Int} {Y : List Tally} {i o f c x r : Int} {kv : KB} {Gm : List Gr} {LI LO LF LC : List Int} {b : Nat} {ch : Chunk} (h : MI2 k K G T L J E Y i o f c x r kv Gm LI LO LF LC) (hX : IsX b K G T L J E Y i o f c x r ch) : Spec Tryd.prog 18 [.ptr b] [ch] (fun y cs => ∃ ch', IsX b K G T L J [] Y i o f c x 0 ch' ∧ y = .ints E ∧ cs = [ch']) := by
 obtain ⟨aT, aS, aJ, aE, aY, nT, nS, nJ, nE, nY, cT, cS, cJ, cE, cY, l, ⟨hnT, hnS, hnJ, hnE, hnY⟩, hp, rfl⟩ := hX
 refine (Spec.bunF (Spec.nilI (back_fn (b := b) (aT := aT) (nT := nT) (cT := cT) (K := K) (aS := aS) (nS := nS) (cS := cS) (H := G) (aJ := aJ) (nJ := nJ) (cJ := cJ) (aE := aE) (nE := nE) (cE := cE) (aY := aY) (nY := nY) (cY := cY) (i := i) (o := o) (f := f) (c := c) (x := x) (r := r) E hnE)) (hp.trans (Perm.cons' goPk (Perm.cons' goPk (List.Perm.refl _))))).mono ?_
 rintro y cs ⟨c2, ⟨c3, ⟨rfl, rfl⟩, rfl⟩, rfl⟩
 refine ⟨_, ⟨aT, aS, aJ, none, aY, _, _, _, 0, _, cT, cS, cJ, 0, cY, _, ⟨hnT, hnS, hnJ, rfl, hnY⟩, ?_, rfl⟩, rfl, rfl⟩
 exact (Perm.cons' goPk (Perm.cons' goPk (Perm.cons' goPk (Perm.cons' goPk (Perm.cons' goPk (Perm.cons' goPk (List.Perm.refl _)))))))
theorem backY {k : Nat} {K : List Int} {G : Int} {T : List Tube} {L : List SlotM} {J : List Bool} {E : List Int} {Y : List Tally} {i o f c x r : Int} {kv : KB} {Gm : List Gr} {LI LO LF LC : List Int} {b2 : Nat} {ch : Chunk} (h : MI2 k K G T L J E Y i o f c x r kv Gm LI LO LF LC) (hY : IsY b2 K G T L E x kv Gm LI LO LF LC ch) : Spec Tryd.prog 19 [.ptr b2] [ch] (fun y cs => ∃ ch', IsY b2 K G T L [] x kv Gm LI LO LF LC ch' ∧ y = .ints E ∧ cs = [ch']) := by
 obtain ⟨bj, bs, aT, aS, aE, aI, aO, aF, aC, nT, nS, nE, nI, nO, nF, nC, cT, cS, cE, cI, cO, cF, cC, l, ⟨hnT, hnS, hnE, hnI, hnO, hnF, hnC⟩, hp, rfl⟩ := hY
 refine (Spec.bunF (Spec.nilI (backR_fn (b := b2) (bj := bj) (bs := bs) (aT := aT) (aS := aS) (aE := aE) (aI := aI) (aO := aO) (aF := aF) (aC := aC) (nT := nT) (cT := cT) (nS := nS) (cS := cS) (nE := nE) (cE := cE) (nI := nI) (cI := cI) (nO := nO) (cO := cO) (nF := nF) (cF := cF) (nC := nC) (cC := cC) (K := K) (G := G) (x := x) E hnE)) (hp.trans (Perm.cons' goPk (Perm.cons' goPk (List.Perm.refl _))))).mono ?_
 rintro y cs ⟨c2, ⟨c3, ⟨rfl, rfl⟩, rfl⟩, rfl⟩
 refine ⟨_, ⟨bj, bs, aT, aS, none, aI, aO, aF, aC, _, _, 0, _, _, _, _, cT, cS, 0, cI, cO, cF, cC, _, ⟨hnT, hnS, rfl, hnI, hnO, hnF, hnC⟩, ?_, rfl⟩, rfl, rfl⟩
 exact (Perm.cons' goPk (Perm.cons' goPk (Perm.cons' goPk (Perm.cons' goPk (Perm.cons' goPk (Perm.cons' goPk (Perm.cons' goPk (Perm.cons' goPk (Perm.cons' goPk (Perm.cons' goPk (Perm.cons' goPk (List.Perm.refl _))))))))))))
/-- Press of both machines -/
theorem press_both {k : Nat} {K : List Int} {G : Int} {T : List Tube} {L : List SlotM} {J : List Bool} {E : List Int} {Y : List Tally} {i o f c x r : Int} {kv : KB} {Gm : List Gr} {LI LO LF LC : List Int} {b b2 : Nat} {ch ch2 : Chunk} (h : MI2 k K G T L J E Y i o f c x r kv Gm LI LO LF LC) (hk1 : k ≤ 99) (hX : IsX b K G T L J E Y i o f c x r ch) (hY : IsY b2 K G T L E x kv Gm LI LO LF LC ch2) (key : ByteArray) :
  ∃ (pr : ByteArray) (pc : Int) (co : List Int) (e : Int) (T' : List Tube) (L' : List SlotM) (E' : List Int) (Y' : List Tally) (i' o' x' r' : Int) (LI' LO' : List Int), co.length ≤ 1000 ∧
   Spec Tryd.prog 15 [.ptr b, .str key] [ch] (fun y cs => ∃ ch', IsX b K G T' L' J E' Y' i' o' f c x' r' ch' ∧ y = .tup [.agg [.str pr, .int pc, .ints co], .int e] ∧ cs = [ch']) ∧
   Spec Tryd.prog 16 [.ptr b2, .str key] [ch2] (fun y cs => ∃ ch' Gm', IsY b2 K G T' L' E' x' kv Gm' LI' LO' LF LC ch' ∧ MI2 (k + 1) K G T' L' J E' Y' i' o' f c x' r' kv Gm' LI' LO' LF LC ∧ y = .tup [.agg [.str pr, .int pc, .ints co], .int e] ∧ cs = [ch']) := by
 obtain ⟨aT, aS, aJ, aE, aY, nT, nS, nJ, nE, nY, cT, cS, cJ, cE, cY, l, ⟨hnT, hnS, hnJ, hnE, hnY⟩, hp, rfl⟩ := hX
 have hEl := h.pe.1; have hE2 := h.pe.2.1; have hE3 := h.pe.2.2; have hLl := h.pl.1; have hLb := h.pl.2; have hTl := h.pt.len; have hTc := h.pt.cnt; have hrr := h.pr; have hii := h.pi; have hoo := h.po; have hff := h.pf; have hcc := h.pc; have hxx := h.px; have hgg := h.pg; have hs0 := (sumId_bd fun v hv => (show 0 ≤ v ∧ v ≤ 1000000000000 by have := hE2 v hv; omega : 0 ≤ v ∧ v ≤ 1000000000000)).1; have hi0 := sum_ge hii.2.1; have ho0 := sum_ge hoo.2.1; have hf0 := sum_ge hff.2.1; have hc0 := sum_ge hcc.2
 have hLx : ∀ s ∈ L, 1 ≤ s.price ∧ s.price ≤ 20000 ∧ 0 ≤ s.cnt ∧ s.cnt ≤ 1000 := fun s hs => by have := hLb s hs; omega
 have hYl : Y.length = L.length := by rw [h.py]; unfold audY; rw [List.length_map]
 by_cases hbad : prsE L J (slotN L key) T E r = 0
 rotate_left
 ·refine ⟨ByteArray.empty, 0, [], prsE L J (slotN L key) T E r, T, L, E, Y, i, o, x, r, LI, LO, by simp, ?_, ?_⟩
  ·refine (Spec.bunF (press_bad (b := b) (aT := aT) (nT := nT) (cT := cT) (K := K) (aS := aS) (nS := nS) (cS := cS) (H := G) (aJ := aJ) (nJ := nJ) (cJ := cJ) (aE := aE) (nE := nE) (cE := cE) (aY := aY) (nY := nY) (cY := cY) (i := i) (o := o) (f := f) (c := c) (x := x) (r := r) T L J E key h.pt hnT hnS hnJ hnE (by omega) h.pj (by omega) hE2 (fun s hs => by have := hLb s hs; omega) (by omega) hbad) (hp.trans (Perm.cons' goPk (Perm.cons' goPk (Perm.cons' goPk (Perm.cons' goPk (Perm.cons' goPk (List.Perm.refl _)))))))).mono ?_
   rintro y cs ⟨c2, ⟨rfl, rfl⟩, rfl⟩
   refine ⟨_, ⟨aT, aS, aJ, aE, aY, _, _, _, _, _, cT, cS, cJ, cE, cY, _, ⟨hnT, hnS, hnJ, hnE, hnY⟩, ?_, rfl⟩, rfl, rfl⟩
   exact (Perm.cons' goPk (Perm.cons' goPk (Perm.cons' goPk (Perm.cons' goPk (Perm.cons' goPk (Perm.cons' goPk (List.Perm.refl _)))))))
  ·clear hp hnT hnS hnJ hnE hnY
   obtain ⟨bj, bs, aT, aS, aE, aI, aO, aF, aC, nT, nS, nE, nI, nO, nF, nC, cT, cS, cE, cI, cO, cF, cC, l, ⟨hnT, hnS, hnE, hnI, hnO, hnF, hnC⟩, hp, rfl⟩ := hY
   rw [hrr] at hbad
   refine (Spec.bunF (pressR_bad (b := b2) (bj := bj) (bs := bs) (aT := aT) (aS := aS) (aE := aE) (aI := aI) (aO := aO) (aF := aF) (aC := aC) (nT := nT) (cT := cT) (nS := nS) (cS := cS) (nE := nE) (cE := cE) (nI := nI) (cI := cI) (nO := nO) (cO := cO) (nF := nF) (cF := cF) (nC := nC) (cC := cC) (K := K) (G := G) (x := x) T L J E kv key h.pt hnT hnS hnE (by omega) (by omega) hE2 hLx (by omega) (by omega) h.jm hbad) (hp.trans (Perm.cons' goPk (Perm.cons' goPk (Perm.cons' goPk (Perm.cons' goPk (Perm.cons' goPk (List.Perm.refl _)))))))).mono ?_
   rintro y cs ⟨c2, ⟨rfl, rfl⟩, rfl⟩
   refine ⟨_, Gm, ⟨bj, bs, aT, aS, aE, aI, aO, aF, aC, _, _, _, _, _, _, _, cT, cS, cE, cI, cO, cF, cC, _, ⟨hnT, hnS, hnE, hnI, hnO, hnF, hnC⟩, ?_, rfl⟩, h.next (by omega), by rw [hrr], rfl⟩
   exact (Perm.cons' goPk (Perm.cons' goPk (Perm.cons' goPk (Perm.cons' goPk (Perm.cons' goPk (Perm.cons' goPk (Perm.cons' goPk (Perm.cons' goPk (Perm.cons' goPk (Perm.cons' goPk (Perm.cons' goPk (List.Perm.refl _))))))))))))
 cases hq : slotN L key with
 |none => rw [hq] at hbad; unfold prsE at hbad; simp at hbad
 |some q =>
  rw [hq] at hbad
  obtain ⟨d, hd, _, hql⟩ := findN_some (p := slotP key) hq
  obtain ⟨y, hy⟩ := at_lt (l := Y) (k := q) (by omega)
  have hyb : 0 ≤ y.many ∧ y.many ≤ 1000000000000 ∧ 0 ≤ y.val ∧ y.val ≤ 1000000000000 := by
   have e : y = ⟨d.key, (gval d.key Gm).length, sumF id (gval d.key Gm)⟩ := by
    rw [h.py] at hy
    unfold audY at hy
    rw [List.getElem?_map, hd] at hy
    exact (Option.some.inj hy).symm
   have h1 := h.gm d.key
   have h2 := sum_ge h1.1
   have h3 := h1.1.1
   have h4 := h1.2
   rw [e]
   exact ⟨by show (0 : Int) ≤ ((gval d.key Gm).length : Int); omega, by show ((gval d.key Gm).length : Int) ≤ _; omega, h2, by show sumF id (gval d.key Gm) ≤ _; omega⟩
  have hcl : (coinsL (tknT T E) (r - d.price).toNat).length ≤ 1000 := by
   have h1 : (tknT T E).length = T.length := by
    have hAl : (tknA T E).1.length = T.length := by unfold tknA; rw [cntA_len, List.length_replicate]
    with_unfolding_all unfold tknT
    exact stlT_len _ _ hAl
   rw [coinsL_len, h1]
   omega
  refine ⟨d.prod, d.price, coinsL (tknT T E) (r - d.price).toNat, 0, subT (tknT T E) (coinsL (tknT T E) (r - d.price).toNat), L.set q { d with cnt := d.cnt - 1 }, [], Y.set q { y with many := y.many + 1, val := y.val + d.price }, i + r, o + (r - d.price), x + tknR T E, 0, LI ++ [r], LO ++ [r - d.price], hcl, ?_, ?_⟩
  ·refine (Spec.bunF (Spec.nilI (press_ok (b := b) (aT := aT) (nT := nT) (cT := cT) (K := K) (aS := aS) (nS := nS) (cS := cS) (H := G) (aJ := aJ) (nJ := nJ) (cJ := cJ) (aE := aE) (nE := nE) (cE := cE) (aY := aY) (nY := nY) (cY := cY) (i := i) (o := o) (f := f) (c := c) (x := x) (r := r) T L J E Y key q d y h.pt hnT hnS hnJ hnE hnY (by omega) h.pj hYl (by omega) hE2 hLx (by omega) (by omega) (by omega) (by omega) hq hd hy hyb hbad)) (hp.trans (List.Perm.refl _))).mono ?_
   rintro y cs ⟨c2, ⟨c3, ⟨rfl, aT', cT', rfl⟩, rfl⟩, rfl⟩
   refine ⟨_, ⟨aT', aS, aJ, none, aY, _, _, _, 0, _, cT', cS, cJ, 0, cY, _, ⟨(subT_len _).symm, hnS.trans List.length_set.symm, hnJ, rfl, hnY.trans List.length_set.symm⟩, ?_, rfl⟩, rfl, rfl⟩
   exact (Perm.cons' goPk (Perm.cons' goPk (Perm.cons' goPk (Perm.cons' goPk (Perm.cons' goPk (Perm.cons' goPk (List.Perm.refl _)))))))
  ·clear hp hnT hnS hnJ hnE hnY
   obtain ⟨bj, bs, aT, aS, aE, aI, aO, aF, aC, nT, nS, nE, nI, nO, nF, nC, cT, cS, cE, cI, cO, cF, cC, l, ⟨hnT, hnS, hnE, hnI, hnO, hnF, hnC⟩, hp, rfl⟩ := hY
   have hb2 : prsE L J (some q) T E (sumF id E) = 0 := by rw [← hrr]; exact hbad
   have hgl := (h.gm key).1.1
   have kk := pressR_ok (b := b2) (bj := bj) (bs := bs) (aT := aT) (aS := aS) (aE := aE) (aI := aI) (aO := aO) (aF := aF) (aC := aC) (nT := nT) (cT := cT) (nS := nS) (cS := cS) (nE := nE) (cE := cE) (nI := nI) (cI := cI) (nO := nO) (cO := cO) (nF := nF) (cF := cF) (nC := nC) (cC := cC) (K := K) (G := G) (x := x) T L J E kv key h.pt hnT hnS hnE (by omega) (by omega) hE2 hLx (by omega) (by omega) h.jm Gm LI LO q d hnI hnO (by have := hii.2.1.1; omega) (by have := hoo.2.1.1; omega) (by omega) hq hd hb2
   rw [← hrr] at kk
   refine (Spec.bunF (Spec.nilI kk) (hp.trans (Perm.cons' goPk (Perm.cons' goPk (Perm.cons' goPk (Perm.cons' goPk (Perm.cons' goPk (Perm.cons' goPk (Perm.cons' goPk (Perm.cons' goPk (Perm.cons' goPk (List.Perm.refl _)))))))))))).mono ?_
   rintro z cs ⟨c2, ⟨c3, ⟨rfl, aT', aI', aO', cT', cI', cO', G2, ⟨hg1, hg2⟩, rfl⟩, rfl⟩, rfl⟩
   refine ⟨_, G2, ⟨bj, bs, aT', aS, none, aI', aO', aF, aC, _, _, 0, _, _, _, _, cT', cS, 0, cI', cO', cF, cC, _, ⟨(subT_len _).symm, hnS.trans List.length_set.symm, rfl, (show LI.length + 1 = (LI ++ [r]).length by simp), (show LO.length + 1 = (LO ++ [r - d.price]).length by simp), hnF, hnC⟩, ?_, rfl⟩, h.press (by omega) hq hd hy hbad hg1 hg2, rfl, rfl⟩
   exact (Perm.cons' goPk (Perm.cons' goPk (Perm.cons' goPk (Perm.cons' goPk (Perm.cons' goPk (Perm.cons' goPk (Perm.cons' goPk (Perm.cons' goPk (Perm.cons' goPk (Perm.cons' goPk (Perm.cons' goPk (List.Perm.refl _))))))))))))
end Lg
end
section
set_option linter.all false
set_option maxRecDepth 100000
set_option maxHeartbeats 8000000
namespace Lg
open Go Go.Proofs

/-! ### each method of the two machines, called on both -/
attribute [local irreducible] intRows tknT tknR coinsL subT
def StM (b1 b2 k : Nat) (c1 c2 : Chunk) : Prop := ∃ (K : List Int) (G : Int) (T : List Tube) (L : List SlotM) (J : List Bool) (E : List Int) (Y : List Tally) (i o f c x r : Int) (kv : KB) (Gm : List Gr) (LI LO LF LC : List Int), IsX b1 K G T L J E Y i o f c x r c1 ∧ IsY b2 K G T L E x kv Gm LI LO LF LC c2 ∧ MI2 k K G T L J E Y i o f c x r kv Gm LI LO LF LC
def BothM (b1 b2 k : Nat) (ch1 ch2 : Chunk) (f g : FuncId) (args : List Tr) (res : Tr) : Prop := ∃ PX PY : Chunk → Prop, (∀ c1 c2, PX c1 → PY c2 → StM b1 b2 k c1 c2) ∧ Spec Tryd.prog f (.ptr b1 :: args) [ch1] (fun y cs => ∃ c, PX c ∧ y = res ∧ cs = [c]) ∧ Spec Tryd.prog g (.ptr b2 :: args) [ch2] (fun y cs => ∃ c, PY c ∧ y = res ∧ cs = [c])
section
variable {b1 b2 k : Nat} {c1 c2 : Chunk}
theorem bothIns (h : StM b1 b2 k c1 c2) (hk : k ≤ 99) (v : Int) (hv : 0 ≤ v ∧ v ≤ 1000000) : ∃ e, BothM b1 b2 (k + 1) c1 c2 13 14 [.int v] (.int e) := by
 obtain ⟨K, G, T, L, J, E, Y, i, o, f, c, x, r, kv, Gm, LI, LO, LF, LC, hX, hY, h⟩ := h
 obtain rfl := h.pr
 exact ⟨_, _, _, fun c1 c2 h1 h2 => ⟨_, _, _, _, _, _, _, _, _, _, _, _, _, _, _, _, _, _, _, h1, h2, h.ins v⟩, insX h (by omega) hX v hv, insY h (by omega) hY v hv⟩
theorem bothJam (h : StM b1 b2 k c1 c2) (hk : k ≤ 99) (key : ByteArray) : ∃ e, BothM b1 b2 (k + 1) c1 c2 21 22 [.str key] (.int e) := by
 obtain ⟨K, G, T, L, J, E, Y, i, o, f, c, x, r, kv, Gm, LI, LO, LF, LC, hX, hY, h⟩ := h
 refine ⟨_, _, fun ch => ∃ kv', JM kv' L (jamL (slotN L key) J true) ∧ IsY b2 K G T L E x kv' Gm LI LO LF LC ch, ?_, jamX h (by omega) hX key, (jamY h (by omega) hY key).mono ?_⟩
 ·rintro c1 c2 h1 ⟨kv', hj, h2⟩
  exact ⟨_, _, _, _, _, _, _, _, _, _, _, _, _, _, _, _, _, _, _, h1, h2, h.jam _ _ hj⟩
 ·rintro y cs ⟨kv', ch', hj, h2, e1, e2⟩
  exact ⟨ch', ⟨kv', hj, h2⟩, e1, e2⟩
theorem bothFree (h : StM b1 b2 k c1 c2) (hk : k ≤ 99) (key : ByteArray) : ∃ e, BothM b1 b2 (k + 1) c1 c2 23 24 [.str key] (.int e) := by
 obtain ⟨K, G, T, L, J, E, Y, i, o, f, c, x, r, kv, Gm, LI, LO, LF, LC, hX, hY, h⟩ := h
 refine ⟨_, _, fun ch => ∃ kv', JM kv' L (jamL (slotN L key) J false) ∧ IsY b2 K G T L E x kv' Gm LI LO LF LC ch, ?_, freeX h (by omega) hX key, (freeY h (by omega) hY key).mono ?_⟩
 ·rintro c1 c2 h1 ⟨kv', hj, h2⟩
  exact ⟨_, _, _, _, _, _, _, _, _, _, _, _, _, _, _, _, _, _, _, h1, h2, h.jam _ _ hj⟩
 ·rintro y cs ⟨kv', ch', hj, h2, e1, e2⟩
  exact ⟨ch', ⟨kv', hj, h2⟩, e1, e2⟩
theorem bothLoad (h : StM b1 b2 k c1 c2) (hk : k ≤ 99) (key : ByteArray) (m : Int) (hm : -9223372036854775808 ≤ m ∧ m ≤ 9223372036854775807) : ∃ e, BothM b1 b2 (k + 1) c1 c2 25 26 [.str key, .int m] (.int e) := by
 obtain ⟨K, G, T, L, J, E, Y, i, o, f, c, x, r, kv, Gm, LI, LO, LF, LC, hX, hY, h⟩ := h
 exact ⟨_, _, _, fun c1 c2 h1 h2 => ⟨_, _, _, _, _, _, _, _, _, _, _, _, _, _, _, _, _, _, _, h1, h2, h.load key m⟩, loadX h (by omega) hX key m hm, loadY h (by omega) hY key m hm⟩
theorem bothPrice (h : StM b1 b2 k c1 c2) (hk : k ≤ 99) (key : ByteArray) (m : Int) : ∃ e, BothM b1 b2 (k + 1) c1 c2 29 30 [.str key, .int m] (.int e) := by
 obtain ⟨K, G, T, L, J, E, Y, i, o, f, c, x, r, kv, Gm, LI, LO, LF, LC, hX, hY, h⟩ := h
 exact ⟨_, _, _, fun c1 c2 h1 h2 => ⟨_, _, _, _, _, _, _, _, _, _, _, _, _, _, _, _, _, _, _, h1, h2, h.price key m⟩, priceX h (by omega) hX key m, priceY h (by omega) hY key m⟩
theorem bothFill (h : StM b1 b2 k c1 c2) (hk : k ≤ 99) (v m : Int) (hv : 0 ≤ v ∧ v ≤ 10000) (hm : -9223372036854775808 ≤ m ∧ m ≤ 9223372036854775807) : ∃ e, BothM b1 b2 (k + 1) c1 c2 27 28 [.int v, .int m] (.int e) := by
 obtain ⟨K, G, T, L, J, E, Y, i, o, f, c, x, r, kv, Gm, LI, LO, LF, LC, hX, hY, h⟩ := h
 refine ⟨_, _, fun ch => ∃ LF', (LF' = if filO T (tubeN T v) m = 0 then LF ++ [v * m] else LF) ∧ IsY b2 K G (filL T (tubeN T v) m) L E x kv Gm LI LO LF' LC ch, ?_, fillX h (by omega) hX v m hv hm, (fillY h (by omega) hY v m hv hm).mono ?_⟩
 ·rintro c1 c2 h1 ⟨LF', hj, h2⟩
  exact ⟨_, _, _, _, _, _, _, _, _, _, _, _, _, _, _, _, _, _, _, h1, h2, h.fill v m hv hj⟩
 ·rintro y cs ⟨LF', ch', hj, h2, e1, e2⟩
  exact ⟨ch', ⟨LF', hj, h2⟩, e1, e2⟩
theorem bothCollect (h : StM b1 b2 k c1 c2) (hk : k ≤ 99) : ∃ e, BothM b1 b2 (k + 1) c1 c2 31 32 [] (.int e) := by
 obtain ⟨K, G, T, L, J, E, Y, i, o, f, c, x, r, kv, Gm, LI, LO, LF, LC, hX, hY, h⟩ := h
 exact ⟨_, _, _, fun c1 c2 h1 h2 => ⟨_, _, _, _, _, _, _, _, _, _, _, _, _, _, _, _, _, _, _, h1, h2, h.collect (by omega)⟩, collectX h (by omega) hX, collectY h (by omega) hY⟩
theorem bothBack (h : StM b1 b2 k c1 c2) (hk : k ≤ 99) : ∃ E : List Int, E.length ≤ 1000 ∧ BothM b1 b2 (k + 1) c1 c2 18 19 [] (.ints E) := by
 obtain ⟨K, G, T, L, J, E, Y, i, o, f, c, x, r, kv, Gm, LI, LO, LF, LC, hX, hY, h⟩ := h
 exact ⟨E, by have := h.pe.1; omega, _, _, fun c1 c2 h1 h2 => ⟨_, _, _, _, _, _, _, _, _, _, _, _, _, _, _, _, _, _, _, h1, h2, h.back⟩, backX h hX, backY h hY⟩
theorem bothPress (h : StM b1 b2 k c1 c2) (hk : k ≤ 99) (key : ByteArray) : ∃ (pr : ByteArray) (pc : Int) (co : List Int) (e : Int), co.length ≤ 1000 ∧ BothM b1 b2 (k + 1) c1 c2 15 16 [.str key] (.tup [.agg [.str pr, .int pc, .ints co], .int e]) := by
 obtain ⟨K, G, T, L, J, E, Y, i, o, f, c, x, r, kv, Gm, LI, LO, LF, LC, hX, hY, h⟩ := h
 obtain ⟨pr, pc, co, e, T', L', E', Y', i', o', x', r', LI', LO', hco, kX, kY⟩ := press_both h hk hX hY key
 refine ⟨pr, pc, co, e, hco, _, fun ch => ∃ Gm', IsY b2 K G T' L' E' x' kv Gm' LI' LO' LF LC ch ∧ MI2 (k + 1) K G T' L' J E' Y' i' o' f c x' r' kv Gm' LI' LO' LF LC, ?_, kX, kY.mono ?_⟩
 ·rintro c1 c2 h1 ⟨Gm', h2, h3⟩
  exact ⟨_, _, _, _, _, _, _, _, _, _, _, _, _, _, _, _, _, _, _, h1, h2, h3⟩
 ·rintro y cs ⟨ch', Gm', h1, h2, e1, e2⟩
  exact ⟨ch', ⟨Gm', h1, h2⟩, e1, e2⟩
theorem bothAudit (h : StM b1 b2 k c1 c2) (hk : k ≤ 100) : ∃ (Y : List Tally) (T : List Tube) (i o f c x r : Int), Y.length ≤ 1000 ∧ T.length ≤ 1000 ∧ BothM b1 b2 k c1 c2 34 35 [] (.agg [.sl 3 (Y.map Tally.row), .int i, .int o, .int f, .int c, .int x, .int r, .tubes T]) := by
 obtain ⟨K, G, T, L, J, E, Y, i, o, f, c, x, r, kv, Gm, LI, LO, LF, LC, hX, hY, h⟩ := h
 have kX := auditX h hk hX
 have kY := auditY h hk hY
 rw [← h.py, ← h.pi.1, ← h.po.1, ← h.pf.1, ← h.pc.1, ← h.pr] at kY
 exact ⟨Y, T, i, o, f, c, x, r, by rw [h.py]; unfold audY; rw [List.length_map]; have := h.pl.1; omega, by have := h.pt.len; omega, _, _, fun c1 c2 h1 h2 => ⟨_, _, _, _, _, _, _, _, _, _, _, _, _, _, _, _, _, _, _, h1, h2, h⟩, kX, kY⟩
end
theorem StM.start {b1 b2 : Nat} {T : List Tube} {K : List Int} {L : List SlotM} {G : Int} {c1 c2 : Chunk} (h : cfgE T K L G = 0) (hX : IsX b1 K G T L (List.replicate L.length false) [] (newY L) 0 0 0 0 0 0 c1) (hY : IsY b2 K G T L [] 0 [] [] [] [] [] [] c2) : StM b1 b2 0 c1 c2 := ⟨_, _, _, _, _, _, _, _, _, _, _, _, _, _, _, _, _, _, _, hX, hY, MI2.start h⟩
end Lg
end
section
set_option linter.all false
set_option maxRecDepth 100000
set_option maxHeartbeats 4000000
namespace Lg
open Go Go.Proofs

def totalI : List Tube → Int
 |[] => 0
 |d :: l => d.val * d.cnt + totalI l
theorem totalI_cons (d : Tube) (l : List Tube) : totalI (d :: l) = d.val * d.cnt + totalI l := rfl
theorem mul_bdV {a b A B : Int} (ha : 0 ≤ a ∧ a ≤ A) (hb : 0 ≤ b ∧ b ≤ B) : 0 ≤ a * b ∧ a * b ≤ A * B :=
 ⟨Int.mul_nonneg ha.1 hb.1, Int.mul_le_mul ha.2 hb.2 hb.1 (by omega)⟩
theorem total_fn (l : List Tube) (ho : TbOk l) : PFn Tryd.prog 68 [.tubes l] (· = .int (totalI l)) := by
 refine PFn.mk (Spec.body Tryd.func68 rfl rfl (Tryd.ntmps68) rfl fun w0 own0 M => ?_)
 have hL : (l.map Tube.row).length = l.length := List.length_map _
 have hlen := ho.len
 repeat' (first | refine goH ?_ | refine goV ?_ | refine goB (fun b => ?_) | refine goC (fun ad cap => ?_) | refine goG ?_ | (refine Ops.k_guard ?_; first | (refine Ops.guard_dec rfl rfl ?_ ?_ <;> intro hc <;> try omega) | refine Ops.guard_split rfl rfl ?_ ?_ <;> intro hc) | refine goI ?_ | (refine Cw.k_cond ?_; first | (refine Cw.cond_dec rfl ?_ ?_ <;> intro hc <;> try omega) | refine Cw.cond_bool rfl ?_ ?_ <;> intro hc) | refine goR ?_ | refine goP ?_ | apply PSeq.cons | apply PSeq.yes rfl rfl rfl | exact goW | fail)
 refine Cw.loop (ι := Nat × Int) (fun s => s.1 ≤ l.length ∧ s.2 + totalI (l.drop s.1) = totalI l ∧ 0 ≤ s.2 ∧ s.2 ≤ 10000000 * s.1)
  (fun s => [(3, .int s.2), (6, .tubes l), (7, .int (l.map Tube.row).length), (8, .int s.1)]) (fun _ => []) (fun s => l.length - s.1) ⟨(0, 0), ⟨by simp only; omega, by simp only [List.drop_zero]; omega, by simp only; omega, by simp only; omega⟩, (Ent.mk goSub goTk)⟩ ?_
 rintro ⟨k, S⟩ ⟨hk, h1, h2, h3⟩
 simp only at hk h1 h2 h3 ⊢
 by_cases hkl : k < l.length
 ·obtain ⟨d, hd⟩ := at_lt hkl
  have hrow : (l.map Tube.row)[k]? = some [Tr.int d.val, Tr.int d.cnt, Tr.int d.most] := rows_at hd
  have hv := ho.val d (List.mem_of_getElem? hd)
  have hc := ho.cnt d (List.mem_of_getElem? hd)
  have hm := mul_bdV (a := d.val) (b := d.cnt) (A := 10000) (B := 1000) (by omega) (by omega)
  have hm2 : -9223372036854775808 ≤ d.val * d.cnt ∧ d.val * d.cnt ≤ 9223372036854775807 := by omega
  rw [drop_at hd, totalI_cons] at h1
  repeat' (first | refine goH ?_ | refine goV ?_ | refine goB (fun b => ?_) | refine goC (fun ad cap => ?_) | refine goG ?_ | (refine Ops.k_guard ?_; first | (refine Ops.guard_dec rfl rfl ?_ ?_ <;> intro hc <;> try omega) | refine Ops.guard_split rfl rfl ?_ ?_ <;> intro hc) | refine goI ?_ | (refine Cw.k_cond ?_; first | (refine Cw.cond_dec rfl ?_ ?_ <;> intro hc <;> try omega) | refine Cw.cond_bool rfl ?_ ?_ <;> intro hc) | refine goR ?_ | refine goP ?_ | apply PSeq.cons | apply PSeq.yes rfl rfl rfl | exact goW | fail)
  exact ⟨(k + 1, S + d.val * d.cnt), ⟨by simp only; omega, by simp only; omega, by simp only; omega, by simp only; omega⟩, by simp only; omega, (Ent.mk goSub goTk)⟩
 ·rw [List.drop_eq_nil_of_le (by omega), totalI] at h1
  repeat' (first | refine goH ?_ | refine goV ?_ | refine goB (fun b => ?_) | refine goC (fun ad cap => ?_) | refine goG ?_ | (refine Ops.k_guard ?_; first | (refine Ops.guard_dec rfl rfl ?_ ?_ <;> intro hc <;> try omega) | refine Ops.guard_split rfl rfl ?_ ?_ <;> intro hc) | refine goI ?_ | (refine Cw.k_cond ?_; first | (refine Cw.cond_dec rfl ?_ ?_ <;> intro hc <;> try omega) | refine Cw.cond_bool rfl ?_ ?_ <;> intro hc) | refine goR ?_ | refine goP ?_ | apply PSeq.cons | apply PSeq.yes rfl rfl rfl | exact goW | fail)
  exact Fin.ret Ent.refl (Outs.one rfl rfl) ⟨rfl, congrArg Tr.int (by omega)⟩

def total1 (l : List Tube) : Int × Int := if tubesErr l ≠ 0 then (0, tubesErr l) else (totalI l, 0)
theorem totalX_fn (l : List Tube) : PFn Tryd.prog 49 [.tubes l] (· = .tup [.int (total1 l).1, .int (total1 l).2]) := by
 have hck := checkTubes_fn l
 refine PFn.mk (Spec.body Tryd.func49 rfl rfl (Tryd.ntmps49) rfl fun w0 own0 M => ?_)
 by_cases h0 : tubesErr l ≠ 0
 ·rw [show total1 l = (0, tubesErr l) by unfold total1; rw [if_pos h0]]
  repeat' (first | refine goH ?_ | refine goV ?_ | refine goB (fun b => ?_) | refine goC (fun ad cap => ?_) | refine goG ?_ | (refine Ops.k_guard ?_; first | (refine Ops.guard_dec rfl rfl ?_ ?_ <;> intro hc <;> try omega) | refine Ops.guard_split rfl rfl ?_ ?_ <;> intro hc) | refine goI ?_ | (refine Cw.k_cond ?_; first | (refine Cw.cond_dec rfl ?_ ?_ <;> intro hc <;> try omega) | refine Cw.cond_bool rfl ?_ ?_ <;> intro hc) | (refine Ops.k_calla ?_; first | (refine Ops.k_callf 44 ?_; refine Ops.callV hck (Evs.cons rfl Evs.nil) rfl ?_)) | (apply OpW.k_call; first | (apply OpW.k_callf 44; exact OpW.callV hck (Evs.cons rfl Evs.nil))) | refine goR ?_ | refine goP ?_ | apply PSeq.cons | apply PSeq.yes rfl rfl rfl | exact goW | fail)
  exact Fin.ret (Ent.take goTk) (Outs.two rfl rfl rfl) ⟨rfl, rfl⟩
 replace h0 : tubesErr l = 0 := by omega
 have ht := total_fn l (tubesErr_ok h0)
 rw [show total1 l = (totalI l, 0) by unfold total1; rw [if_neg (by omega)]]
 rw [h0] at hck
 repeat' (first | refine goH ?_ | refine goV ?_ | refine goB (fun b => ?_) | refine goC (fun ad cap => ?_) | refine goG ?_ | (refine Ops.k_guard ?_; first | (refine Ops.guard_dec rfl rfl ?_ ?_ <;> intro hc <;> try omega) | refine Ops.guard_split rfl rfl ?_ ?_ <;> intro hc) | refine goI ?_ | (refine Cw.k_cond ?_; first | (refine Cw.cond_dec rfl ?_ ?_ <;> intro hc <;> try omega) | refine Cw.cond_bool rfl ?_ ?_ <;> intro hc) | (refine Ops.k_calla ?_; first | (refine Ops.k_callf 44 ?_; refine Ops.callV hck (Evs.cons rfl Evs.nil) rfl ?_) | (refine Ops.k_callf 68 ?_; refine Ops.callV ht (Evs.cons rfl Evs.nil) rfl ?_)) | (apply OpW.k_call; first | (apply OpW.k_callf 44; exact OpW.callV hck (Evs.cons rfl Evs.nil)) | (apply OpW.k_callf 68; exact OpW.callV ht (Evs.cons rfl Evs.nil))) | refine goR ?_ | refine goP ?_ | apply PSeq.cons | apply PSeq.yes rfl rfl rfl | exact goW | fail)
 exact Fin.ret (Ent.take goTk) (Outs.two rfl rfl rfl) ⟨rfl, rfl⟩

theorem vends_fn : PFn Tryd.prog 8 [] (· = .bool true) := by
 have h := totalX_fn [⟨10, 3, 5⟩]
 have e : total1 [⟨10, 3, 5⟩] = (30, 0) := by rfl
 rw [e] at h
 refine PFn.mk (Spec.body Tryd.func8 rfl rfl (Tryd.ntmps8) rfl fun w0 own0 M => ?_)
 repeat' (first | refine goH ?_ | refine goV ?_ | refine goB (fun b => ?_) | refine goC (fun ad cap => ?_) | refine goG ?_ | (refine Ops.k_guard ?_; first | (refine Ops.guard_dec rfl rfl ?_ ?_ <;> intro hc <;> try omega) | refine Ops.guard_split rfl rfl ?_ ?_ <;> intro hc) | refine goI ?_ | (refine Cw.k_cond ?_; first | (refine Cw.cond_dec rfl ?_ ?_ <;> intro hc <;> try omega) | refine Cw.cond_bool rfl ?_ ?_ <;> intro hc) | (refine Ops.k_calla ?_; first | (refine Ops.k_callf 49 ?_; refine Ops.callV h (Evs.cons rfl Evs.nil) rfl ?_)) | (apply OpW.k_call; first | (apply OpW.k_callf 49; exact OpW.callV h (Evs.cons rfl Evs.nil))) | refine goR ?_ | refine goP ?_ | apply PSeq.cons | apply PSeq.yes rfl rfl rfl | exact goW | fail)
 all_goals exact Fin.ret (Ent.take goTk) (Outs.one rfl rfl) ⟨rfl, rfl⟩

end Lg
end
