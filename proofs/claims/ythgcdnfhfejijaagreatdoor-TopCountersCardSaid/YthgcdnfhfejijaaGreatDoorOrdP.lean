/- A part of the proof of a law of this seat: it adds no condition. By an AI agent. -/
import Derived.Test.YthgcdnfhfejijaaGreatDoorMs6
section
set_option linter.all false
set_option maxRecDepth 100000
set_option maxHeartbeats 8000000
namespace Lg
open Go Go.Proofs

/-! ### the program's machine alone -/
theorem Spec.bunF {P : Program} {f : FuncId} {args : List Tr} {cin L F : List Chunk} {post : Tr → List Chunk → Prop} (h : Spec P f args cin post) (hp : L.Perm (cin ++ F)) : Spec P f args [Chunk.bun L] (fun r cs => ∃ c2, post r c2 ∧ cs = [Chunk.bun (c2 ++ F)]) := by
 have k := h.frame F
 unfold Spec at k ⊢
 have hb : ∀ X : List Chunk, fps [Chunk.bun X] = fps X := fun X => by rw [fps_bun, List.append_nil]
 have hfp : (fps L).Perm (fps (cin ++ F)) := hp.flatMap_right _
 have hav : ∀ M, av M (cin ++ F) = av M [Chunk.bun L] := fun M => by
  funext b
  simp only [av, hb]
  rw [hfp.mem_iff]
 have hav2 : ∀ M (X : List Chunk), av M [Chunk.bun X] = av M X := fun M X => by
  funext b
  simp only [av, hb]
 refine ⟨k.1, fun M w vs hv hch hnd hlt hM => ?_⟩
 rw [← hav] at hv
 rw [hb] at hnd
 have hch2 : ∀ c ∈ cin ++ F, c.holds w (av M (cin ++ F)) := fun c hc => by
  have h1 := hch (Chunk.bun L) (by simp)
  rw [← hav] at h1
  unfold Chunk.bun at h1
  exact h1 c (hp.mem_iff.2 hc)
 have hr := k.2 M w vs hv hch2 (hfp.nodup_iff.1 hnd) (fun b hb' => hlt b (by rw [hb]; exact hfp.mem_iff.2 hb')) hM
 refine hr.mono ?_
 rintro e w' ⟨v, r, cs', he, ⟨c2, hpost, rfl⟩, hrd, hcs, hnd2, hfr, hF⟩
 refine ⟨v, r, _, he, ⟨c2, hpost, rfl⟩, ?_, ?_, ?_, ?_, ?_⟩
 ·rw [hav2]; exact hrd
 ·intro c hc
  rw [List.mem_singleton.1 hc, hav2]
  unfold Chunk.bun
  intro y hy
  exact hcs y hy
 ·rw [hb]; exact hnd2
 ·intro b hb'
  rw [hb] at hb'
  obtain ⟨h1, h2, h3⟩ := hfr b hb'
  refine ⟨h1, h2, ?_⟩
  rcases h3 with h3 | h3
  ·exact .inl (by rw [hb]; exact hfp.mem_iff.2 h3)
  ·exact .inr h3
 ·have := hF
  rw [hb]
  exact ⟨this.os, this.tape, this.output, this.size, fun b hb' hn => this.block b hb' (fun hm => hn (hfp.mem_iff.2 hm)), this.drawn⟩
theorem Spec.nilc {P : Program} {f : FuncId} {args : List Tr} {cin : List Chunk} {post : Tr → List Chunk → Prop} (h : Spec P f args cin post) (kk : Nat) (e : TypeId) : Spec P f args cin (fun r cs => ∃ c2, post r c2 ∧ cs = Chunk.own none 0 kk e [] :: c2) := by
 have hf : ∀ X : List Chunk, fps (Chunk.own none 0 kk e [] :: X) = fps X := fun X => by simp [fps, Chunk.own, Value.ownBlock]
 have ha : ∀ M (X : List Chunk), av M (Chunk.own none 0 kk e [] :: X) = av M X := fun M X => by funext b; simp [av, hf]
 unfold Spec at h ⊢
 refine ⟨h.1, fun M w vs hv hch hnd hlt hM => ?_⟩
 refine (h.2 M w vs hv hch hnd hlt hM).mono ?_
 rintro z w' ⟨v, r, cs', he, hpost, hrd, hcs, hnd2, hfr, hF⟩
 refine ⟨v, r, _, he, ⟨cs', hpost, rfl⟩, ?_, ?_, ?_, ?_, hF⟩
 ·rw [ha]; exact hrd
 ·intro c hc
  rw [ha]
  rcases List.mem_cons.1 hc with rfl | hc
  ·unfold Chunk.own
   exact ⟨by simp, [], ⟨by simp, .inl ⟨rfl, rfl⟩⟩, rfl⟩
  ·exact hcs c hc
 ·rw [hf]; exact hnd2
 ·rw [hf]; exact hfr
theorem Spec.nilI {f : FuncId} {args : List Tr} {cin : List Chunk} {post : Tr → List Chunk → Prop} (h : Spec Tryz.prog f args cin post) : Spec Tryz.prog f args cin (fun r cs => ∃ c2, post r c2 ∧ cs = ownI none 0 [] :: c2) := Spec.nilc h 1 3
theorem Spec.bun0 {P : Program} {f : FuncId} {args : List Tr} {post : Tr → List Chunk → Prop} (h : Spec P f args [] post) : Spec P f args [] (fun r cs => ∃ c2, post r c2 ∧ cs = [Chunk.bun c2]) := by
 have hb : ∀ X : List Chunk, fps [Chunk.bun X] = fps X := fun X => by rw [fps_bun, List.append_nil]
 have hav2 : ∀ M (X : List Chunk), av M [Chunk.bun X] = av M X := fun M X => by
  funext b
  simp only [av, hb]
 unfold Spec at h ⊢
 refine ⟨h.1, fun M w vs hv hch hnd hlt hM => ?_⟩
 refine (h.2 M w vs hv hch hnd hlt hM).mono ?_
 rintro e w' ⟨v, r, cs', he, hpost, hrd, hcs, hnd2, hfr, hF⟩
 refine ⟨v, r, _, he, ⟨cs', hpost, rfl⟩, ?_, ?_, ?_, ?_, hF⟩
 ·rw [hav2]; exact hrd
 ·intro c hc
  rw [List.mem_singleton.1 hc, hav2]
  unfold Chunk.bun
  intro y hy
  exact hcs y hy
 ·rw [hb]; exact hnd2
 ·rw [hb]; exact hfr
theorem subT_len {T : List Tube} {E : List Int} (a : Nat) : (subT (tknT T E) (coinsL (tknT T E) a)).length = T.length := by
 have h1 : (tknT T E).length = T.length := by
  have hAl : (tknA T E).1.length = T.length := by unfold tknA; rw [cntA_len, List.length_replicate]
  unfold tknT
  exact stlT_len _ _ hAl
 unfold subT
 rw [List.length_zipWith, coinsL_len, h1]
 omega
def IsX (b : Nat) (K : List Int) (G : Int) (T : List Tube) (L : List SlotM) (J : List Bool) (E : List Int) (Y : List Tally) (i o f c x r : Int) (ch : Chunk) : Prop := ∃ (aT aS aJ aE aY : Option Addr) (nT nS nJ nE nY cT cS cJ cE cY : Nat) (l : List Chunk), (nT = T.length ∧ nS = L.length ∧ nJ = J.length ∧ nE = E.length ∧ nY = Y.length) ∧ l.Perm [mX b aT nT cT K aS nS cS G aJ nJ cJ aE nE cE aY nY cY i o f c x r, ownT aT cT T, ownS aS cS L, ownJ aJ cJ J, ownI aE cE E, ownY aY cY Y] ∧ ch = Chunk.bun l
theorem newX (T : List Tube) (K : List Int) (L : List SlotM) (G : Int) (h0 : cfgE T K L G = 0) : Spec Tryz.prog 4 [.cfg T K L G] [] (fun y cs => ∃ (b : Nat) (ch : Chunk), IsX b K G T L (List.replicate L.length false) [] (newY L) 0 0 0 0 0 0 ch ∧ y = .tup [.ptr b, .int 0] ∧ cs = [ch]) := by
 have ho := cfg_ok h0
 have h1 := ho.t.len
 have h2 := ho.k.1
 have h3 := ho.s.1
 have hb := Spec.bun0 (Spec.nilI (new_fn T K L G h0 (by omega) (by omega) (by omega)))
 refine hb.mono ?_
 rintro y cs ⟨c2, ⟨c3, ⟨b, aT, aS, aJ, aY, cT, cS, cJ, cY, rfl, rfl⟩, rfl⟩, rfl⟩
 refine ⟨b, _, ⟨aT, aS, aJ, none, aY, _, _, _, 0, _, cT, cS, cJ, 0, cY, _, ⟨rfl, rfl, List.length_replicate.symm, rfl, by unfold newY; rw [List.length_map]⟩, ?_, rfl⟩, rfl, rfl⟩
 exact (Perm.cons' goPk (Perm.cons' goPk (Perm.cons' goPk (Perm.cons' goPk (Perm.cons' goPk (Perm.cons' goPk (List.Perm.refl _)))))))
theorem subT_okT {W : List Tube} (ho : TbOk W) (a : Nat) : TbOk (subT W (coinsL W a)) := by
 have hl : (subT W (coinsL W a)).length = W.length := by unfold subT; rw [List.length_zipWith, coinsL_len]; omega
 have hm : ∀ z ∈ subT W (coinsL W a), ∃ d ∈ W, ∃ n : Int, 0 ≤ n ∧ n ≤ d.cnt ∧ z = sub1 d n := fun z hz => by
  obtain ⟨j, hj⟩ := List.getElem?_of_mem hz
  unfold subT at hj
  rw [List.getElem?_zipWith] at hj
  cases h1 : W[j]? with
  |none => rw [h1] at hj; cases hj
  |some d =>
   cases h2 : (coinsL W a)[j]? with
   |none => rw [h1, h2] at hj; cases hj
   |some n =>
    rw [h1, h2] at hj
    obtain ⟨b1, b2⟩ := coinsL_bd ho h2 h1
    exact ⟨d, List.mem_of_getElem? h1, n, b1, b2, (Option.some.inj hj).symm⟩
 refine ⟨by rw [hl]; exact ho.len, fun z hz => ?_, fun z hz => ?_⟩
 ·obtain ⟨d, hd, n, h1, h2, rfl⟩ := hm z hz
  exact ho.val d hd
 ·obtain ⟨d, hd, n, h1, h2, rfl⟩ := hm z hz
  have := ho.cnt d hd
  show 0 ≤ d.cnt - n ∧ d.cnt - n ≤ d.most ∧ d.most ≤ 1000
  omega
abbrev kyA : ByteArray := ⟨#[97]⟩
abbrev kyB : ByteArray := ⟨#[98]⟩
abbrev prA_ : ByteArray := ⟨#[99, 97, 110]⟩
abbrev prB_ : ByteArray := ⟨#[98, 97, 114]⟩
structure MXo (k : Nat) (p q : Int) (E : List Int) (T : List Tube) (L : List SlotM) (Y : List Tally) (i o x : Int) : Prop where
 t : TbOk T
 l : ∃ ca cb : Int, L = [⟨kyA, prA_, 10, 500, ca⟩, ⟨kyB, prB_, 20, 500, cb⟩] ∧ (0 ≤ ca ∧ ca ≤ 500) ∧ (0 ≤ cb ∧ cb ≤ 500)
 y : ∃ va vb : Int, Y = [⟨kyA, p, va⟩, ⟨kyB, q, vb⟩] ∧ (0 ≤ va ∧ va ≤ 20000 * k) ∧ (0 ≤ vb ∧ vb ≤ 20000 * k)
 p : 0 ≤ p ∧ p ≤ k
 q : 0 ≤ q ∧ q ≤ k
 e : E.length ≤ 2 ∧ ∀ v ∈ E, v = 10
 i : 0 ≤ i ∧ i ≤ 20000 * k
 o : 0 ≤ o ∧ o ≤ 20000 * k
 x : 0 ≤ x ∧ x ≤ 3000000000 * k
def MX (b k : Nat) (p q : Int) (E : List Int) (ch : Chunk) : Prop := ∃ (T : List Tube) (L : List SlotM) (Y : List Tally) (i o x : Int), IsX b [10] 100 T L [false, false] E Y i o 0 0 x (sumF id E) ch ∧ MXo k p q E T L Y i o x
theorem ten_sum : ∀ {E : List Int}, (∀ v ∈ E, v = 10) → sumF id E = 10 * E.length
 |[], _ => rfl
 |v :: E, h => by
  have h1 := h v (by simp)
  have h2 := ten_sum (E := E) (fun u hu => h u (by simp [hu]))
  rw [show sumF id (v :: E) = v + sumF id E from rfl, h2, h1, List.length_cons]
  omega
theorem sum10 : ∀ E : List Int, sumF id (E ++ [10]) = sumF id E + 10
 |[] => rfl
 |v :: E => by show v + sumF id (E ++ [10]) = v + sumF id E + 10; rw [sum10 E]; omega
attribute [local irreducible] intRows tknT tknR coinsL subT
theorem MX.ins {b k : Nat} {p q : Int} {E : List Int} {ch : Chunk} (h : MX b k p q E ch) (hE : E.length ≤ 1) : Spec Tryz.prog 9 [.ptr b, .int 10] [ch] (fun y cs => ∃ ch', MX b k p q (E ++ [10]) ch' ∧ y = .int 0 ∧ cs = [ch']) := by
 obtain ⟨T, L, Y, i, o, x, ⟨aT, aS, aJ, aE, aY, nT, nS, nJ, nE, nY, cT, cS, cJ, cE, cY, l, ⟨hnT, hnS, hnJ, hnE, hnY⟩, hp, rfl⟩, hm⟩ := h
 have hs := ten_sum hm.e.2
 have h0 : insO [10] 100 (sumF id E) 10 = 0 := by
  unfold insO
  rw [if_neg (by simp), if_neg (by omega)]
 have hk := insert_fn (b := b) (aT := aT) (nT := nT) (cT := cT) (K := [10]) (aS := aS) (nS := nS) (cS := cS) (H := 100) (aJ := aJ) (nJ := nJ) (cJ := cJ) (aE := aE) (nE := nE) (cE := cE) (aY := aY) (nY := nY) (cY := cY) (i := i) (o := o) (f := 0) (c := 0) (x := x) (r := sumF id E) E 10 (by simp) (by omega) hnE (by omega) (by omega)
 unfold insL insC at hk
 rw [h0, if_pos rfl, if_pos rfl] at hk
 refine (Spec.bunF hk (hp.trans (Perm.cons' goPk (Perm.cons' goPk (List.Perm.refl _))))).mono ?_
 rintro y cs ⟨c2, ⟨aE', cE', rfl, rfl⟩, rfl⟩
 refine ⟨_, ⟨T, L, Y, i, o, x, ⟨aT, aS, aJ, aE', aY, _, _, _, _, _, cT, cS, cJ, cE', cY, _, ⟨hnT, hnS, hnJ, rfl, hnY⟩, ?_, rfl⟩, { hm with e := ⟨by rw [List.length_append]; simp; omega, fun v hv => ?_⟩ }⟩, rfl, rfl⟩
 ·rw [sum10]
  exact (Perm.cons' goPk (Perm.cons' goPk (Perm.cons' goPk (Perm.cons' goPk (Perm.cons' goPk (Perm.cons' goPk (List.Perm.refl _)))))))
 ·rcases List.mem_append.1 hv with h1 | h1
  ·exact hm.e.2 v h1
  ·exact List.mem_singleton.1 h1
theorem MX.back {b k : Nat} {p q : Int} {E : List Int} {ch : Chunk} (h : MX b k p q E ch) : Spec Tryz.prog 12 [.ptr b] [ch] (fun y cs => ∃ ch', MX b k p q [] ch' ∧ y = .ints E ∧ cs = [ch']) := by
 obtain ⟨T, L, Y, i, o, x, ⟨aT, aS, aJ, aE, aY, nT, nS, nJ, nE, nY, cT, cS, cJ, cE, cY, l, ⟨hnT, hnS, hnJ, hnE, hnY⟩, hp, rfl⟩, hm⟩ := h
 refine (Spec.bunF (Spec.nilI (back_fn (b := b) (aT := aT) (nT := nT) (cT := cT) (K := [10]) (aS := aS) (nS := nS) (cS := cS) (H := 100) (aJ := aJ) (nJ := nJ) (cJ := cJ) (aE := aE) (nE := nE) (cE := cE) (aY := aY) (nY := nY) (cY := cY) (i := i) (o := o) (f := 0) (c := 0) (x := x) (r := sumF id E) E hnE)) (hp.trans (Perm.cons' goPk (Perm.cons' goPk (List.Perm.refl _))))).mono ?_
 rintro y cs ⟨c2, ⟨c3, ⟨rfl, rfl⟩, rfl⟩, rfl⟩
 refine ⟨_, ⟨T, L, Y, i, o, x, ⟨aT, aS, aJ, none, aY, _, _, _, 0, _, cT, cS, cJ, 0, cY, _, ⟨hnT, hnS, hnJ, rfl, hnY⟩, ?_, rfl⟩, { hm with e := ⟨by simp, fun v hv => by cases hv⟩ }⟩, rfl, rfl⟩
 exact (Perm.cons' goPk (Perm.cons' goPk (Perm.cons' goPk (Perm.cons' goPk (Perm.cons' goPk (Perm.cons' goPk (List.Perm.refl _)))))))
theorem MX.audit {b k : Nat} {p q : Int} {E : List Int} {ch : Chunk} (h : MX b k p q E ch) (hk : k ≤ 1000) : ∃ (va vb i o x r : Int) (T : List Tube), Spec Tryz.prog 7 [.ptr b] [ch] (fun y cs => ∃ ch', MX b k p q E ch' ∧ y = .agg [.sl 3 [[.str kyA, .int p, .int va], [.str kyB, .int q, .int vb]], .int i, .int o, .int 0, .int 0, .int x, .int r, .tubes T] ∧ cs = [ch']) := by
 obtain ⟨T, L, Y, i, o, x, ⟨aT, aS, aJ, aE, aY, nT, nS, nJ, nE, nY, cT, cS, cJ, cE, cY, l, ⟨hnT, hnS, hnJ, hnE, hnY⟩, hp, rfl⟩, hm⟩ := h
 obtain ⟨va, vb, hY, _⟩ := hm.y
 have hk2 := audit_fn (b := b) (aT := aT) (nT := nT) (cT := cT) (K := [10]) (aS := aS) (nS := nS) (cS := cS) (G := 100) (aJ := aJ) (nJ := nJ) (cJ := cJ) (aE := aE) (nE := nE) (cE := cE) (aY := aY) (nY := nY) (cY := cY) (i := i) (o := o) (f := 0) (c := 0) (x := x) (r := sumF id E) T Y (by have := hm.t.len; omega) hnT (by rw [hY]; simp) hnY
 refine ⟨va, vb, i, o, x, sumF id E, T, (Spec.bunF hk2 (hp.trans (Perm.cons' goPk (Perm.cons' goPk (Perm.cons' goPk (List.Perm.refl _)))))).mono ?_⟩
 rintro y cs ⟨c2, ⟨rfl, rfl⟩, rfl⟩
 refine ⟨_, ⟨T, L, Y, i, o, x, ⟨aT, aS, aJ, aE, aY, _, _, _, _, _, cT, cS, cJ, cE, cY, _, ⟨hnT, hnS, hnJ, hnE, hnY⟩, ?_, rfl⟩, hm⟩, by rw [hY]; rfl, rfl⟩
 exact (Perm.cons' goPk (Perm.cons' goPk (Perm.cons' goPk (Perm.cons' goPk (Perm.cons' goPk (Perm.cons' goPk (List.Perm.refl _)))))))
theorem key_A (L : List SlotM) (ca cb : Int) (hL : L = [⟨kyA, prA_, 10, 500, ca⟩, ⟨kyB, prB_, 20, 500, cb⟩]) : slotN L kyA = some 0 ∧ slotN L kyB = some 1 := by
 subst hL
 constructor
 ·rfl
 ·rfl
theorem MX.press {b k : Nat} {p q : Int} {E : List Int} {ch : Chunk} (h : MX b k p q E ch) (hk : k ≤ 300) (key : ByteArray) (hkey : key = kyA ∨ key = kyB) :
  ∃ y0 : Tr, Spec Tryz.prog 10 [.ptr b, .str key] [ch] (fun y cs => ∃ (ch' : Chunk) (p' q' : Int) (E' : List Int), MX b (k + 1) p' q' E' ch' ∧ (p ≤ p' ∧ p' ≤ p + 1) ∧ (q ≤ q' ∧ q' ≤ q + 1) ∧ y = y0 ∧ cs = [ch']) := by
 obtain ⟨T, L, Y, i, o, x, ⟨aT, aS, aJ, aE, aY, nT, nS, nJ, nE, nY, cT, cS, cJ, cE, cY, l, ⟨hnT, hnS, hnJ, hnE, hnY⟩, hp, rfl⟩, hm⟩ := h
 obtain ⟨ca, cb, hL, hca, hcb⟩ := hm.l
 obtain ⟨va, vb, hY, hva, hvb⟩ := hm.y
 have hs := ten_sum hm.e.2
 have he := hm.e.1
 have hTl := hm.t.len
 have hi := hm.i
 have ho := hm.o
 have hx := hm.x
 have hp0 := hm.p
 have hq0 := hm.q
 have hLl : L.length = 2 := by rw [hL]; rfl
 have hYl : Y.length = 2 := by rw [hY]; rfl
 have hEb : ∀ v ∈ E, 0 ≤ v ∧ v ≤ 20000 := fun v hv => by have := hm.e.2 v hv; omega
 have hLx : ∀ s ∈ L, 1 ≤ s.price ∧ s.price ≤ 20000 ∧ 0 ≤ s.cnt ∧ s.cnt ≤ 1000 := fun s hs => by
  rw [hL] at hs
  rcases List.mem_cons.1 hs with rfl | hs
  ·exact ⟨by show (1 : Int) ≤ 10; omega, by show (10 : Int) ≤ 20000; omega, hca.1, by show ca ≤ 1000; omega⟩
  ·rw [List.mem_singleton.1 hs]
   exact ⟨by show (1 : Int) ≤ 20; omega, by show (20 : Int) ≤ 20000; omega, hcb.1, by show cb ≤ 1000; omega⟩
 obtain ⟨hkA, hkB⟩ := key_A L ca cb hL
 by_cases hbad : prsE L [false, false] (slotN L key) T E (sumF id E) = 0
 rotate_left
 ·refine ⟨.tup [.agg [.str ByteArray.empty, .int 0, .ints []], .int (prsE L [false, false] (slotN L key) T E (sumF id E))], (Spec.bunF (press_bad (b := b) (aT := aT) (nT := nT) (cT := cT) (K := [10]) (aS := aS) (nS := nS) (cS := cS) (H := 100) (aJ := aJ) (nJ := nJ) (cJ := cJ) (aE := aE) (nE := nE) (cE := cE) (aY := aY) (nY := nY) (cY := cY) (i := i) (o := o) (f := 0) (c := 0) (x := x) (r := sumF id E) T L [false, false] E key hm.t hnT hnS hnJ hnE (by omega) (by rw [hLl]; rfl) (by omega) hEb (fun s hs => by have := hLx s hs; omega) (by omega) hbad) (hp.trans (Perm.cons' goPk (Perm.cons' goPk (Perm.cons' goPk (Perm.cons' goPk (Perm.cons' goPk (List.Perm.refl _)))))))).mono ?_⟩
  rintro y cs ⟨c2, ⟨rfl, rfl⟩, rfl⟩
  refine ⟨_, p, q, E, ⟨T, L, Y, i, o, x, ⟨aT, aS, aJ, aE, aY, _, _, _, _, _, cT, cS, cJ, cE, cY, _, ⟨hnT, hnS, hnJ, hnE, hnY⟩, ?_, rfl⟩, { hm with y := ⟨va, vb, hY, by omega, by omega⟩, p := by omega, q := by omega, i := by omega, o := by omega, x := by omega }⟩, by omega, by omega, rfl, rfl⟩
  exact (Perm.cons' goPk (Perm.cons' goPk (Perm.cons' goPk (Perm.cons' goPk (Perm.cons' goPk (Perm.cons' goPk (List.Perm.refl _)))))))
 rcases hkey with rfl | rfl
 ·rw [hkA] at hbad
  have hd : L[0]? = some ⟨kyA, prA_, 10, 500, ca⟩ := by rw [hL]; rfl
  have hy : Y[0]? = some ⟨kyA, p, va⟩ := by rw [hY]; rfl
  have hq : ca ≠ 0 ∧ 10 ≤ sumF id E := by
   have hb := hbad
   unfold prsE at hb
   simp only at hb
   rw [tAtS_eq hd] at hb
   by_cases h1 : [false, false].getD 0 false = true ∨ ca = 0
   ·rw [if_pos h1] at hb; omega
   rw [if_neg h1] at hb
   by_cases h2 : sumF id E < 10
   ·rw [if_pos h2] at hb; omega
   exact ⟨(not_or.1 h1).2, by omega⟩
  have hR := tknR_bd (T := T) (E := E) hm.t hEb (by omega)
  refine ⟨.tup [.agg [.str prA_, .int 10, .ints (coinsL (tknT T E) (sumF id E - 10).toNat)], .int 0], (Spec.bunF (Spec.nilI (press_ok (b := b) (aT := aT) (nT := nT) (cT := cT) (K := [10]) (aS := aS) (nS := nS) (cS := cS) (H := 100) (aJ := aJ) (nJ := nJ) (cJ := cJ) (aE := aE) (nE := nE) (cE := cE) (aY := aY) (nY := nY) (cY := cY) (i := i) (o := o) (f := 0) (c := 0) (x := x) (r := sumF id E) T L [false, false] E Y kyA 0 _ _ hm.t hnT hnS hnJ hnE hnY (by omega) (by rw [hLl]; rfl) (by omega) (by omega) hEb hLx (by omega) (by omega) (by omega) (by omega) hkA hd hy (by show 0 ≤ p ∧ p ≤ _ ∧ 0 ≤ va ∧ va ≤ _; omega) hbad)) (hp.trans (List.Perm.refl _))).mono ?_⟩
  rintro y cs ⟨c2, ⟨c3, ⟨rfl, aT', cT', rfl⟩, rfl⟩, rfl⟩
  refine ⟨_, p + 1, q, [], ⟨subT (tknT T E) (coinsL (tknT T E) (sumF id E - 10).toNat), L.set 0 ⟨kyA, prA_, 10, 500, ca - 1⟩, Y.set 0 ⟨kyA, p + 1, va + 10⟩, i + sumF id E, o + (sumF id E - 10), x + tknR T E, ⟨aT', aS, aJ, none, aY, _, _, _, 0, _, cT', cS, cJ, 0, cY, _, ⟨(subT_len _).symm, hnS.trans List.length_set.symm, hnJ, rfl, hnY.trans List.length_set.symm⟩, ?_, rfl⟩, ?_⟩, by omega, by omega, rfl, rfl⟩
  ·exact (Perm.cons' goPk (Perm.cons' goPk (Perm.cons' goPk (Perm.cons' goPk (Perm.cons' goPk (Perm.cons' goPk (List.Perm.refl _)))))))
  ·exact {
    t := subT_okT (tkn_ok hm.t hEb) _
    l := ⟨ca - 1, cb, by rw [hL]; rfl, by omega, hcb⟩
    y := ⟨va + 10, vb, by rw [hY]; rfl, by omega, by omega⟩
    p := by omega
    q := by omega
    e := ⟨by simp, fun v hv => by cases hv⟩
    i := by omega
    o := by show 0 ≤ o + (sumF id E - 10) ∧ o + (sumF id E - 10) ≤ _; omega
    x := by omega }
 ·rw [hkB] at hbad
  have hd : L[1]? = some ⟨kyB, prB_, 20, 500, cb⟩ := by rw [hL]; rfl
  have hy : Y[1]? = some ⟨kyB, q, vb⟩ := by rw [hY]; rfl
  have hq : cb ≠ 0 ∧ 20 ≤ sumF id E := by
   have hb := hbad
   unfold prsE at hb
   simp only at hb
   rw [tAtS_eq hd] at hb
   by_cases h1 : [false, false].getD 1 false = true ∨ cb = 0
   ·rw [if_pos h1] at hb; omega
   rw [if_neg h1] at hb
   by_cases h2 : sumF id E < 20
   ·rw [if_pos h2] at hb; omega
   exact ⟨(not_or.1 h1).2, by omega⟩
  have hR := tknR_bd (T := T) (E := E) hm.t hEb (by omega)
  refine ⟨.tup [.agg [.str prB_, .int 20, .ints (coinsL (tknT T E) (sumF id E - 20).toNat)], .int 0], (Spec.bunF (Spec.nilI (press_ok (b := b) (aT := aT) (nT := nT) (cT := cT) (K := [10]) (aS := aS) (nS := nS) (cS := cS) (H := 100) (aJ := aJ) (nJ := nJ) (cJ := cJ) (aE := aE) (nE := nE) (cE := cE) (aY := aY) (nY := nY) (cY := cY) (i := i) (o := o) (f := 0) (c := 0) (x := x) (r := sumF id E) T L [false, false] E Y kyB 1 _ _ hm.t hnT hnS hnJ hnE hnY (by omega) (by rw [hLl]; rfl) (by omega) (by omega) hEb hLx (by omega) (by omega) (by omega) (by omega) hkB hd hy (by show 0 ≤ q ∧ q ≤ _ ∧ 0 ≤ vb ∧ vb ≤ _; omega) hbad)) (hp.trans (List.Perm.refl _))).mono ?_⟩
  rintro y cs ⟨c2, ⟨c3, ⟨rfl, aT', cT', rfl⟩, rfl⟩, rfl⟩
  refine ⟨_, p, q + 1, [], ⟨subT (tknT T E) (coinsL (tknT T E) (sumF id E - 20).toNat), L.set 1 ⟨kyB, prB_, 20, 500, cb - 1⟩, Y.set 1 ⟨kyB, q + 1, vb + 20⟩, i + sumF id E, o + (sumF id E - 20), x + tknR T E, ⟨aT', aS, aJ, none, aY, _, _, _, 0, _, cT', cS, cJ, 0, cY, _, ⟨(subT_len _).symm, hnS.trans List.length_set.symm, hnJ, rfl, hnY.trans List.length_set.symm⟩, ?_, rfl⟩, ?_⟩, by omega, by omega, rfl, rfl⟩
  ·exact (Perm.cons' goPk (Perm.cons' goPk (Perm.cons' goPk (Perm.cons' goPk (Perm.cons' goPk (Perm.cons' goPk (List.Perm.refl _)))))))
  ·exact {
    t := subT_okT (tkn_ok hm.t hEb) _
    l := ⟨ca, cb - 1, by rw [hL]; rfl, hca, by omega⟩
    y := ⟨va, vb + 20, by rw [hY]; rfl, by omega, by omega⟩
    p := by omega
    q := by omega
    e := ⟨by simp, fun v hv => by cases hv⟩
    i := by omega
    o := by show 0 ≤ o + (sumF id E - 20) ∧ o + (sumF id E - 20) ≤ _; omega
    x := by omega }
theorem MX.new : Spec Tryz.prog 4 [.cfg [⟨10, 9, 20⟩] [10] [⟨kyA, prA_, 10, 500, 500⟩, ⟨kyB, prB_, 20, 500, 500⟩] 100] [] (fun y cs => ∃ (b : Nat) (ch : Chunk), MX b 0 0 0 [] ch ∧ y = .tup [.ptr b, .int 0] ∧ cs = [ch]) := by
 have h0 : cfgE [⟨10, 9, 20⟩] [10] [⟨kyA, prA_, 10, 500, 500⟩, ⟨kyB, prB_, 20, 500, 500⟩] 100 = 0 := by decide +kernel
 have ho := cfg_ok h0
 refine (newX _ _ _ _ h0).mono ?_
 rintro y cs ⟨b, ch, hX, rfl, rfl⟩
 refine ⟨b, ch, ⟨_, _, _, _, _, _, hX, ?_⟩, rfl, rfl⟩
 exact {
  t := ho.t
  l := ⟨500, 500, rfl, by omega, by omega⟩
  y := ⟨0, 0, rfl, by omega, by omega⟩
  p := by omega
  q := by omega
  e := ⟨by simp, fun v hv => by cases hv⟩
  i := by omega
  o := by omega
  x := by omega }
end Lg
end
section
set_option linter.all false
set_option maxRecDepth 100000
set_option maxHeartbeats 8000000
namespace Lg
open Go Go.Proofs

/-! ### what is noted, and what sold, agree and days answer to it -/
structure TcI (k : Nat) (M : List Nt) (t p q : Int) : Prop where
 n : M.length = k + 1
 c : NtC M
 tt : ∀ y ∈ M, 0 ≤ y.1 ∧ y.1 < t
 b : t ≤ 1000 + 900 * (k + 1)
 h : ∃ u, M.head? = some (u, 0, 0)
 l : ∃ u, M.getLast? = some (u, p, q)
theorem TcI.start {u v : Int} (h : 0 ≤ u ∧ u < 1000) (hv : 1 ≤ v ∧ v ≤ 900) : TcI 0 [(u, 0, 0)] (u + v) 0 0 where
 n := rfl
 c := trivial
 tt := fun y hy => by rw [List.mem_singleton.1 hy]; show 0 ≤ u ∧ u < u + v; omega
 b := by omega
 h := ⟨u, rfl⟩
 l := ⟨u, rfl⟩
theorem TcI.next {k : Nat} {M : List Nt} {t p q p' q' v : Int} (h : TcI k M t p q) (hp : p ≤ p' ∧ p' ≤ p + 9) (hq : q ≤ q' ∧ q' ≤ q + 9) (hv : 1 ≤ v ∧ v ≤ 900) : TcI (k + 1) (M ++ [(t, p', q')]) (t + v) p' q' where
 n := by rw [List.length_append, h.n]; rfl
 c := NtC.snoc h.c (fun x hx => by
  obtain ⟨u, hu⟩ := h.l
  rw [hu] at hx
  have e := Option.some.inj hx
  subst e
  have := h.tt _ (List.mem_of_getLast? hu)
  exact ⟨this.2, hp, hq⟩)
 tt := fun y hy => by
  rcases List.mem_append.1 hy with h1 | h1
  ·have := h.tt y h1; omega
  ·rw [List.mem_singleton.1 h1]
   obtain ⟨u, hu⟩ := h.l
   have := h.tt _ (List.mem_of_getLast? hu)
   simp only at this
   show 0 ≤ t ∧ t < t + v
   omega
 b := by have := h.b; omega
 h := by
  obtain ⟨u, hu⟩ := h.h
  refine ⟨u, ?_⟩
  rw [List.head?_append, hu]
  rfl
 l := ⟨t, by simp⟩
theorem ntD_ok {M : List Nt} (ht : ∀ y ∈ M, 0 ≤ y.1 ∧ y.1 < 5761440) : ∀ r ∈ M.map ntR, ROk 2 10 r := fun r hr => by
 obtain ⟨y, hy, rfl⟩ := List.mem_map.1 hr
 refine ⟨ht y hy, rfl, fun x hx => ?_⟩
 unfold ntR at hx
 simp only [List.mem_cons, List.not_mem_nil, or_false] at hx
 omega
attribute [local irreducible] srtO stpsOf dyL soldL
theorem counters_fn {k : Nat} {M : List Nt} {t p q : Int} (h : TcI k M t p q) (hk : k ≤ 6) (hp : 0 ≤ p ∧ p ≤ 1000) (hq : 0 ≤ q ∧ q ≤ 1000) {L : List Rdg} (hL : L.Perm (M.map ntR)) :
  PFn Tryz.prog 14 [.mtr 2 10 9, .sl 2 (L.map Rdg.row)] (· = .tup [.ints [p, q], .int 0]) ∧
  PFn Tryz.prog 15 [.mtr 2 10 9, .sl 2 (L.map Rdg.row), .ints [p, q], .int 0] (· = .tup [.sl 3 [], .int 0]) ∧
  ∃ dv : List (Int × Int), PFn Tryz.prog 16 [.mtr 2 10 9, .sl 2 (L.map Rdg.row), .int 0] (· = .tup [.sl 2 (dv.map prD), .int 0]) ∧ sumP dv = p ∧ (∀ x ∈ dv, 1 ≤ x.2) := by
 obtain ⟨u, hu⟩ := h.h
 obtain ⟨w, hw⟩ := h.l
 have hn := h.n
 have hb := h.b
 have ht : ∀ y ∈ M, 0 ≤ y.1 ∧ y.1 < 5761440 := fun y hy => by have := h.tt y hy; omega
 have hs := nt_sort hL h.c (by omega) ht
 have hD := ntD_ok ht
 have hLl : L.length = k + 1 := by rw [hL.length_eq, List.length_map, hn]
 have hDl : (M.map ntR).length = k + 1 := by rw [List.length_map, hn]
 have hLv : ∀ r ∈ L, r.vs.length ≤ 1000 := fun r hr => by
  have := (hD r ((hL.mem_iff).1 hr)).n
  omega
 have hm : mtrE 2 10 9 = 0 := by decide
 have h0 : (0 : Int) = 0 → mtrE 2 10 9 = 0 ∧ (∀ r ∈ M.map ntR, ROk 2 10 r) ∧ (M.map ntR).length ≤ L.length := fun _ => ⟨hm, hD, by omega⟩
 have kSt := steps_fn 2 10 9 L (by omega) hLv (by omega) hs h0
 have kSo := sold_fn 2 10 9 L (by omega) hLv (by omega) hs h0
 unfold stsO at kSt
 unfold sldO at kSo
 rw [if_pos rfl] at kSt kSo
 have hsold : soldL 2 10 9 (M.map ntR) = [p, q] := by
  cases M with
  |nil => cases hu
  |cons x N =>
   have e : x = (u, 0, 0) := Option.some.inj hu
   have hl : (x :: N).getLast (by simp) = (w, p, q) := by
    rw [List.getLast?_eq_some_getLast (by simp)] at hw
    exact Option.some.inj hw
   rw [nt_sold h.c (fun y hy => (ht y hy).1) (by rw [e]) (by rw [e]), hl]
 have hday : sumP (dyL 0 (stpsOf 10 9 (M.map ntR)) []) = p := by
  cases M with
  |nil => cases hu
  |cons x N =>
   have e : x = (u, 0, 0) := Option.some.inj hu
   have hl : (x :: N).getLast (by simp) = (w, p, q) := by
    rw [List.getLast?_eq_some_getLast (by simp)] at hw
    exact Option.some.inj hw
   rw [sumP_dyL h.c (fun y hy => (ht y hy).1), hl, e]
   show sumP [] + (p - 0) = p
   show (0 : Int) + (p - 0) = p
   omega
 rw [hsold] at kSo
 have hg : agE 2 [p, q] 0 = 0 := by
  unfold agE
  rw [if_neg (by simp), if_neg]
  simp [bdA, outB]
  omega
 have kA := agreeD_fn (c := 2) (t := 10) (f := 9) L [p, q] kSo rfl (fun x hx => by simp only [List.mem_cons, List.not_mem_nil, or_false] at hx; omega) [p, q] (by simp) 0 hg
 rw [apK_same] at kA
 have hSd := stD (f := 9) hm hD h.c.pw
 have hSl : (stpsOf 10 9 (M.map ntR)).length ≤ 12 := by have := stps_len (t := 10) (f := 9) (M.map ntR); omega
 have kD := daysD_fn 0 2 (by omega) (by omega) (stpsOf 10 9 (M.map ntR)) hSl hSd L rfl kSt
 have hnn := dyL_nn (c := 2) (t := 10) (f := 9) (cc := 2) (stpsOf 10 9 (M.map ntR)) hSd [] (fun q hq => by cases hq)
 refine ⟨kSo, kA, _, kD, ?_, ?_⟩
 ·rw [sumP_dyV hnn, hday]
 ·intro x hx
  unfold dyV at hx
  have := (List.mem_filter.1 ((isort_perm ltP _).mem_iff.1 hx)).2
  unfold pz at this
  simp only [decide_eq_true_eq] at this
  omega
theorem sumP_snoc (dv : List (Int × Int)) (x : Int × Int) : sumP (dv ++ [x]) = sumP dv + x.2 := by
 induction dv with
 |nil => show x.2 + 0 = 0 + x.2; omega
 |cons y l ih => rw [List.cons_append, sumP_cons, sumP_cons, ih]; omega
theorem sumP_len {dv : List (Int × Int)} (h : ∀ x ∈ dv, 1 ≤ x.2) : (dv.length : Int) ≤ sumP dv := by
 induction dv with
 |nil => exact Int.le_refl 0
 |cons y l ih =>
  have h1 := h y (by simp)
  have h2 := ih fun x hx => h x (by simp [hx])
  rw [sumP_cons, List.length_cons]
  omega
end Lg
end
section
set_option linter.all false
set_option maxRecDepth 100000
set_option maxHeartbeats 8000000
namespace Lg
open Go Go.Proofs

/-! ### an order is a permutation -/
def idL (n : Nat) : List Int := (List.range n).map fun k : Nat => (k : Int)
theorem idL_succ (k : Nat) : idL (k + 1) = idL k ++ [(k : Int)] := by unfold idL; rw [List.range_succ, List.map_append]; rfl
theorem idL_len (k : Nat) : (idL k).length = k := by unfold idL; rw [List.length_map, List.length_range]
theorem idL_mem {n : Nat} {x : Int} (h : x ∈ idL n) : 0 ≤ x ∧ x < n := by
 unfold idL at h
 obtain ⟨k, hk, rfl⟩ := List.mem_map.1 h
 have := List.mem_range.1 hk
 omega
theorem swap_permP {l : List Int} {i j : Nat} {x y : Int} (hx : l[i]? = some x) (hy : l[j]? = some y) : ((l.set i y).set j x).Perm l := by
 obtain ⟨hi, ex⟩ := List.getElem?_eq_some_iff.1 hx
 obtain ⟨hj, ey⟩ := List.getElem?_eq_some_iff.1 hy
 have := @List.set_set_perm _ l i j hi hj
 rw [ex, ey] at this
 exact this
theorem idL_pick {α : Type} (R : List α) {l : List Int} (hl : l.Perm (idL R.length)) (f : Int → α) (hf : ∀ (k : Nat) (x : α), R[k]? = some x → f k = x) : (l.map f).Perm R := by
 have h1 : ∀ R2 : List α, (∀ (k : Nat) (x : α), R2[k]? = some x → f k = x) → (idL R2.length).map f = R2 := by
  intro R2 h2
  refine List.ext_getElem? fun k => ?_
  unfold idL
  rw [List.map_map, List.getElem?_map]
  by_cases hk : k < R2.length
  ·rw [List.getElem?_range hk, List.getElem?_eq_getElem hk]
   exact congrArg some (h2 k _ (List.getElem?_eq_getElem hk))
  ·rw [List.getElem?_eq_none (by rw [List.length_range]; omega), List.getElem?_eq_none (by omega)]
   rfl
 have := hl.map f
 rw [h1 R hf] at this
 exact this
theorem intRowsP_nil : intRows [] = [] := rfl
theorem intRowsP_snoc (l : List Int) (x : Int) : intRows l ++ [[Tr.int x]] = intRows (l ++ [x]) := by rw [intRows_app]; rfl
theorem intP_set (l : List Int) (i : Nat) (v : Int) : (intRows l).set i [Tr.int v] = intRows (l.set i v) := by
 unfold intRows
 rw [List.map_set]
attribute [local irreducible] intRows idL
theorem orderP_gen (n : Nat) (hn : n ≤ 12) : Gen Tryz.prog 25 13 [.int n] 14 (fun r => ∃ l : List Int, r = .ints l ∧ l.Perm (idL n)) := by
 unfold Gen
 intro bs xs N hN
 refine Spec.body Tryz.func13 rfl rfl (Tryz.ntmps13) rfl fun w0 own0 M => ?_
 repeat' (first | refine goH ?_ | refine goV ?_ | refine goC (fun ad cap => ?_) | refine goI ?_ | (refine Cw.k_cond ?_; first | (refine Cw.cond_dec rfl ?_ ?_ <;> intro hc <;> try omega) | refine Cw.cond_bool rfl ?_ ?_ <;> intro hc) | refine goR ?_ | refine goP ?_ | apply PSeq.cons | apply PSeq.yes rfl rfl rfl | exact goW | fail)
 refine Cw.loopI [(0, _), (1, _), (9, _)] _ (fun q e cc => ∃ (k : Nat) (rows : List (List Tr)) (ad : Option Addr) (cap : Nat), q = n - k ∧ (k ≤ n ∧ rows = intRows (idL k) ∧ rows.length = k) ∧ e = [(5, Tr.raw (.slice ad k cap)), (10, .int k)] ∧ cc = [Chunk.own ad cap 1 3 rows])
  ⟨_, _, _, Ent.trans (Ent.nil 1 3) (Ent.mkP goSub goPm), 0, [], none, 0, rfl, ⟨by omega, by rw [show idL 0 = [] by unfold idL; rfl]; exact intRowsP_nil.symm, rfl⟩, rfl, rfl⟩ ?_
 rintro _ _ _ ⟨k, rows, ad, cap, rfl, ⟨hk, hrs, hrl⟩, rfl, rfl⟩
 by_cases hkl : k < n
 ·have hrs2 : rows ++ [[Tr.int k]] = intRows (idL (k + 1)) := by rw [hrs, intRowsP_snoc, idL_succ]
  have hrl2 : (rows ++ [[Tr.int k]]).length = k + 1 := by rw [List.length_append, hrl]; rfl
  clear hrs
  repeat' (first | refine goH ?_ | refine goV ?_ | refine goC (fun ad cap => ?_) | refine goI ?_ | (refine Cw.k_cond ?_; first | (refine Cw.cond_dec rfl ?_ ?_ <;> intro hc <;> try omega) | refine Cw.cond_bool rfl ?_ ?_ <;> intro hc) | refine goR ?_ | refine goP ?_ | apply PSeq.cons | apply PSeq.yes rfl rfl rfl | exact goW | fail)
  erw [hrl2]
  exact ⟨_, _, _, (Ent.mk goSub goTk), ⟨k + 1, _, _, _, rfl, ⟨by omega, hrs2, hrl2⟩, rfl, rfl⟩, by omega⟩
 have hkn : k = n := by omega
 subst hkn
 subst hrs
 have hll := idL_len k
 have hP := List.Perm.refl (idL k)
 generalize hL0 : idL k = L0 at *
 clear hkl hk
 repeat' (first | refine goH ?_ | refine goV ?_ | refine goC (fun ad cap => ?_) | refine goI ?_ | (refine Cw.k_cond ?_; first | (refine Cw.cond_dec rfl ?_ ?_ <;> intro hc <;> try omega) | refine Cw.cond_bool rfl ?_ ?_ <;> intro hc) | refine goR ?_ | refine goP ?_ | apply PSeq.cons | apply PSeq.yes rfl rfl rfl | exact goW | fail)
 refine Cw.loopI [(0, _), (5, _)] _ (fun q e cc => ∃ (i : Int) (l : List Int) (c : Nat), q = i.toNat ∧ ((-1 ≤ i ∧ i < k) ∧ (intRows l).length = k ∧ l.length = k ∧ l.Perm L0 ∧ c + i ≤ N + k) ∧ e = [(7, .int i)] ∧ cc = [Chunk.own ad cap 1 3 (intRows l), Chunk.strm 25 bs (intRows xs) c])
  ⟨_, _, _, (Ent.mkP goSub goPm), (k : Int) - 1, L0, N, rfl, ⟨by omega, hrl, hll, hP, by omega⟩, rfl, rfl⟩ ?_
 clear hrl hll hP
 rintro _ _ _ ⟨i, l, c, rfl, ⟨hi, hrl, hll2, hPl, hc⟩, rfl, rfl⟩
 by_cases hi0 : 0 < i
 rotate_left
 ·repeat' (first | refine goH ?_ | refine goV ?_ | refine goC (fun ad cap => ?_) | refine goI ?_ | (refine Cw.k_cond ?_; first | (refine Cw.cond_dec rfl ?_ ?_ <;> intro hc <;> try omega) | refine Cw.cond_bool rfl ?_ ?_ <;> intro hc) | refine goR ?_ | refine goP ?_ | apply PSeq.cons | apply PSeq.yes rfl rfl rfl | exact goW | fail)
  rw [← hrl]
  refine Fin.ret (Ent.trans (Ent.settle (s := 4) rfl goPk rfl) (Ent.strm_only goPk (by omega))) (Outs.sole rfl goOe) ⟨rfl, l, rfl, hPl⟩
 repeat' (first | refine goH ?_ | refine goV ?_ | refine goC (fun ad cap => ?_) | refine goI ?_ | (refine Cw.k_cond ?_; first | (refine Cw.cond_dec rfl ?_ ?_ <;> intro hc <;> try omega) | refine Cw.cond_bool rfl ?_ ?_ <;> intro hc) | (refine Ops.k_calla ?_; first | (refine Ops.k_callf 5 ?_; (refine Ops.callG (next_gen _ (by omega)) (Evs.cons rfl (Evs.cons rfl Evs.nil)) goPk (by omega) rfl ?_; rintro r ⟨j, rfl, hj⟩; unfold InRange at hj))) | fail)
 obtain ⟨x, hx⟩ := at_lt (l := l) (k := i.toNat) (by omega)
 obtain ⟨y, hy⟩ := at_lt (l := l) (k := j.toNat) (by omega)
 have r1 := intRows_at hx
 have r2 := intRows_at hy
 have r3 : ((intRows l).set i.toNat [Tr.int y])[j.toNat]? = some [Tr.int y] := by
  rw [intP_set]
  refine intRows_at ?_
  rw [List.getElem?_set]
  by_cases h : i.toNat = j.toNat
  ·rw [if_pos h, if_pos (by omega)]
  ·rw [if_neg h]; exact hy
 first | refine Cw.region_YP (fun ξ S => Chunk.strm 25 bs (intRows xs) (c + 1) :: Chunk.own ad cap 1 3 (stg (S 15) (stg (S 13) (intRows l) ((intRows l).set i.toNat [.int y])) (((intRows l).set i.toNat [.int y]).set j.toNat [.int x])) :: []) rfl (by decide +kernel) rfl ((fun (ξ : Nat → Value) (S : Nat → Bool) => Chunk.strm 25 bs (intRows xs) (c + 1) :: Chunk.own ad cap 1 3 (stg (S 15) (stg (S 13) (intRows l) ((intRows l).set i.toNat [.int y])) (((intRows l).set i.toNat [.int y]).set j.toNat [.int x])) :: []) (fun _ => undef) (fun _ => false)) (by simp only [upd_same, updD_same, upd_ne, updD_ne, ne_eq, Nat.reduceEqDiff, not_false_eq_true, stg_t, stg_f, vAd_s, vCap_s, blk_p, List.cons_append, List.nil_append, b2n_t, b2n_f]; exact goXm) (fun _ => rfl) ?_ | fail
 apply YSeq.w (by intro _ _ _; rfl)
 ·intro ξ S h1 h2 h3 h4
  have hN0_13 := closed_false h1 h3 (k := 13) rfl (by decide)
  have hN0_15 := closed_false h1 h3 (k := 15) rfl (by decide)
  try simp only [upd_same, updD_same, upd_ne, updD_ne, ne_eq, Nat.reduceEqDiff, not_false_eq_true, stg_t, stg_f, vAd_s, vCap_s, blk_p, List.cons_append, List.nil_append, b2n_t, b2n_f, hN0_13, hN0_15]
  exact goW
 ·intro ξ v; rfl
 ·intro ξ k v S h3 hn hk
  first
  |rfl
 apply YSeq.w (by intro _ _ _; rfl)
 ·intro ξ S h1 h2 h3 h4
  have hN1_13 := closed_false h1 h3 (k := 13) rfl (by decide)
  have hN1_15 := closed_false h1 h3 (k := 15) rfl (by decide)
  try simp only [upd_same, updD_same, upd_ne, updD_ne, ne_eq, Nat.reduceEqDiff, not_false_eq_true, stg_t, stg_f, vAd_s, vCap_s, blk_p, List.cons_append, List.nil_append, b2n_t, b2n_f, hN1_13, hN1_15]
  exact goW
 ·intro ξ v; rfl
 ·intro ξ k v S h3 hn hk
  first
  |rfl
 apply YSeq.w (by intro _ _ _; rfl)
 ·intro ξ S h1 h2 h3 h4
  have hN2_15 := closed_false h1 h3 (k := 15) rfl (by decide)
  try simp only [upd_same, updD_same, upd_ne, updD_ne, ne_eq, Nat.reduceEqDiff, not_false_eq_true, stg_t, stg_f, vAd_s, vCap_s, blk_p, List.cons_append, List.nil_append, b2n_t, b2n_f, hN2_15]
  exact goW
 ·intro ξ v; rfl
 ·intro ξ k v S h3 hn hk
  first
  |rfl
 apply YSeq.w (by intro _ _ _; rfl)
 ·intro ξ S h1 h2 h3 h4
  have hN3_15 := closed_false h1 h3 (k := 15) rfl (by decide)
  try simp only [upd_same, updD_same, upd_ne, updD_ne, ne_eq, Nat.reduceEqDiff, not_false_eq_true, stg_t, stg_f, vAd_s, vCap_s, blk_p, List.cons_append, List.nil_append, b2n_t, b2n_f, hN3_15]
  exact goW
 ·intro ξ v; rfl
 ·intro ξ k v S h3 hn hk
  first
  |rfl
 apply YSeq.w (by intro _ _ _; rfl)
 ·intro ξ S h1 h2 h3 h4
  have hN4_13 := closed_false h1 h3 (k := 13) rfl (by decide)
  have hN4_15 := closed_false h1 h3 (k := 15) rfl (by decide)
  try simp only [upd_same, updD_same, upd_ne, updD_ne, ne_eq, Nat.reduceEqDiff, not_false_eq_true, stg_t, stg_f, vAd_s, vCap_s, blk_p, List.cons_append, List.nil_append, b2n_t, b2n_f, hN4_13, hN4_15]
  exact goW
 ·intro ξ v; rfl
 ·intro ξ k v S h3 hn hk
  first
  |rfl
 apply YSeq.w (by intro _ _ _; rfl)
 ·intro ξ S h1 h2 h3 h4
  have hN5_13 := closed_false h1 h3 (k := 13) rfl (by decide)
  have hN5_15 := closed_false h1 h3 (k := 15) rfl (by decide)
  try simp only [upd_same, updD_same, upd_ne, updD_ne, ne_eq, Nat.reduceEqDiff, not_false_eq_true, stg_t, stg_f, vAd_s, vCap_s, blk_p, List.cons_append, List.nil_append, b2n_t, b2n_f, hN5_13, hN5_15]
  exact goW
 ·intro ξ v; rfl
 ·intro ξ k v S h3 hn hk
  first
  |rfl
 apply YSeq.w (by intro _ _ _; rfl)
 ·intro ξ S h1 h2 h3 h4
  have hN6_13 := closed_false h1 h3 (k := 13) rfl (by decide)
  have hN6_15 := closed_false h1 h3 (k := 15) rfl (by decide)
  try simp only [upd_same, updD_same, upd_ne, updD_ne, ne_eq, Nat.reduceEqDiff, not_false_eq_true, stg_t, stg_f, vAd_s, vCap_s, blk_p, List.cons_append, List.nil_append, b2n_t, b2n_f, hN6_13, hN6_15]
  exact goW
 ·intro ξ v; rfl
 ·intro ξ k v S h3 hn hk
  first
  |rfl
 apply YSeq.w (by intro _ _ _; rfl)
 ·intro ξ S h1 h2 h3 h4
  have hN7_13 := closed_false h1 h3 (k := 13) rfl (by decide)
  have hN7_15 := closed_false h1 h3 (k := 15) rfl (by decide)
  try simp only [upd_same, updD_same, upd_ne, updD_ne, ne_eq, Nat.reduceEqDiff, not_false_eq_true, stg_t, stg_f, vAd_s, vCap_s, blk_p, List.cons_append, List.nil_append, b2n_t, b2n_f, hN7_13, hN7_15]
  exact goW
 ·intro ξ v; rfl
 ·intro ξ k v S h3 hn hk
  first
  |rfl
 apply YSeq.w (by intro _ _ _; rfl)
 ·intro ξ S h1 h2 h3 h4
  have hN8_10 := closed_false h1 h3 (k := 10) rfl (by decide)
  have hN8_11 := closed_false hN8_10 h3 (k := 11) rfl (by decide)
  have hN8_13 := closed_false hN8_11 h3 (k := 13) rfl (by decide)
  have hN8_15 := closed_false h1 h3 (k := 15) rfl (by decide)
  try simp only [upd_same, updD_same, upd_ne, updD_ne, ne_eq, Nat.reduceEqDiff, not_false_eq_true, stg_t, stg_f, vAd_s, vCap_s, blk_p, List.cons_append, List.nil_append, b2n_t, b2n_f, hN8_13, hN8_15]
  exact goW
 ·intro ξ v; rfl
 ·intro ξ k v S h3 hn hk
  first
  |rfl
 apply YSeq.w (by intro _ _ _; rfl)
 ·intro ξ S h1 h2 h3 h4
  have hN9_10 := closed_false h1 h3 (k := 10) rfl (by decide)
  have hN9_11 := closed_false hN9_10 h3 (k := 11) rfl (by decide)
  have hN9_13 := closed_false hN9_11 h3 (k := 13) rfl (by decide)
  have hN9_15 := closed_false h1 h3 (k := 15) rfl (by decide)
  try simp only [upd_same, updD_same, upd_ne, updD_ne, ne_eq, Nat.reduceEqDiff, not_false_eq_true, stg_t, stg_f, vAd_s, vCap_s, blk_p, List.cons_append, List.nil_append, b2n_t, b2n_f, hN9_13, hN9_15]
  exact goW
 ·intro ξ v; rfl
 ·intro ξ k v S h3 hn hk
  first
  |rfl
 apply YSeq.w (by intro _ _ _; rfl)
 ·intro ξ S h1 h2 h3 h4
  have hN10_11 := closed_false h1 h3 (k := 11) rfl (by decide)
  have hN10_13 := closed_false hN10_11 h3 (k := 13) rfl (by decide)
  have hN10_15 := closed_false h1 h3 (k := 15) rfl (by decide)
  try simp only [upd_same, updD_same, upd_ne, updD_ne, ne_eq, Nat.reduceEqDiff, not_false_eq_true, stg_t, stg_f, vAd_s, vCap_s, blk_p, List.cons_append, List.nil_append, b2n_t, b2n_f, hN10_13, hN10_15]
  exact goW
 ·intro ξ v; rfl
 ·intro ξ k v S h3 hn hk
  first
  |rfl
 apply YSeq.w (by intro _ _ _; rfl)
 ·intro ξ S h1 h2 h3 h4
  have hN11_13 := closed_false h1 h3 (k := 13) rfl (by decide)
  have hN11_15 := closed_false h1 h3 (k := 15) rfl (by decide)
  try simp only [upd_same, updD_same, upd_ne, updD_ne, ne_eq, Nat.reduceEqDiff, not_false_eq_true, stg_t, stg_f, vAd_s, vCap_s, blk_p, List.cons_append, List.nil_append, b2n_t, b2n_f, hN11_13, hN11_15]
  exact goW
 ·intro ξ v; rfl
 ·intro ξ k v S h3 hn hk
  first
  |rfl
 apply YSeq.w (by intro _ _ _; rfl)
 ·intro ξ S h1 h2 h3 h4
  have hN12_13 := closed_false h1 h3 (k := 13) rfl (by decide)
  have hN12_15 := closed_false h1 h3 (k := 15) rfl (by decide)
  try simp only [upd_same, updD_same, upd_ne, updD_ne, ne_eq, Nat.reduceEqDiff, not_false_eq_true, stg_t, stg_f, vAd_s, vCap_s, blk_p, List.cons_append, List.nil_append, b2n_t, b2n_f, hN12_13, hN12_15]
  exact goW
 ·intro ξ v; rfl
 ·intro ξ k v S h3 hn hk
  first
  |rfl
 apply YSeq.storeO
 ·intro ξ S h1 h2 h3 h4
  have hN13_15 := closed_false h1 h3 (k := 15) rfl (by decide)
  simp only [upd_same, updD_same, upd_ne, updD_ne, ne_eq, Nat.reduceEqDiff, not_false_eq_true, stg_t, stg_f, vAd_s, vCap_s, blk_p, List.cons_append, List.nil_append, b2n_t, b2n_f, h1, hN13_15]
  refine ⟨_, _, _, _, _, _, _, _, _, _, rfl, rfl, inferInstance, goXp, (by first | rfl | assumption | (simp [*]; done)), (by decide), ?_⟩
  exact goXm
 apply YSeq.w (by intro _ _ _; rfl)
 ·intro ξ S h1 h2 h3 h4
  have hY14_13 : S 13 = true := h2 13 (by decide)
  have hN14_15 := closed_false h1 h3 (k := 15) rfl (by decide)
  try simp only [upd_same, updD_same, upd_ne, updD_ne, ne_eq, Nat.reduceEqDiff, not_false_eq_true, stg_t, stg_f, vAd_s, vCap_s, blk_p, List.cons_append, List.nil_append, b2n_t, b2n_f, hY14_13, hN14_15]
  exact goW
 ·intro ξ v; rfl
 ·intro ξ k v S h3 hn hk
  first
  |rfl
 apply YSeq.storeO
 ·intro ξ S h1 h2 h3 h4
  have hY15_13 : S 13 = true := h2 13 (by decide)
  simp only [upd_same, updD_same, upd_ne, updD_ne, ne_eq, Nat.reduceEqDiff, not_false_eq_true, stg_t, stg_f, vAd_s, vCap_s, blk_p, List.cons_append, List.nil_append, b2n_t, b2n_f, hY15_13, h1]
  refine ⟨_, _, _, _, _, _, _, _, _, _, rfl, rfl, inferInstance, goXp, (by first | rfl | assumption | (simp [*]; done)), (by decide), ?_⟩
  exact goXm
 refine YSeq.nil fun ξ hf => ?_
 refine ⟨[(0, _), (5, _), (7, _), (8, _)], _, Ent.trans (Ent.eqc rfl (by first | (simp only [upd_same, updD_same, upd_ne, updD_ne, ne_eq, Nat.reduceEqDiff, not_false_eq_true, stg_t, stg_f, vAd_s, vCap_s, blk_p, List.cons_append, List.nil_append, b2n_t, b2n_f, ownV, slV, ptV] <;> rfl) | rfl)) (Ent.sub goSub), ?_⟩
 clear hf
 have hP2 := (swap_permP hx hy).trans hPl
 have hl2 : ((l.set i.toNat y).set j.toNat x).length = k := by simp [hll2]
 rw [intP_set, intP_set]
 clear r1 r2 r3 hx hy
 repeat' (first | refine goH ?_ | refine goV ?_ | refine goC (fun ad cap => ?_) | refine goI ?_ | (refine Cw.k_cond ?_; first | (refine Cw.cond_dec rfl ?_ ?_ <;> intro hc <;> try omega) | refine Cw.cond_bool rfl ?_ ?_ <;> intro hc) | refine goR ?_ | refine goP ?_ | apply PSeq.cons | apply PSeq.yes rfl rfl rfl | exact goW | fail)
 exact ⟨_, _, _, (Ent.mk goSub goTk), ⟨i - 1, _, _, rfl, ⟨by omega, by rw [intRows_len]; exact hl2, hl2, hP2, by omega⟩, rfl, rfl⟩, by omega⟩
end Lg
end
