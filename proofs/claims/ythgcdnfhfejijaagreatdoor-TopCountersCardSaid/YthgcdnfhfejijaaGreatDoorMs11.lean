/- A part of the proof of a law of this seat: it adds no condition. By an AI agent. -/
import Derived.Test.YthgcdnfhfejijaaGreatDoorMs8
section
set_option linter.all false
set_option maxRecDepth 100000
set_option maxHeartbeats 8000000
namespace Lg
open Go Go.Proofs

/-! ### machines: what the tubes hold with the escrow (the program's side) -/
theorem FreeL.tubes (T : List Tube) : FreeL (T.map Tube.row).flatten := by
 induction T with
 |nil => exact .nil
 |cons d T ih =>
  rw [List.map_cons, List.flatten_cons]
  exact .cons FreeT.raw (.cons FreeT.raw (.cons FreeT.raw ih))
theorem settledL_fn {aT aA : Option Addr} {nT cT nA cA : Nat} (T : List Tube) (A : List Int) (hnT : nT = T.length) (hnA : nA = A.length) (hl : T.length ≤ 10) (hA : A.length = T.length) (hT : ∀ d ∈ T, 1 ≤ d.val ∧ d.val ≤ 10000 ∧ 0 ≤ d.cnt ∧ d.cnt ≤ d.most ∧ d.most ≤ 1000) (hAb : ∀ a ∈ A, 0 ≤ a ∧ a ≤ 20000) :
  Spec Tryz.prog 54 [Tr.raw (.slice aT nT cT), Tr.raw (.slice aA nA cA)] [ownI aA cA A, ownT aT cT T] (fun y cs => ∃ (ad : Option Addr) (cap : Nat), y = .tup [Tr.raw (.slice ad T.length cap), .int (stlR T A)] ∧ cs = [ownI aA cA A, ownT aT cT T, ownT ad cap (stlT T A)]) := by
 have k1 := Spec.lend (E := 27) (ad := aT) (cap := cT) (n := nT) (pre := []) (suf := [.ints A]) (settled_fn T A hl hA hT hAb) (by rw [List.length_map, hnT]) (by
  rintro r cs ⟨ad, cap, rfl, rfl⟩
  refine ⟨FreeT.tup (.cons FreeT.raw (.cons FreeT.raw .nil)), fun c hc => ?_⟩
  rw [List.mem_singleton.1 hc]
  exact FreeC.own (FreeL.tubes _))
 have k2 := Spec.lend (E := 3) (ad := aA) (cap := cA) (n := nA) (pre := [Tr.raw (.slice aT nT cT)]) (suf := []) k1 (by rw [intRows_len, hnA]) (by
  rintro r cs ⟨cs0, rfl, ad, cap, rfl, rfl⟩
  refine ⟨FreeT.tup (.cons FreeT.raw (.cons FreeT.raw .nil)), fun c hc => ?_⟩
  rcases List.mem_cons.1 hc with rfl | hc
  ·exact FreeC.own (FreeL.tubes _)
  ·rw [List.mem_singleton.1 hc]
   exact FreeC.own (FreeL.tubes _))
 exact k2.mono (by
  rintro r cs ⟨cs1, rfl, cs0, rfl, ad, cap, rfl, rfl⟩
  exact ⟨ad, cap, rfl, rfl⟩)
def cntA (T : List Tube) : List Int → List Int → Int → List Int × Int
 |[], A, s => (A, s)
 |v :: E, A, s => match tubeN T v with
  |some k => cntA T E (A.set k (A.getD k 0 + 1)) s
  |none => cntA T E A (s + v)
theorem cntA_len {T : List Tube} : ∀ (E A : List Int) (s : Int), (cntA T E A s).1.length = A.length
 |[], A, s => rfl
 |v :: E, A, s => by
  unfold cntA
  cases tubeN T v with
  |none => exact cntA_len E A _
  |some k => simp only; rw [cntA_len E _ s, List.length_set]
theorem cntA_bd {T : List Tube} : ∀ (E A : List Int) (s : Int) (m : Int), 0 ≤ m → (∀ a ∈ A, 0 ≤ a ∧ a ≤ m) → (∀ v ∈ E, 0 ≤ v ∧ v ≤ 20000) → 0 ≤ s → ((∀ a ∈ (cntA T E A s).1, 0 ≤ a ∧ a ≤ m + E.length) ∧ 0 ≤ (cntA T E A s).2 ∧ (cntA T E A s).2 ≤ s + 20000 * E.length)
 |[], A, s, m, hm, hA, hE, hs => ⟨fun a ha => by have := hA a ha; simp only [List.length_nil]; omega, hs, by simp only [List.length_nil]; show s ≤ _; omega⟩
 |v :: E, A, s, m, hm, hA, hE, hs => by
  have hv := hE v (by simp)
  have hE2 : ∀ v ∈ E, 0 ≤ v ∧ v ≤ 20000 := fun x hx => hE x (List.mem_cons_of_mem _ hx)
  unfold cntA
  rw [List.length_cons]
  cases tubeN T v with
  |none =>
   obtain ⟨h1, h2, h3⟩ := cntA_bd (T := T) E A (s + v) m hm hA hE2 (by omega)
   exact ⟨fun a ha => by have := h1 a ha; omega, h2, by simp only; omega⟩
  |some k =>
   obtain ⟨h1, h2, h3⟩ := cntA_bd (T := T) E (A.set k (A.getD k 0 + 1)) s (m + 1) (by omega) (by
    intro a ha
    rcases List.mem_or_eq_of_mem_set ha with h | h
    ·have := hA a h; omega
    ·by_cases hk : k < A.length
     ·have := hA A[k] (List.getElem_mem hk)
      rw [h, List.getD_eq_getElem?_getD, List.getElem?_eq_getElem hk]
      simp only [Option.getD_some]
      omega
     ·rw [h, List.getD_eq_getElem?_getD, List.getElem?_eq_none (by omega)]
      simp only [Option.getD_none]
      omega) hE2 hs
   exact ⟨fun a ha => by have := h1 a ha; omega, h2, by simp only; omega⟩
def tknA (T : List Tube) (E : List Int) : List Int × Int := cntA T E (List.replicate T.length 0) 0
def tknT (T : List Tube) (E : List Int) : List Tube := stlT T (tknA T E).1
def tknR (T : List Tube) (E : List Int) : Int := (tknA T E).2 + stlR T (tknA T E).1
theorem zerosI (n : Nat) : List.replicate n (List.map Tr.raw [Value.int IntKind.i64 0]) = intRows (List.replicate n 0) := by
 unfold intRows
 rw [List.map_replicate]
 rfl
theorem tkn_bd {T : List Tube} {E : List Int} (hE : ∀ v ∈ E, 0 ≤ v ∧ v ≤ 20000) : (∀ a ∈ (tknA T E).1, 0 ≤ a ∧ a ≤ E.length) ∧ 0 ≤ (tknA T E).2 ∧ (tknA T E).2 ≤ 20000 * E.length := by
 obtain ⟨h1, h2, h3⟩ := cntA_bd (T := T) E (List.replicate T.length 0) 0 0 (by omega) (fun a ha => by rw [(List.mem_replicate.1 ha).2]; omega) hE (by omega)
 exact ⟨fun a ha => by have := h1 a ha; omega, h2, by show (cntA T E _ 0).2 ≤ _; omega⟩
theorem stlR_bd : ∀ {T : List Tube} {A : List Int}, (∀ d ∈ T, 1 ≤ d.val ∧ d.val ≤ 10000 ∧ 0 ≤ d.cnt ∧ d.cnt ≤ d.most ∧ d.most ≤ 1000) → (∀ a ∈ A, 0 ≤ a ∧ a ≤ 20000) → 0 ≤ stlR T A ∧ stlR T A ≤ 200000000 * T.length
 |[], A, _, _ => by unfold stlR; simp [sumF]
 |d :: T, [], _, _ => by unfold stlR; simp [sumF]; omega
 |d :: T, a :: A, hT, hA => by
  have h1 := stlR_bd (T := T) (A := A) (fun d hd => hT d (List.mem_cons_of_mem _ hd)) (fun a ha => hA a (List.mem_cons_of_mem _ ha))
  have h2 := hT d (by simp)
  have h3 := hA a (by simp)
  have h4 := mul_bd (a := a - min a (d.most - d.cnt)) (b := d.val) (A := 20000) (B := 10000) (by omega) (by omega)
  have e : stlR (d :: T) (a :: A) = stlO d a + stlR T A := by unfold stlR; rw [List.zipWith_cons_cons, sumF_cons]; rfl
  rw [e, List.length_cons]
  unfold stlO
  omega
attribute [local irreducible] intRows
theorem taken_fn {b : Nat} {aT aS aJ aE aY : Option Addr} {nT cT nS cS nJ cJ nE cE nY cY : Nat} {K : List Int} {H i o f c x r : Int} (T : List Tube) (E : List Int) (hl : T.length ≤ 10) (hnT : nT = T.length) (hnE : nE = E.length) (hT : ∀ d ∈ T, 1 ≤ d.val ∧ d.val ≤ 10000 ∧ 0 ≤ d.cnt ∧ d.cnt ≤ d.most ∧ d.most ≤ 1000) (hE : E.length ≤ 20000) (hEb : ∀ v ∈ E, 0 ≤ v ∧ v ≤ 20000) :
  Spec Tryz.prog 26 [.ptr b] [mX b aT nT cT K aS nS cS H aJ nJ cJ aE nE cE aY nY cY i o f c x r, ownT aT cT T, ownI aE cE E] (fun y cs => ∃ (ad : Option Addr) (cap : Nat), y = .tup [Tr.raw (.slice ad T.length cap), .int (tknR T E)] ∧ cs = [mX b aT nT cT K aS nS cS H aJ nJ cJ aE nE cE aY nY cY i o f c x r, ownT aT cT T, ownI aE cE E, ownT ad cap (tknT T E)]) := by
 have kT := fun v => tube_fn (b := b) (aT := aT) (nT := nT) (cT := cT) (K := K) (aS := aS) (nS := nS) (cS := cS) (H := H) (aJ := aJ) (nJ := nJ) (cJ := cJ) (aE := aE) (nE := nE) (cE := cE) (aY := aY) (nY := nY) (cY := cY) (i := i) (o := o) (f := f) (c := c) (x := x) (r := r) T v (by omega) hnT
 have hEr : (intRows E).length = nE := by rw [intRows_len, hnE]
 obtain ⟨hb1, hb2, hb3⟩ := tkn_bd (T := T) hEb
 have hAl : (tknA T E).1.length = T.length := by unfold tknA; rw [cntA_len, List.length_replicate]
 have hR := stlR_bd hT (A := (tknA T E).1) (fun a ha => by have := hb1 a ha; omega)
 have kS := fun (aA : Option Addr) (cA : Nat) => settledL_fn (aT := aT) (cT := cT) (aA := aA) (cA := cA) (nA := nT) T (tknA T E).1 hnT (by rw [hAl, hnT]) hl hAl hT (fun a ha => by have := hb1 a ha; omega)
 clear hb1
 refine Spec.body Tryz.func26 rfl rfl (Tryz.ntmps26) rfl fun w0 own0 M => ?_
 repeat' (first | refine goH ?_ | refine goV ?_ | refine goC (fun ad cap => ?_) | refine goI ?_ | (refine Cw.k_cond ?_; first | (refine Cw.cond_dec rfl ?_ ?_ <;> intro hc <;> try omega) | refine Cw.cond_bool rfl ?_ ?_ <;> intro hc) | fail)
 rw [show ((nT : Nat) : Int).toNat = nT from Int.toNat_natCast nT, zerosI]
 refine Cw.loopI [(0, _), (4, _), (20, _), (21, _)] _ (fun q e cc => ∃ (k : Nat) (s : Int) (A : List Int), q = nE - k ∧ (k ≤ nE ∧ tknA T E = cntA T (E.drop k) A s ∧ A.length = nT ∧ 0 ≤ s ∧ s ≤ 20000 * (k : Int) ∧ ∀ a ∈ A, 0 ≤ a ∧ a ≤ (k : Int)) ∧ e = [(5, .int s), (22, .int k)] ∧ cc = [ownI ad cap A])
  ⟨_, _, _, (Ent.mkP goSub goPm), 0, 0, List.replicate nT 0, rfl, ⟨by omega, by rw [List.drop_zero, hnT]; rfl, by rw [List.length_replicate], by omega, by omega, fun a ha => by rw [(List.mem_replicate.1 ha).2]; omega⟩, rfl, rfl⟩ ?_
 rintro _ _ _ ⟨k, s, A, rfl, ⟨hk, hV, hA, hs1, hs2, hAb⟩, rfl, rfl⟩
 have hAr : (intRows A).length = nT := by rw [intRows_len, hA]
 by_cases hkl : k < nE
 ·obtain ⟨v, hv⟩ := at_lt (l := E) (k := k) (by omega)
  have hrow : (intRows E)[k]? = some [.int v] := intRows_at hv
  have hvb := hEb v (List.mem_of_getElem? hv)
  rw [drop_at hv] at hV
  unfold cntA at hV
  have kv := kT v
  cases hj : tubeN T v with
  |none =>
   rw [hj] at kv hV
   unfold ixN at kv
   simp only at kv hV
   clear kT kS
   repeat' (first | refine goH ?_ | refine goV ?_ | refine goC (fun ad cap => ?_) | refine goI ?_ | (refine Cw.k_cond ?_; first | (refine Cw.cond_dec rfl ?_ ?_ <;> intro hc <;> try omega) | refine Cw.cond_bool rfl ?_ ?_ <;> intro hc) | (refine Ops.k_calla ?_; first | (refine Ops.k_callf 53 ?_; refine Ops.callS kv (Evs.cons rfl (Evs.cons rfl Evs.nil)) goPm rfl ?_)) | fail)
   exact ⟨_, _, _, (Ent.mk goSub goTk), ⟨k + 1, _, _, rfl, ⟨by omega, hV, hA, by omega, by omega, fun a ha => by have := hAb a ha; omega⟩, rfl, rfl⟩, by omega⟩
  |some j =>
   obtain ⟨_, _, _, hjl⟩ := findN_some (p := tubeP v) hj
   rw [hj] at kv hV
   unfold ixN at kv
   simp only at kv hV
   obtain ⟨a, ha⟩ := at_lt (l := A) (k := j) (by omega)
   have hab := hAb a (List.mem_of_getElem? ha)
   have hrA : (intRows A)[((j : Nat) : Int).toNat]? = some [.int a] := by rw [Int.toNat_natCast]; exact intRows_at ha
   have hg : A.getD j 0 = a := by rw [List.getD_eq_getElem?_getD, ha]; rfl
   rw [hg] at hV
   have e4 : (intRows A).set ((j : Nat) : Int).toNat [Tr.int (a + 1)] = intRows (A.set j (a + 1)) := by rw [Int.toNat_natCast]; unfold intRows; rw [List.map_set]
   have hAb2 : ∀ y ∈ A.set j (a + 1), 0 ≤ y ∧ y ≤ ((k + 1 : Nat) : Int) := by
    intro y hy
    rcases List.mem_or_eq_of_mem_set hy with h | h
    ·have := hAb y h; omega
    ·omega
   clear kT kS
   repeat' (first | refine goH ?_ | refine goV ?_ | refine goC (fun ad cap => ?_) | refine goI ?_ | (refine Cw.k_cond ?_; first | (refine Cw.cond_dec rfl ?_ ?_ <;> intro hc <;> try omega) | refine Cw.cond_bool rfl ?_ ?_ <;> intro hc) | (refine Ops.k_calla ?_; first | (refine Ops.k_callf 53 ?_; refine Ops.callS kv (Evs.cons rfl (Evs.cons rfl Evs.nil)) goPm rfl ?_)) | fail)
   erw [e4]
   exact ⟨_, _, _, (Ent.mk goSub goTk), ⟨k + 1, _, _, rfl, ⟨by omega, hV, by rw [List.length_set, hA], by omega, by omega, hAb2⟩, rfl, rfl⟩, by omega⟩
 ·rw [List.drop_of_length_le (by omega)] at hV
  have e1 : (tknA T E).1 = A := by rw [hV]; rfl
  have e2 : (tknA T E).2 = s := by rw [hV]; rfl
  unfold tknR tknT
  rw [e1] at kS hR ⊢
  rw [e2]
  have kS1 := kS ad cap
  clear kT kS hV e1 e2 hb2 hb3 hAl hT
  generalize stlR T A = R at *
  repeat' (first | refine goH ?_ | refine goV ?_ | refine goC (fun ad cap => ?_) | refine goI ?_ | (refine Cw.k_cond ?_; first | (refine Cw.cond_dec rfl ?_ ?_ <;> intro hc <;> try omega) | refine Cw.cond_bool rfl ?_ ?_ <;> intro hc) | (refine Ops.k_calla ?_; first | (refine Ops.k_callf 54 ?_; (refine Ops.call kS1 (Evs.cons rfl (Evs.cons rfl Evs.nil)) goPm rfl ?_; rintro y cs' ⟨ad2, cap2, rfl, rfl⟩))) | fail)
  exact Fin.ret (Ent.take (Take.cons goPk (Take.cons goPk (Take.cons goPk (Take.cons goPk Take.nil))))) (Outs.two rfl rfl rfl) ⟨_, _, rfl, rfl⟩
end Lg
end
section
set_option linter.all false
set_option maxRecDepth 100000
set_option maxHeartbeats 8000000
namespace Lg
open Go Go.Proofs

/-! ### machines: a slot is pressed (the program's side) -/
def zW {β : Type} (g : Tube → β → Tube) (T : List Tube) (A : List β) (k : Nat) : List Tube := (T.take k).zipWith g (A.take k) ++ T.drop k
theorem zW_zero {β : Type} (g : Tube → β → Tube) (T : List Tube) (A : List β) : zW g T A 0 = T := by unfold zW; simp
theorem zW_end {β : Type} (g : Tube → β → Tube) (T : List Tube) (A : List β) (h : A.length = T.length) : zW g T A T.length = T.zipWith g A := by unfold zW; rw [List.take_length, List.drop_length, List.append_nil, ← h, List.take_length]
theorem zW_at {β : Type} {g : Tube → β → Tube} {T : List Tube} {A : List β} {k : Nat} {d : Tube} {a : β} (hd : T[k]? = some d) (ha : A[k]? = some a) : (zW g T A k)[k]? = some d ∧ (zW g T A k).set k (g d a) = zW g T A (k + 1) := by
 have h1 := (List.getElem?_eq_some_iff.1 hd).1
 have h2 := (List.getElem?_eq_some_iff.1 ha).1
 have hl : ((T.take k).zipWith g (A.take k)).length = k := by rw [List.length_zipWith, List.length_take, List.length_take]; omega
 unfold zW
 rw [take_at hd, take_at ha, List.zipWith_append (by rw [List.length_take, List.length_take]; omega), drop_at hd]
 constructor
 ·rw [List.getElem?_append_right (by omega), hl, Nat.sub_self]
  rfl
 ·rw [List.set_append_right _ _ (by omega), hl, Nat.sub_self, List.append_assoc]
  rfl
theorem zW_len {β : Type} {g : Tube → β → Tube} {T : List Tube} {A : List β} {k : Nat} (h : A.length = T.length) (hk : k ≤ T.length) : (zW g T A k).length = T.length := by
 unfold zW
 rw [List.length_append, List.length_zipWith, List.length_take, List.length_take, List.length_drop]
 omega
def sub1 (d : Tube) (n : Int) : Tube := { d with cnt := d.cnt - n }
def subT (T : List Tube) (A : List Int) : List Tube := T.zipWith sub1 A
def coinsL (T : List Tube) (a : Nat) : List Int := gl (chg (pk nev T) T a) T.length
theorem coinsL_len (T : List Tube) (a : Nat) : (coinsL T a).length = T.length := by unfold coinsL gl; simp
theorem coinsL_bd {T : List Tube} (ho : TbOk T) {a k : Nat} {n : Int} {d : Tube} (hn : (coinsL T a)[k]? = some n) (hd : T[k]? = some d) : 0 ≤ n ∧ n ≤ d.cnt := by
 have hk := (List.getElem?_eq_some_iff.1 hd).1
 unfold coinsL at hn
 rw [gl_get hk] at hn
 have e : n = chg (pk nev T) T a k := (Option.some.inj hn).symm
 have h1 : pk nev T k (leftK (pk nev T) T a (k + 1)) ≤ mostOf T k (leftK (pk nev T) T a (k + 1)) := by unfold pk; exact lastOk_le _ _
 have h2 : mostOf T k (leftK (pk nev T) T a (k + 1)) ≤ tc T k := by unfold mostOf; omega
 have h3 : (tc T k : Int) = d.cnt := by
  have := ho.cnt d (List.mem_of_getElem? hd)
  unfold tc
  rw [tAt_eq hd]
  omega
 rw [e]
 unfold chg
 omega
theorem tkn_ok {T : List Tube} {E : List Int} (ho : TbOk T) (hE : ∀ v ∈ E, 0 ≤ v ∧ v ≤ 20000) : TbOk (tknT T E) := by
 obtain ⟨hb1, _, _⟩ := tkn_bd (T := T) hE
 have hAl : (tknA T E).1.length = T.length := by unfold tknA; rw [cntA_len, List.length_replicate]
 have hm : ∀ d ∈ tknT T E, ∃ d0 ∈ T, ∃ a, 0 ≤ a ∧ d = stl1 d0 a := by
  intro d hd
  unfold tknT stlT at hd
  obtain ⟨j, hj⟩ := List.getElem?_of_mem hd
  rw [List.getElem?_zipWith] at hj
  cases h1 : T[j]? with
  |none => rw [h1] at hj; simp at hj
  |some d0 =>
   cases h2 : (tknA T E).1[j]? with
   |none => rw [h1, h2] at hj; simp at hj
   |some a =>
    rw [h1, h2] at hj
    exact ⟨d0, List.mem_of_getElem? h1, a, (hb1 a (List.mem_of_getElem? h2)).1, (Option.some.inj hj).symm⟩
 refine ⟨by unfold tknT; rw [stlT_len _ _ hAl]; exact ho.len, ?_, ?_⟩
 ·intro d hd
  obtain ⟨d0, h0, a, _, rfl⟩ := hm d hd
  exact ho.val d0 h0
 ·intro d hd
  obtain ⟨d0, h0, a, ha, rfl⟩ := hm d hd
  have := ho.cnt d0 h0
  unfold stl1
  simp only
  omega
theorem paidL_yes {ad : Option Addr} {n cap : Nat} (T : List Tube) (ho : TbOk T) (hn : n = T.length) (a : Nat) (ha : a ≤ 20000) (hy : payK nev T T.length a < nev) :
  Spec Tryz.prog 27 [Tr.raw (.slice ad n cap), .int a] [ownT ad cap T] (fun r cs => r = .tup [.ints (coinsL T a), .bool true] ∧ cs = [ownT ad cap T]) := by
 have k1 := Spec.lend (E := 27) (ad := ad) (cap := cap) (n := n) (pre := []) (suf := [.int a]) (paidO_yes T ho a ha hy) (by rw [List.length_map, hn]) (by
  rintro r cs ⟨ad, cap, rfl, rfl⟩
  refine ⟨FreeT.tup (.cons FreeT.raw (.cons FreeT.raw .nil)), fun c hc => ?_⟩
  rw [List.mem_singleton.1 hc]
  exact FreeC.own (FreeL.intRows _))
 refine Spec.settle2 (n := T.length) (E := 3) (L := [ownT ad cap T]) (k1.mono ?_) (by rw [intRows_len, coinsL_len])
 rintro r cs ⟨cs0, rfl, ad2, cap2, rfl, rfl⟩
 exact ⟨_, _, rfl, rfl⟩
theorem paidL_no {ad : Option Addr} {n cap : Nat} (T : List Tube) (ho : TbOk T) (hn : n = T.length) (a : Nat) (ha : a ≤ 20000) (hy : ¬ payK nev T T.length a < nev) :
  Spec Tryz.prog 27 [Tr.raw (.slice ad n cap), .int a] [ownT ad cap T] (fun r cs => r = .tup [Tr.raw (.slice none 0 0), .bool false] ∧ cs = [ownT ad cap T]) := by
 have k1 := Spec.lend (E := 27) (ad := ad) (cap := cap) (n := n) (pre := []) (suf := [.int a]) (paidO_no T ho a ha hy) (by rw [List.length_map, hn]) (by
  rintro r cs ⟨rfl, rfl⟩
  exact ⟨FreeT.tup (.cons FreeT.raw (.cons FreeT.raw .nil)), by simp⟩)
 refine k1.mono ?_
 rintro r cs ⟨cs0, rfl, rfl, rfl⟩
 exact ⟨rfl, rfl⟩
def prsE (S : List SlotM) (J : List Bool) (n : Option Nat) (T : List Tube) (E : List Int) (cr : Int) : Int := match n with
 |none => 8
 |some k => if J.getD k false = true ∨ (tAtS S k).cnt = 0 then 11 else if cr < (tAtS S k).price then 16 else if payK nev (tknT T E) (tknT T E).length (cr - (tAtS S k).price).toNat < nev then 0 else 13
theorem impSale : ImpL (List.map Tr.raw [.string ByteArray.empty, .int .i64 0, .slice none 0 0]) [.str ByteArray.empty, .int 0, .ints []] := .cons Imp.refl (.cons Imp.refl (.cons Imp.nil .nil))
attribute [local irreducible] intRows tknT tknR coinsL
theorem press_bad {b : Nat} {aT aS aJ aE aY : Option Addr} {nT cT nS cS nJ cJ nE cE nY cY : Nat} {K : List Int} {H i o f c x r : Int} (T : List Tube) (S : List SlotM) (J : List Bool) (E : List Int) (key : ByteArray) (ho : TbOk T) (hnT : nT = T.length) (hnS : nS = S.length) (hnJ : nJ = J.length) (hnE : nE = E.length) (hl : S.length ≤ 1000) (hSJ : J.length = S.length)
  (hE : E.length ≤ 20000) (hEb : ∀ v ∈ E, 0 ≤ v ∧ v ≤ 20000) (hS : ∀ x ∈ S, 1 ≤ x.price ∧ x.price ≤ 20000) (hr : 0 ≤ r ∧ r ≤ 20000) (hbad : prsE S J (slotN S key) T E r ≠ 0) :
  Spec Tryz.prog 10 [.ptr b, .str key] [mX b aT nT cT K aS nS cS H aJ nJ cJ aE nE cE aY nY cY i o f c x r, ownT aT cT T, ownS aS cS S, ownJ aJ cJ J, ownI aE cE E] (fun y cs => y = .tup [.agg [.str ByteArray.empty, .int 0, .ints []], .int (prsE S J (slotN S key) T E r)] ∧ cs = [mX b aT nT cT K aS nS cS H aJ nJ cJ aE nE cE aY nY cY i o f c x r, ownT aT cT T, ownS aS cS S, ownJ aJ cJ J, ownI aE cE E]) := by
 have kS := slot_fn (b := b) (aT := aT) (nT := nT) (cT := cT) (K := K) (aS := aS) (nS := nS) (cS := cS) (H := H) (aJ := aJ) (nJ := nJ) (cJ := cJ) (aE := aE) (nE := nE) (cE := cE) (aY := aY) (nY := nY) (cY := cY) (i := i) (o := o) (f := f) (c := c) (x := x) (r := r) S key hl hnS
 have hSr : (S.map SlotM.row).length = nS := by rw [List.length_map, hnS]
 have hJr : (boolRows J).length = nJ := by rw [boolRows_len, hnJ]
 have kT := taken_fn (b := b) (aT := aT) (nT := nT) (cT := cT) (K := K) (aS := aS) (nS := nS) (cS := cS) (H := H) (aJ := aJ) (nJ := nJ) (cJ := cJ) (aE := aE) (nE := nE) (cE := cE) (aY := aY) (nY := nY) (cY := cY) (i := i) (o := o) (f := f) (c := c) (x := x) (r := r) T E ho.len hnT hnE (fun d hd => ⟨(ho.val d hd).1, (ho.val d hd).2, ho.cnt d hd⟩) hE hEb
 have hok := tkn_ok ho hEb
 have hTl : (tknT T E).length = T.length := by
  have hAl : (tknA T E).1.length = T.length := by unfold tknA; rw [cntA_len, List.length_replicate]
  unfold tknT
  exact stlT_len _ _ hAl
 cases hk : slotN S key with
 |none =>
  rw [hk] at kS
  unfold ixN at kS
  simp only at kS
  unfold prsE
  clear kT hok hbad
  refine Spec.body Tryz.func10 rfl rfl (Tryz.ntmps10) rfl fun w0 own0 M => ?_
  repeat' (first | refine goH ?_ | refine goV ?_ | refine goB (fun b => ?_) | refine goG ?_ | (refine Ops.k_guard ?_; first | (refine Ops.guard_dec rfl rfl ?_ ?_ <;> intro hc <;> try omega) | refine Ops.guard_split rfl rfl ?_ ?_ <;> intro hc) | refine goI ?_ | (refine Cw.k_cond ?_; first | (refine Cw.cond_dec rfl ?_ ?_ <;> intro hc <;> try omega) | refine Cw.cond_bool rfl ?_ ?_ <;> intro hc) | (refine Ops.k_calla ?_; first | (refine Ops.k_callf 25 ?_; refine Ops.callS kS (Evs.cons rfl (Evs.cons rfl Evs.nil)) goPm rfl ?_)) | (apply OpW.k_call; first | (apply OpW.k_callf 25; exact OpW.callS kS (Evs.cons rfl (Evs.cons rfl Evs.nil)) goPm)) | refine goR ?_ | refine goP ?_ | apply PSeq.cons | apply PSeq.yes rfl rfl rfl | exact goW | fail)
  exact Fin.ret (Ent.trans (Ent.imp_box goPk impSale) (Ent.trans (Ent.setbox (s := 4) rfl goPk) (Ent.take (Take.cons goPk (Take.cons goPk (Take.cons goPk (Take.cons goPk (Take.cons goPk Take.nil)))))))) (Outs.many rfl (OutL.cons goOe (OutL.cons goOe OutL.nil)) rfl) ⟨rfl, rfl⟩
 |some k =>
  obtain ⟨d, hd, _, hkl⟩ := findN_some (p := slotP key) hk
  rw [hk] at kS hbad
  unfold ixN at kS
  simp only at kS
  have hp := hS d (List.mem_of_getElem? hd)
  obtain ⟨v, hv⟩ := at_lt (l := J) (k := k) (by omega)
  have hrowJ : (boolRows J)[((k : Nat) : Int).toNat]? = some [Tr.bool v] := by rw [Int.toNat_natCast]; exact boolRows_at hv
  have hg : J.getD k false = v := by rw [List.getD_eq_getElem?_getD, hv]; rfl
  have hrow : (S.map SlotM.row)[((k : Nat) : Int).toNat]? = some [.str d.key, .str d.prod, .int d.price, .int d.most, .int d.cnt] := by rw [Int.toNat_natCast]; exact rows_at hd
  have hAt := tAtS_eq hd
  by_cases h1 : v = true ∨ d.cnt = 0
  ·have hO : prsE S J (some k) T E r = 11 := by unfold prsE; simp only; rw [if_pos (by rw [hg, hAt]; exact h1)]
   rw [hO]
   clear kT hok hbad hO
   refine Spec.body Tryz.func10 rfl rfl (Tryz.ntmps10) rfl fun w0 own0 M => ?_
   cases v with
   |true =>
    repeat' (first | refine goH ?_ | refine goV ?_ | refine goB (fun b => ?_) | (refine Ops.k_nilCheck ?_; first | refine Ops.nilCheck_eptr rfl rfl ?_) | refine goG ?_ | (refine Ops.k_guard ?_; first | (refine Ops.guard_dec rfl rfl ?_ ?_ <;> intro hc <;> try omega) | refine Ops.guard_split rfl rfl ?_ ?_ <;> intro hc) | refine goI ?_ | (refine Cw.k_cond ?_; first | (refine Cw.cond_dec rfl ?_ ?_ <;> intro hc <;> try omega) | refine Cw.cond_bool rfl ?_ ?_ <;> intro hc) | exact OpV.w (OpV.nilCheck_eptr rfl) | (refine Ops.k_calla ?_; first | (refine Ops.k_callf 25 ?_; refine Ops.callS kS (Evs.cons rfl (Evs.cons rfl Evs.nil)) goPm rfl ?_)) | (apply OpW.k_call; first | (apply OpW.k_callf 25; exact OpW.callS kS (Evs.cons rfl (Evs.cons rfl Evs.nil)) goPm)) | refine goR ?_ | refine goP ?_ | apply PSeq.cons | apply PSeq.yes rfl rfl rfl | exact goW | fail)
    exact Fin.ret (Ent.trans (Ent.imp_box goPk impSale) (Ent.trans (Ent.setbox (s := 4) rfl goPk) (Ent.take (Take.cons goPk (Take.cons goPk (Take.cons goPk (Take.cons goPk (Take.cons goPk Take.nil)))))))) (Outs.many rfl (OutL.cons goOe (OutL.cons goOe OutL.nil)) rfl) ⟨rfl, rfl⟩
   |false =>
    have h1' : d.cnt = 0 := by simpa using h1
    repeat' (first | refine goH ?_ | refine goV ?_ | refine goB (fun b => ?_) | (refine Ops.k_nilCheck ?_; first | refine Ops.nilCheck_eptr rfl rfl ?_) | refine goG ?_ | (refine Ops.k_guard ?_; first | (refine Ops.guard_dec rfl rfl ?_ ?_ <;> intro hc <;> try omega) | refine Ops.guard_split rfl rfl ?_ ?_ <;> intro hc) | refine goI ?_ | (refine Cw.k_cond ?_; first | (refine Cw.cond_dec rfl ?_ ?_ <;> intro hc <;> try omega) | refine Cw.cond_bool rfl ?_ ?_ <;> intro hc) | exact OpV.w (OpV.nilCheck_eptr rfl) | (refine Ops.k_calla ?_; first | (refine Ops.k_callf 25 ?_; refine Ops.callS kS (Evs.cons rfl (Evs.cons rfl Evs.nil)) goPm rfl ?_)) | (apply OpW.k_call; first | (apply OpW.k_callf 25; exact OpW.callS kS (Evs.cons rfl (Evs.cons rfl Evs.nil)) goPm)) | refine goR ?_ | refine goP ?_ | apply PSeq.cons | apply PSeq.yes rfl rfl rfl | exact goW | fail)
    exact Fin.ret (Ent.trans (Ent.imp_box goPk impSale) (Ent.trans (Ent.setbox (s := 4) rfl goPk) (Ent.take (Take.cons goPk (Take.cons goPk (Take.cons goPk (Take.cons goPk (Take.cons goPk Take.nil)))))))) (Outs.many rfl (OutL.cons goOe (OutL.cons goOe OutL.nil)) rfl) ⟨rfl, rfl⟩
  obtain ⟨h1a, h1b⟩ := not_or.1 h1
  have hvf : v = false := by simpa using h1a
  subst hvf
  by_cases h2 : r < d.price
  ·have hO : prsE S J (some k) T E r = 16 := by unfold prsE; simp only; rw [if_neg (by rw [hg, hAt]; exact h1), hAt, if_pos h2]
   rw [hO]
   clear kT hok hbad hO
   refine Spec.body Tryz.func10 rfl rfl (Tryz.ntmps10) rfl fun w0 own0 M => ?_
   repeat' (first | refine goH ?_ | refine goV ?_ | refine goB (fun b => ?_) | (refine Ops.k_nilCheck ?_; first | refine Ops.nilCheck_eptr rfl rfl ?_) | refine goG ?_ | (refine Ops.k_guard ?_; first | (refine Ops.guard_dec rfl rfl ?_ ?_ <;> intro hc <;> try omega) | refine Ops.guard_split rfl rfl ?_ ?_ <;> intro hc) | refine goI ?_ | (refine Cw.k_cond ?_; first | (refine Cw.cond_dec rfl ?_ ?_ <;> intro hc <;> try omega) | refine Cw.cond_bool rfl ?_ ?_ <;> intro hc) | exact OpV.w (OpV.nilCheck_eptr rfl) | (refine Ops.k_calla ?_; first | (refine Ops.k_callf 25 ?_; refine Ops.callS kS (Evs.cons rfl (Evs.cons rfl Evs.nil)) goPm rfl ?_)) | (apply OpW.k_call; first | (apply OpW.k_callf 25; exact OpW.callS kS (Evs.cons rfl (Evs.cons rfl Evs.nil)) goPm)) | refine goR ?_ | refine goP ?_ | apply PSeq.cons | apply PSeq.yes rfl rfl rfl | exact goW | fail)
   exact Fin.ret (Ent.trans (Ent.imp_box goPk impSale) (Ent.trans (Ent.setbox (s := 4) rfl goPk) (Ent.take (Take.cons goPk (Take.cons goPk (Take.cons goPk (Take.cons goPk (Take.cons goPk Take.nil)))))))) (Outs.many rfl (OutL.cons goOe (OutL.cons goOe OutL.nil)) rfl) ⟨rfl, rfl⟩
  have hno : ¬ payK nev (tknT T E) (tknT T E).length (r - d.price).toNat < nev := fun h => hbad (by unfold prsE; simp only; rw [if_neg (by rw [hg, hAt]; exact h1), hAt, if_neg h2, if_pos h])
  have hO : prsE S J (some k) T E r = 13 := by unfold prsE; simp only; rw [if_neg (by rw [hg, hAt]; exact h1), hAt, if_neg h2, if_neg hno]
  rw [hO]
  have kP := fun (ad : Option Addr) (cap : Nat) => paidL_no (ad := ad) (cap := cap) (n := T.length) (tknT T E) hok hTl.symm (r - d.price).toNat (by omega) hno
  rw [Int.toNat_of_nonneg (by omega)] at kP
  clear hok hbad hO hno
  refine Spec.body Tryz.func10 rfl rfl (Tryz.ntmps10) rfl fun w0 own0 M => ?_
  repeat' (first | refine goH ?_ | refine goV ?_ | refine goB (fun b => ?_) | (refine Ops.k_nilCheck ?_; first | refine Ops.nilCheck_eptr rfl rfl ?_) | refine goG ?_ | (refine Ops.k_guard ?_; first | (refine Ops.guard_dec rfl rfl ?_ ?_ <;> intro hc <;> try omega) | refine Ops.guard_split rfl rfl ?_ ?_ <;> intro hc) | refine goI ?_ | (refine Cw.k_cond ?_; first | (refine Cw.cond_dec rfl ?_ ?_ <;> intro hc <;> try omega) | refine Cw.cond_bool rfl ?_ ?_ <;> intro hc) | exact OpV.w (OpV.nilCheck_eptr rfl) | (refine Ops.k_calla ?_; first | (refine Ops.k_callf 25 ?_; refine Ops.callS kS (Evs.cons rfl (Evs.cons rfl Evs.nil)) goPm rfl ?_) | (refine Ops.k_callf 26 ?_; (refine Ops.call kT (Evs.cons rfl Evs.nil) goPm rfl ?_; rintro y cs' ⟨ad2, cap2, rfl, rfl⟩)) | (refine Ops.k_callf 27 ?_; (refine Ops.call (kP _ _) (Evs.cons rfl (Evs.cons rfl Evs.nil)) goPm rfl ?_; rintro y cs' ⟨rfl, rfl⟩))) | (apply OpW.k_call; first | (apply OpW.k_callf 25; exact OpW.callS kS (Evs.cons rfl (Evs.cons rfl Evs.nil)) goPm)) | refine goR ?_ | refine goP ?_ | apply PSeq.cons | apply PSeq.yes rfl rfl rfl | exact goW | fail)
  exact Fin.ret (Ent.trans (Ent.imp_box goPk impSale) (Ent.trans (Ent.setbox (s := 4) rfl goPk) (Ent.take (Take.cons goPk (Take.cons goPk (Take.cons goPk (Take.cons goPk (Take.cons goPk Take.nil)))))))) (Outs.many rfl (OutL.cons goOe (OutL.cons goOe OutL.nil)) rfl) ⟨rfl, rfl⟩
end Lg
end
section
set_option linter.all false
set_option maxRecDepth 100000
set_option maxHeartbeats 8000000
namespace Lg
open Go Go.Proofs

theorem tknR_bd {T : List Tube} {E : List Int} (ho : TbOk T) (hE : ∀ v ∈ E, 0 ≤ v ∧ v ≤ 20000) (hl : E.length ≤ 20000) : 0 ≤ tknR T E ∧ tknR T E ≤ 3000000000 := by
 obtain ⟨hb1, hb2, hb3⟩ := tkn_bd (T := T) hE
 have hR := stlR_bd (T := T) (A := (tknA T E).1) (fun d hd => ⟨(ho.val d hd).1, (ho.val d hd).2, ho.cnt d hd⟩) (fun a ha => by have := hb1 a ha; omega)
 have := ho.len
 unfold tknR
 omega
attribute [local irreducible] intRows tknT tknR coinsL subT
theorem tallyRow_set (Y : List Tally) (k : Nat) (d : Tally) : (Y.map Tally.row).set k [.str d.key, .int d.many, .int d.val] = (Y.set k d).map Tally.row := by rw [List.map_set]; rfl
theorem press_ok {b : Nat} {aT aS aJ aE aY : Option Addr} {nT cT nS cS nJ cJ nE cE nY cY : Nat} {K : List Int} {H i o f c x r : Int} (T : List Tube) (S : List SlotM) (J : List Bool) (E : List Int) (Y : List Tally) (key : ByteArray) (k : Nat) (d : SlotM) (y : Tally) (ho : TbOk T) (hnT : nT = T.length) (hnS : nS = S.length) (hnJ : nJ = J.length) (hnE : nE = E.length) (hnY : nY = Y.length) (hl : S.length ≤ 1000) (hSJ : J.length = S.length) (hSY : Y.length = S.length)
  (hE : E.length ≤ 20000) (hEb : ∀ v ∈ E, 0 ≤ v ∧ v ≤ 20000) (hS : ∀ x ∈ S, 1 ≤ x.price ∧ x.price ≤ 20000 ∧ 0 ≤ x.cnt ∧ x.cnt ≤ 1000) (hr : 0 ≤ r ∧ r ≤ 20000) (hi : 0 ≤ i ∧ i ≤ 1000000000000) (hoo : 0 ≤ o ∧ o ≤ 1000000000000) (hx : 0 ≤ x ∧ x ≤ 1000000000000)
  (hk : slotN S key = some k) (hd : S[k]? = some d) (hy : Y[k]? = some y) (hyb : 0 ≤ y.many ∧ y.many ≤ 1000000000000 ∧ 0 ≤ y.val ∧ y.val ≤ 1000000000000) (hok0 : prsE S J (some k) T E r = 0) :
  Spec Tryz.prog 10 [.ptr b, .str key] [mX b aT nT cT K aS nS cS H aJ nJ cJ aE nE cE aY nY cY i o f c x r, ownT aT cT T, ownS aS cS S, ownJ aJ cJ J, ownI aE cE E, ownY aY cY Y] (fun z cs => z = .tup [.agg [.str d.prod, .int d.price, .ints (coinsL (tknT T E) (r - d.price).toNat)], .int 0] ∧
   ∃ (aT' : Option Addr) (cT' : Nat), cs = [mX b aT' T.length cT' K aS nS cS H aJ nJ cJ none 0 0 aY nY cY (i + r) (o + (r - d.price)) f c (x + tknR T E) 0, ownT aT' cT' (subT (tknT T E) (coinsL (tknT T E) (r - d.price).toNat)), ownS aS cS (S.set k { d with cnt := d.cnt - 1 }), ownJ aJ cJ J, ownY aY cY (Y.set k { y with many := y.many + 1, val := y.val + d.price })]) := by
 have kS := slot_fn (b := b) (aT := aT) (nT := nT) (cT := cT) (K := K) (aS := aS) (nS := nS) (cS := cS) (H := H) (aJ := aJ) (nJ := nJ) (cJ := cJ) (aE := aE) (nE := nE) (cE := cE) (aY := aY) (nY := nY) (cY := cY) (i := i) (o := o) (f := f) (c := c) (x := x) (r := r) S key hl hnS
 have hSr : (S.map SlotM.row).length = nS := by rw [List.length_map, hnS]
 have hJr : (boolRows J).length = nJ := by rw [boolRows_len, hnJ]
 have hYr : (Y.map Tally.row).length = nY := by rw [List.length_map, hnY]
 have kT := taken_fn (b := b) (aT := aT) (nT := nT) (cT := cT) (K := K) (aS := aS) (nS := nS) (cS := cS) (H := H) (aJ := aJ) (nJ := nJ) (cJ := cJ) (aE := aE) (nE := nE) (cE := cE) (aY := aY) (nY := nY) (cY := cY) (i := i) (o := o) (f := f) (c := c) (x := x) (r := r) T E ho.len hnT hnE (fun d hd => ⟨(ho.val d hd).1, (ho.val d hd).2, ho.cnt d hd⟩) hE hEb
 have hok := tkn_ok ho hEb
 have hTl : (tknT T E).length = T.length := by
  have hAl : (tknA T E).1.length = T.length := by unfold tknA; rw [cntA_len, List.length_replicate]
  unfold tknT
  exact stlT_len _ _ hAl
 have hRb := tknR_bd ho hEb hE
 have hTlen := ho.len
 rw [hk] at kS
 unfold ixN at kS
 simp only at kS
 have hp := hS d (List.mem_of_getElem? hd)
 have hkl := (List.getElem?_eq_some_iff.1 hd).1
 obtain ⟨v, hv⟩ := at_lt (l := J) (k := k) (by omega)
 have hrowJ : (boolRows J)[((k : Nat) : Int).toNat]? = some [Tr.bool v] := by rw [Int.toNat_natCast]; exact boolRows_at hv
 have hg : J.getD k false = v := by rw [List.getD_eq_getElem?_getD, hv]; rfl
 have hrow : (S.map SlotM.row)[((k : Nat) : Int).toNat]? = some [.str d.key, .str d.prod, .int d.price, .int d.most, .int d.cnt] := by rw [Int.toNat_natCast]; exact rows_at hd
 have hrowY : (Y.map Tally.row)[((k : Nat) : Int).toNat]? = some [.str y.key, .int y.many, .int y.val] := by rw [Int.toNat_natCast]; exact rows_at hy
 have hAt := tAtS_eq hd
 unfold prsE at hok0
 simp only at hok0
 rw [hg, hAt] at hok0
 by_cases h1 : v = true ∨ d.cnt = 0
 ·rw [if_pos h1] at hok0; exact absurd hok0 (by decide)
 rw [if_neg h1] at hok0
 by_cases h2 : r < d.price
 ·rw [if_pos h2] at hok0; exact absurd hok0 (by decide)
 rw [if_neg h2] at hok0
 by_cases hyes : payK nev (tknT T E) (tknT T E).length (r - d.price).toNat < nev
 rotate_left
 ·rw [if_neg hyes] at hok0; exact absurd hok0 (by decide)
 obtain ⟨h1a, h1b⟩ := not_or.1 h1
 have hvf : v = false := by simpa using h1a
 subst hvf
 have kP := fun (ad : Option Addr) (cap : Nat) => paidL_yes (ad := ad) (cap := cap) (n := T.length) (tknT T E) hok hTl.symm (r - d.price).toNat (by omega) hyes
 have hCl := coinsL_len (tknT T E) (r - d.price).toNat
 have hCb := fun (k : Nat) (n : Int) (d2 : Tube) => coinsL_bd hok (a := (r - d.price).toNat) (k := k) (n := n) (d := d2)
 rw [Int.toNat_of_nonneg (by omega)] at kP
 have hcn := hok.cnt
 obtain ⟨Y2, hY2⟩ : ∃ Y2, Y2 = Y.set k { y with many := y.many + 1 } := ⟨_, rfl⟩
 obtain ⟨Y3, hY3⟩ : ∃ Y3, Y3 = Y.set k { y with many := y.many + 1, val := y.val + d.price } := ⟨_, rfl⟩
 obtain ⟨S2, hS2⟩ : ∃ S2, S2 = S.set k { d with cnt := d.cnt - 1 } := ⟨_, rfl⟩
 rw [← hY3, ← hS2]
 have eY1 : (Y.map Tally.row).set ((k : Nat) : Int).toNat ([Tr.str y.key, Tr.int y.many, Tr.int y.val].set (0 + 1) (Tr.int (y.many + 1))) = Y2.map Tally.row := by rw [Int.toNat_natCast, hY2]; exact tallyRow_set Y k { y with many := y.many + 1 }
 have hYr2 : (Y2.map Tally.row).length = nY := by rw [List.length_map, hY2, List.length_set, hnY]
 have hrowY2 : (Y2.map Tally.row)[((k : Nat) : Int).toNat]? = some [.str y.key, .int (y.many + 1), .int y.val] := by rw [Int.toNat_natCast, hY2]; exact rows_at (f := Tally.row) (x := { y with many := y.many + 1 }) (by rw [List.getElem?_set_self (by omega)])
 have eY2 : (Y2.map Tally.row).set ((k : Nat) : Int).toNat ([Tr.str y.key, Tr.int (y.many + 1), Tr.int y.val].set (0 + 2) (Tr.int (y.val + d.price))) = Y3.map Tally.row := by
  rw [Int.toNat_natCast, hY2, hY3]
  refine (tallyRow_set _ k { y with many := y.many + 1, val := y.val + d.price }).trans ?_
  rw [List.set_set]
 have eS : (S.map SlotM.row).set ((k : Nat) : Int).toNat ([Tr.str d.key, Tr.str d.prod, Tr.int d.price, Tr.int d.most, Tr.int d.cnt].set (0 + 4) (Tr.int (d.cnt - 1))) = S2.map SlotM.row := by rw [Int.toNat_natCast, hS2]; exact slotRow_set S k { d with cnt := d.cnt - 1 }
 have hSr2 : (S2.map SlotM.row).length = nS := by rw [List.length_map, hS2, List.length_set, hnS]
 have hrowS2 : (S2.map SlotM.row)[((k : Nat) : Int).toNat]? = some [.str d.key, .str d.prod, .int d.price, .int d.most, .int (d.cnt - 1)] := by rw [Int.toNat_natCast, hS2]; exact rows_at (f := SlotM.row) (x := { d with cnt := d.cnt - 1 }) (by rw [List.getElem?_set_self (by omega)])
 clear hY2 hY3 hS2
 clear hok hok0 hyes hS hEb hg hAt hv hd hy
 generalize tknT T E = W at *
 generalize tknR T E = Rs at *
 obtain ⟨C, hC⟩ : ∃ C, C = coinsL W (r - d.price).toNat := ⟨_, rfl⟩
 rw [← hC] at kP hCl hCb ⊢
 clear hC
 have hCr : (intRows C).length = T.length := by rw [intRows_len, hCl, hTl]
 refine Spec.body Tryz.func10 rfl rfl (Tryz.ntmps10) rfl fun w0 own0 M => ?_
 repeat' (first | refine goH ?_ | refine goV ?_ | refine goB (fun b => ?_) | (refine Ops.k_nilCheck ?_; first | refine Ops.nilCheck_eptr rfl rfl ?_) | refine goG ?_ | (refine Ops.k_guard ?_; first | (refine Ops.guard_dec rfl rfl ?_ ?_ <;> intro hc <;> try omega) | refine Ops.guard_split rfl rfl ?_ ?_ <;> intro hc) | refine goI ?_ | (refine Cw.k_cond ?_; first | (refine Cw.cond_dec rfl ?_ ?_ <;> intro hc <;> try omega) | refine Cw.cond_bool rfl ?_ ?_ <;> intro hc) | exact OpV.w (OpV.nilCheck_eptr rfl) | (refine Ops.k_calla ?_; first | (refine Ops.k_callf 25 ?_; refine Ops.callS kS (Evs.cons rfl (Evs.cons rfl Evs.nil)) goPm rfl ?_) | (refine Ops.k_callf 26 ?_; (refine Ops.call kT (Evs.cons rfl Evs.nil) goPm rfl ?_; rintro z cs' ⟨ad2, cap2, rfl, rfl⟩)) | (refine Ops.k_callf 27 ?_; (refine Ops.call (kP _ _) (Evs.cons rfl (Evs.cons rfl Evs.nil)) goPm rfl ?_; rintro z cs' ⟨rfl, rfl⟩))) | (apply OpW.k_call; first | (apply OpW.k_callf 25; exact OpW.callS kS (Evs.cons rfl (Evs.cons rfl Evs.nil)) goPm)) | refine goR ?_ | refine goP ?_ | apply PSeq.cons | apply PSeq.yes rfl rfl rfl | exact goW | fail)
 refine Cw.loopI [(0, _), (4, _), (6, _), (7, _), (8, _), (9, _), (10, _), (11, _), (77, _), (78, _)] _ (fun q e cc => ∃ (j : Nat) (V : List Tube), q = T.length - j ∧ (j ≤ T.length ∧ V = zW sub1 W C j) ∧ e = [(79, .int j)] ∧ cc = [ownT ad2 cap2 V])
  ⟨_, _, _, (Ent.mkP goSub goPm), 0, W, rfl, ⟨by omega, (zW_zero _ _ _).symm⟩, rfl, rfl⟩ ?_
 rintro _ _ _ ⟨j, V, rfl, ⟨hj, hV⟩, rfl, rfl⟩
 have hVl : V.length = T.length := by rw [hV, zW_len (by omega) (by omega), hTl]
 have hVr : (V.map Tube.row).length = T.length := by rw [List.length_map, hVl]
 by_cases hjl : j < T.length
 ·obtain ⟨t, ht⟩ := at_lt (l := W) (k := j) (by omega)
  obtain ⟨n, hn⟩ := at_lt (l := C) (k := j) (by omega)
  obtain ⟨hw1, hw2⟩ := zW_at (g := sub1) ht hn
  rw [← hV] at hw1 hw2
  have hb := hCb j n t hn ht
  have hb2 := hcn t (List.mem_of_getElem? ht)
  have hrT : (V.map Tube.row)[((j : Nat) : Int).toNat]? = some [.int t.val, .int t.cnt, .int t.most] := by rw [Int.toNat_natCast]; exact rows_at hw1
  have hrC : (intRows C)[j]? = some [.int n] := intRows_at hn
  have e4 : (V.map Tube.row).set ((j : Nat) : Int).toNat [.int t.val, .int (t.cnt - n), .int t.most] = (V.set j (sub1 t n)).map Tube.row := by rw [Int.toNat_natCast]; exact tubeRow_set V j (sub1 t n)
  clear hCb hcn hw1 ht hn hV
  repeat' (first | refine goH ?_ | refine goV ?_ | refine goB (fun b => ?_) | refine goG ?_ | (refine Ops.k_guard ?_; first | (refine Ops.guard_dec rfl rfl ?_ ?_ <;> intro hc <;> try omega) | refine Ops.guard_split rfl rfl ?_ ?_ <;> intro hc) | refine goI ?_ | (refine Cw.k_cond ?_; first | (refine Cw.cond_dec rfl ?_ ?_ <;> intro hc <;> try omega) | refine Cw.cond_bool rfl ?_ ?_ <;> intro hc) | refine goR ?_ | refine goP ?_ | apply PSeq.cons | apply PSeq.yes rfl rfl rfl | exact goW | fail)
  erw [e4]
  exact ⟨_, _, _, (Ent.mk goSub goTk), ⟨j + 1, _, rfl, ⟨by omega, hw2⟩, rfl, rfl⟩, by omega⟩
 ·have hje : j = W.length := by omega
  rw [hje, zW_end _ _ _ hCl] at hV
  have hV2 : V = subT W C := by unfold subT; exact hV
  clear hCb hcn hV
  subst hV2
  clear hjl
  generalize subT W C = W2 at *
  repeat' (first | refine goH ?_ | refine goV ?_ | refine goB (fun b => ?_) | (refine Ops.k_nilCheck ?_; first | refine Ops.nilCheck_eptr rfl rfl ?_) | refine goG ?_ | (refine Ops.k_guard ?_; first | (refine Ops.guard_dec rfl rfl ?_ ?_ <;> intro hc <;> try omega) | refine Ops.guard_split rfl rfl ?_ ?_ <;> intro hc) | refine goI ?_ | (refine Cw.k_cond ?_; first | (refine Cw.cond_dec rfl ?_ ?_ <;> intro hc <;> try omega) | refine Cw.cond_bool rfl ?_ ?_ <;> intro hc) | fail)
  refine goR ?_
  repeat' (first | refine goH ?_ | refine goV ?_ | refine goB (fun b => ?_) | refine goG ?_ | (refine Ops.k_guard ?_; first | (refine Ops.guard_dec rfl rfl ?_ ?_ <;> intro hc <;> try omega) | refine Ops.guard_split rfl rfl ?_ ?_ <;> intro hc) | refine goI ?_ | (refine Cw.k_cond ?_; first | (refine Cw.cond_dec rfl ?_ ?_ <;> intro hc <;> try omega) | refine Cw.cond_bool rfl ?_ ?_ <;> intro hc) | refine goP ?_ | apply PSeq.cons | apply PSeq.yes rfl rfl rfl | exact goW | fail)
  repeat' (first | refine goH ?_ | refine goV ?_ | refine goB (fun b => ?_) | refine goG ?_ | (refine Ops.k_guard ?_; first | (refine Ops.guard_dec rfl rfl ?_ ?_ <;> intro hc <;> try omega) | refine Ops.guard_split rfl rfl ?_ ?_ <;> intro hc) | refine goI ?_ | (refine Cw.k_cond ?_; first | (refine Cw.cond_dec rfl ?_ ?_ <;> intro hc <;> try omega) | refine Cw.cond_bool rfl ?_ ?_ <;> intro hc) | fail)
  rw [eY1]
  clear eY1 hrowY hYr hJr hVr hCl hCr hTl
  refine goR ?_
  repeat' (first | refine goH ?_ | refine goV ?_ | refine goB (fun b => ?_) | refine goG ?_ | (refine Ops.k_guard ?_; first | (refine Ops.guard_dec rfl rfl ?_ ?_ <;> intro hc <;> try omega) | refine Ops.guard_split rfl rfl ?_ ?_ <;> intro hc) | refine goI ?_ | (refine Cw.k_cond ?_; first | (refine Cw.cond_dec rfl ?_ ?_ <;> intro hc <;> try omega) | refine Cw.cond_bool rfl ?_ ?_ <;> intro hc) | exact OpV.w (OpV.nilCheck_eptr rfl) | refine goP ?_ | apply PSeq.cons | apply PSeq.yes rfl rfl rfl | exact goW | fail)
  rw [eY2]
  clear eY2 hrowY2 hYr2
  repeat' (first | refine goH ?_ | refine goV ?_ | refine goB (fun b => ?_) | (refine Ops.k_nilCheck ?_; first | refine Ops.nilCheck_eptr rfl rfl ?_) | refine goG ?_ | (refine Ops.k_guard ?_; first | (refine Ops.guard_dec rfl rfl ?_ ?_ <;> intro hc <;> try omega) | refine Ops.guard_split rfl rfl ?_ ?_ <;> intro hc) | refine goI ?_ | (refine Cw.k_cond ?_; first | (refine Cw.cond_dec rfl ?_ ?_ <;> intro hc <;> try omega) | refine Cw.cond_bool rfl ?_ ?_ <;> intro hc) | fail)
  rw [eS]
  clear eS hrow hSr
  refine goR ?_
  repeat' (first | refine goH ?_ | refine goV ?_ | refine goB (fun b => ?_) | refine goG ?_ | (refine Ops.k_guard ?_; first | (refine Ops.guard_dec rfl rfl ?_ ?_ <;> intro hc <;> try omega) | refine Ops.guard_split rfl rfl ?_ ?_ <;> intro hc) | refine goI ?_ | (refine Cw.k_cond ?_; first | (refine Cw.cond_dec rfl ?_ ?_ <;> intro hc <;> try omega) | refine Cw.cond_bool rfl ?_ ?_ <;> intro hc) | exact OpV.w (OpV.nilCheck_eptr rfl) | refine goR ?_ | refine goP ?_ | apply PSeq.cons | apply PSeq.yes rfl rfl rfl | exact goW | fail)
  exact Fin.ret (Ent.trans (Ent.setbox (s := 4) rfl goPk) (Ent.take (Take.cons goPk (Take.cons goPk (Take.cons goPk (Take.cons goPk (Take.cons goPk Take.nil))))))) (Outs.many rfl (OutL.cons goOe (OutL.cons goOe OutL.nil)) rfl) ⟨rfl, _, _, rfl⟩
end Lg
end
