/- A part of the proof of a law of this seat: it adds no condition. By an AI agent. -/
import Derived.Test.YthgcdnfhfejijaaGreatDoorMs4
section
set_option linter.all false
set_option maxRecDepth 100000
set_option maxHeartbeats 8000000
namespace Lg
open Go Go.Proofs

/-! ### machines: the program's side -/
structure Tally where
 key : ByteArray
 many : Int
 val : Int
def Tally.row (x : Tally) : List Tr := [.str x.key, .int x.many, .int x.val]
def boolRows (J : List Bool) : List (List Tr) := J.map fun v => [Tr.bool v]
theorem boolRows_len (J : List Bool) : (boolRows J).length = J.length := List.length_map _
theorem boolRows_at {J : List Bool} {k : Nat} {v : Bool} (h : J[k]? = some v) : (boolRows J)[k]? = some [Tr.bool v] := rows_at (f := fun v => [Tr.bool v]) h
abbrev mX (b : Nat) (aT : Option Addr) (nT cT : Nat) (K : List Int) (aS : Option Addr) (nS cS : Nat) (H : Int) (aJ : Option Addr) (nJ cJ : Nat) (aE : Option Addr) (nE cE : Nat) (aY : Option Addr) (nY cY : Nat) (i o f c x r : Int) : Chunk :=
 Chunk.box b 77 [Tr.raw (.slice aT nT cT), .ints K, Tr.raw (.slice aS nS cS), .int H, Tr.raw (.slice aJ nJ cJ), Tr.raw (.slice aE nE cE), Tr.raw (.slice aY nY cY), .int i, .int o, .int f, .int c, .int x, .int r, Tr.raw (.slice none 0 0)]
abbrev ownT (a : Option Addr) (cap : Nat) (T : List Tube) : Chunk := Chunk.own a cap 3 27 (T.map Tube.row)
abbrev ownS (a : Option Addr) (cap : Nat) (S : List SlotM) : Chunk := Chunk.own a cap 5 30 (S.map SlotM.row)
abbrev ownJ (a : Option Addr) (cap : Nat) (J : List Bool) : Chunk := Chunk.own a cap 1 4 (boolRows J)
abbrev ownI (a : Option Addr) (cap : Nat) (E : List Int) : Chunk := Chunk.own a cap 1 3 (intRows E)
abbrev ownY (a : Option Addr) (cap : Nat) (Y : List Tally) : Chunk := Chunk.own a cap 3 47 (Y.map Tally.row)

def slotP (key : ByteArray) (x : SlotM) : Bool := decide (x.key = key)
def tubeP (v : Int) (d : Tube) : Bool := decide (d.val = v)
def slotN (S : List SlotM) (key : ByteArray) : Option Nat := S.findIdx? (slotP key)
def tubeN (T : List Tube) (v : Int) : Option Nat := T.findIdx? (tubeP v)
theorem idxFrom_n {α : Type} (p : α → Bool) : ∀ (l : List α) (k : Int), idxFrom p l k = match l.findIdx? p with
  |none => -1
  |some j => k + j
 |[], k => rfl
 |x :: l, k => by
  rw [idxFrom, List.findIdx?_cons, idxFrom_n p l (k + 1)]
  cases p x with
  |true => simp
  |false =>
   cases l.findIdx? p with
   |none => simp
   |some j => exact (by rw [Int.natCast_add]; omega : k + 1 + (j : Int) = k + ((j + 1 : Nat) : Int))
theorem findN_some {α : Type} {p : α → Bool} {l : List α} {j : Nat} (h : l.findIdx? p = some j) : ∃ x, l[j]? = some x ∧ p x = true ∧ j < l.length := by
 rw [List.findIdx?_eq_some_iff_getElem] at h
 obtain ⟨h1, h2, _⟩ := h
 exact ⟨l[j], List.getElem?_eq_getElem h1, h2, h1⟩
/-- the same over an owned slice, that it only reads -/
theorem indexFuncO_slot {n : Nat} {l : List SlotM} {p : SlotM → Bool} {ad : Option Addr} {cap : Nat} {g : Nat} {caps : List Value} {cin : List Chunk} (hl : l.length ≤ 1000000000) (hn : n = l.length)
  (hs : ∀ x, x ∈ l → Spec Tryz.prog g ([Tr.agg x.row] ++ caps.map Tr.raw) cin (fun r cs => r = Tr.bool (p x) ∧ cs = cin)) :
  Spec Tryz.prog 51 [Tr.raw (.slice ad n cap), Tr.raw (.func (.func g) #[] caps.toArray)] (Chunk.own ad cap 5 30 (l.map SlotM.row) :: cin) (fun r cs => r = Tr.int (idxFrom p l 0) ∧ cs = Chunk.own ad cap 5 30 (l.map SlotM.row) :: cin) := by
 refine Spec.body Tryz.func51 rfl rfl (Tryz.ntmps51) rfl fun w0 own0 M => ?_
 have hL : (l.map SlotM.row).length = n := by rw [List.length_map, hn]
 repeat' (first | refine goH ?_ | refine goV ?_ | refine goI ?_ | (refine Cw.k_cond ?_; first | (refine Cw.cond_dec rfl ?_ ?_ <;> intro hc <;> try omega) | refine Cw.cond_bool rfl ?_ ?_ <;> intro hc) | fail)
 refine Cw.loopI [(0, _), (1, _), (7, _)] _ (fun q e c => ∃ k : Nat, q = n - k ∧ (k ≤ n ∧ idxFrom p l 0 = idxFrom p (l.drop k) k) ∧ e = [(8, .int k)] ∧ c = []) ⟨_, _, _, (Ent.mkP goSub goPm), 0, rfl, ⟨by omega, rfl⟩, rfl, rfl⟩ ?_
 rintro _ _ _ ⟨k, rfl, ⟨hk, hgo⟩, rfl, rfl⟩
 by_cases hkl : k < n
 ·obtain ⟨x, hx⟩ : ∃ x, l[k]? = some x := ⟨_, List.getElem?_eq_getElem (by omega)⟩
  have hrow : (l.map SlotM.row)[k]? = some [.str x.key, .str x.prod, .int x.price, .int x.most, .int x.cnt] := rows_at hx
  have hdrop := idxFrom_drop p hx
  rw [hdrop] at hgo
  have hsx := hs x (List.mem_of_getElem? hx)
  by_cases hp : p x = true
  ·rw [if_pos hp] at hgo
   rw [hp] at hsx
   repeat' (first | refine goH ?_ | refine goV ?_ | refine goI ?_ | (refine Cw.k_cond ?_; first | (refine Cw.cond_dec rfl ?_ ?_ <;> intro hc <;> try omega) | refine Cw.cond_bool rfl ?_ ?_ <;> intro hc) | (refine Ops.k_calla ?_; first | refine Ops.callS_fn rfl hsx (Evs.cons rfl Evs.nil) (List.perm_append_comm (l₁ := [Chunk.own ad cap 5 30 (l.map SlotM.row)])) rfl ?_) | fail)
   exact Fin.ret Ent.refl (Outs.one rfl rfl) ⟨by rw [hgo], rfl⟩
  ·rw [if_neg hp] at hgo
   rw [Bool.not_eq_true] at hp
   rw [hp] at hsx
   repeat' (first | refine goH ?_ | refine goV ?_ | refine goI ?_ | (refine Cw.k_cond ?_; first | (refine Cw.cond_dec rfl ?_ ?_ <;> intro hc <;> try omega) | refine Cw.cond_bool rfl ?_ ?_ <;> intro hc) | (refine Ops.k_calla ?_; first | refine Ops.callS_fn rfl hsx (Evs.cons rfl Evs.nil) (List.perm_append_comm (l₁ := [Chunk.own ad cap 5 30 (l.map SlotM.row)])) rfl ?_) | fail)
   exact ⟨_, _, _, (Ent.mkP goSub goPm), ⟨k + 1, rfl, ⟨by omega, hgo⟩, rfl, rfl⟩, by omega⟩
 ·rw [List.drop_eq_nil_of_le (by omega), idxFrom] at hgo
  repeat' (first | refine goH ?_ | refine goV ?_ | refine goI ?_ | (refine Cw.k_cond ?_; first | (refine Cw.cond_dec rfl ?_ ?_ <;> intro hc <;> try omega) | refine Cw.cond_bool rfl ?_ ?_ <;> intro hc) | fail)
  exact Fin.ret Ent.refl (Outs.one rfl rfl) ⟨by rw [hgo], rfl⟩

/-- the same over an owned slice, that it only reads -/
theorem indexFuncO_tube {n : Nat} {l : List Tube} {p : Tube → Bool} {ad : Option Addr} {cap : Nat} {g : Nat} {caps : List Value} {cin : List Chunk} (hl : l.length ≤ 1000000000) (hn : n = l.length)
  (hs : ∀ x, x ∈ l → Spec Tryz.prog g ([Tr.agg x.row] ++ caps.map Tr.raw) cin (fun r cs => r = Tr.bool (p x) ∧ cs = cin)) :
  Spec Tryz.prog 83 [Tr.raw (.slice ad n cap), Tr.raw (.func (.func g) #[] caps.toArray)] (Chunk.own ad cap 3 27 (l.map Tube.row) :: cin) (fun r cs => r = Tr.int (idxFrom p l 0) ∧ cs = Chunk.own ad cap 3 27 (l.map Tube.row) :: cin) := by
 refine Spec.body Tryz.func83 rfl rfl (Tryz.ntmps83) rfl fun w0 own0 M => ?_
 have hL : (l.map Tube.row).length = n := by rw [List.length_map, hn]
 repeat' (first | refine goH ?_ | refine goV ?_ | refine goI ?_ | (refine Cw.k_cond ?_; first | (refine Cw.cond_dec rfl ?_ ?_ <;> intro hc <;> try omega) | refine Cw.cond_bool rfl ?_ ?_ <;> intro hc) | fail)
 refine Cw.loopI [(0, _), (1, _), (7, _)] _ (fun q e c => ∃ k : Nat, q = n - k ∧ (k ≤ n ∧ idxFrom p l 0 = idxFrom p (l.drop k) k) ∧ e = [(8, .int k)] ∧ c = []) ⟨_, _, _, (Ent.mkP goSub goPm), 0, rfl, ⟨by omega, rfl⟩, rfl, rfl⟩ ?_
 rintro _ _ _ ⟨k, rfl, ⟨hk, hgo⟩, rfl, rfl⟩
 by_cases hkl : k < n
 ·obtain ⟨x, hx⟩ : ∃ x, l[k]? = some x := ⟨_, List.getElem?_eq_getElem (by omega)⟩
  have hrow : (l.map Tube.row)[k]? = some [.int x.val, .int x.cnt, .int x.most] := rows_at hx
  have hdrop := idxFrom_drop p hx
  rw [hdrop] at hgo
  have hsx := hs x (List.mem_of_getElem? hx)
  by_cases hp : p x = true
  ·rw [if_pos hp] at hgo
   rw [hp] at hsx
   repeat' (first | refine goH ?_ | refine goV ?_ | refine goI ?_ | (refine Cw.k_cond ?_; first | (refine Cw.cond_dec rfl ?_ ?_ <;> intro hc <;> try omega) | refine Cw.cond_bool rfl ?_ ?_ <;> intro hc) | (refine Ops.k_calla ?_; first | refine Ops.callS_fn rfl hsx (Evs.cons rfl Evs.nil) (List.perm_append_comm (l₁ := [Chunk.own ad cap 3 27 (l.map Tube.row)])) rfl ?_) | fail)
   exact Fin.ret Ent.refl (Outs.one rfl rfl) ⟨by rw [hgo], rfl⟩
  ·rw [if_neg hp] at hgo
   rw [Bool.not_eq_true] at hp
   rw [hp] at hsx
   repeat' (first | refine goH ?_ | refine goV ?_ | refine goI ?_ | (refine Cw.k_cond ?_; first | (refine Cw.cond_dec rfl ?_ ?_ <;> intro hc <;> try omega) | refine Cw.cond_bool rfl ?_ ?_ <;> intro hc) | (refine Ops.k_calla ?_; first | refine Ops.callS_fn rfl hsx (Evs.cons rfl Evs.nil) (List.perm_append_comm (l₁ := [Chunk.own ad cap 3 27 (l.map Tube.row)])) rfl ?_) | fail)
   exact ⟨_, _, _, (Ent.mkP goSub goPm), ⟨k + 1, rfl, ⟨by omega, hgo⟩, rfl, rfl⟩, by omega⟩
 ·rw [List.drop_eq_nil_of_le (by omega), idxFrom] at hgo
  repeat' (first | refine goH ?_ | refine goV ?_ | refine goI ?_ | (refine Cw.k_cond ?_; first | (refine Cw.cond_dec rfl ?_ ?_ <;> intro hc <;> try omega) | refine Cw.cond_bool rfl ?_ ?_ <;> intro hc) | fail)
  exact Fin.ret Ent.refl (Outs.one rfl rfl) ⟨by rw [hgo], rfl⟩

theorem slotC_fn (d : SlotM) (b : Nat) (key : ByteArray) : Spec Tryz.prog 52 [.agg d.row, .ptr b] [Chunk.box b 9 [.str key]] (fun r cs => r = .bool (slotP key d) ∧ cs = [Chunk.box b 9 [.str key]]) := by
 unfold SlotM.row slotP
 refine Spec.body Tryz.func52 rfl rfl (Tryz.ntmps52) rfl fun w0 own0 M => ?_
 by_cases h : d.key = key
 ·rw [decide_eq_true h]
  repeat' (first | refine goH ?_ | refine goV ?_ | refine goB (fun b => ?_) | refine goI ?_ | (refine Cw.k_cond ?_; first | (refine Cw.cond_dec rfl ?_ ?_ <;> intro hc <;> try omega) | refine Cw.cond_bool rfl ?_ ?_ <;> intro hc) | fail)
  exact Fin.ret (Ent.take (Take.cons goPk Take.nil)) (Outs.one rfl rfl) ⟨rfl, rfl⟩
 ·rw [decide_eq_false h]
  repeat' (first | refine goH ?_ | refine goV ?_ | refine goB (fun b => ?_) | refine goI ?_ | (refine Cw.k_cond ?_; first | (refine Cw.cond_dec rfl ?_ ?_ <;> intro hc <;> try omega) | refine Cw.cond_bool rfl ?_ ?_ <;> intro hc) | fail)
  exact Fin.ret (Ent.take (Take.cons goPk Take.nil)) (Outs.one rfl rfl) ⟨rfl, rfl⟩
theorem tubeC_fn (d : Tube) (b : Nat) (v : Int) : Spec Tryz.prog 84 [.agg d.row, .ptr b] [Chunk.box b 3 [.int v]] (fun r cs => r = .bool (tubeP v d) ∧ cs = [Chunk.box b 3 [.int v]]) := by
 unfold Tube.row tubeP
 refine Spec.body Tryz.func84 rfl rfl (Tryz.ntmps84) rfl fun w0 own0 M => ?_
 repeat' (first | refine goH ?_ | refine goV ?_ | refine goB (fun b => ?_) | refine goI ?_ | (refine Cw.k_cond ?_; first | (refine Cw.cond_dec rfl ?_ ?_ <;> intro hc <;> try omega) | refine Cw.cond_bool rfl ?_ ?_ <;> intro hc) | fail)
 exact Fin.ret (Ent.take (Take.cons goPk Take.nil)) (Outs.one rfl rfl) ⟨rfl, rfl⟩
def ixN (n : Option Nat) : Int := match n with
 |none => -1
 |some k => k
theorem slot_fn {b : Nat} {aT aS aJ aE aY : Option Addr} {nT cT nS cS nJ cJ nE cE nY cY : Nat} {K : List Int} {H i o f c x r : Int} (S : List SlotM) (key : ByteArray) (hl : S.length ≤ 1000) (hn : nS = S.length) : Spec Tryz.prog 25 [.ptr b, .str key] [mX b aT nT cT K aS nS cS H aJ nJ cJ aE nE cE aY nY cY i o f c x r, ownS aS cS S] (fun y cs => y = .int (ixN (slotN S key)) ∧ cs = [mX b aT nT cT K aS nS cS H aJ nJ cJ aE nE cE aY nY cY i o f c x r, ownS aS cS S]) := by
 have e : idxFrom (slotP key) S 0 = ixN (slotN S key) := by
  rw [idxFrom_n]
  unfold ixN slotN
  cases S.findIdx? (slotP key) with
  |none => rfl
  |some j => exact Int.zero_add _
 have k := fun (b3 : Nat) => indexFuncO_slot (ad := aS) (cap := cS) (cin := [Chunk.box b3 9 [.str key]]) (caps := [.pointer (some ⟨b3, 0, none⟩)]) (g := 52) (p := slotP key) (l := S) (n := nS) (by omega) hn (fun d _ => slotC_fn d b3 key)
 rw [e] at k
 generalize ixN (slotN S key) = v at *
 refine Spec.body Tryz.func25 rfl rfl (Tryz.ntmps25) rfl fun w0 own0 M => ?_
 repeat' (first | refine goH ?_ | refine goV ?_ | refine goB (fun b => ?_) | refine goI ?_ | (refine Cw.k_cond ?_; first | (refine Cw.cond_dec rfl ?_ ?_ <;> intro hc <;> try omega) | refine Cw.cond_bool rfl ?_ ?_ <;> intro hc) | (refine Ops.k_calla ?_; first | (refine Ops.k_callf 51 ?_; refine Ops.callS (k _) (Evs.cons rfl (Evs.cons rfl Evs.nil)) goPm rfl ?_)) | fail)
 exact Fin.ret (Ent.take (Take.cons goPk (Take.cons goPk Take.nil))) (Outs.one rfl rfl) ⟨rfl, rfl⟩
theorem tube_fn {b : Nat} {aT aS aJ aE aY : Option Addr} {nT cT nS cS nJ cJ nE cE nY cY : Nat} {K : List Int} {H i o f c x r : Int} (T : List Tube) (v : Int) (hl : T.length ≤ 1000) (hn : nT = T.length) : Spec Tryz.prog 53 [.ptr b, .int v] [mX b aT nT cT K aS nS cS H aJ nJ cJ aE nE cE aY nY cY i o f c x r, ownT aT cT T] (fun y cs => y = .int (ixN (tubeN T v)) ∧ cs = [mX b aT nT cT K aS nS cS H aJ nJ cJ aE nE cE aY nY cY i o f c x r, ownT aT cT T]) := by
 have e : idxFrom (tubeP v) T 0 = ixN (tubeN T v) := by
  rw [idxFrom_n]
  unfold ixN tubeN
  cases T.findIdx? (tubeP v) with
  |none => rfl
  |some j => exact Int.zero_add _
 have k := fun (b3 : Nat) => indexFuncO_tube (ad := aT) (cap := cT) (cin := [Chunk.box b3 3 [.int v]]) (caps := [.pointer (some ⟨b3, 0, none⟩)]) (g := 84) (p := tubeP v) (l := T) (n := nT) (by omega) hn (fun d _ => tubeC_fn d b3 v)
 rw [e] at k
 generalize ixN (tubeN T v) = w at *
 refine Spec.body Tryz.func53 rfl rfl (Tryz.ntmps53) rfl fun w0 own0 M => ?_
 repeat' (first | refine goH ?_ | refine goV ?_ | refine goB (fun b => ?_) | refine goI ?_ | (refine Cw.k_cond ?_; first | (refine Cw.cond_dec rfl ?_ ?_ <;> intro hc <;> try omega) | refine Cw.cond_bool rfl ?_ ?_ <;> intro hc) | (refine Ops.k_calla ?_; first | (refine Ops.k_callf 83 ?_; refine Ops.callS (k _) (Evs.cons rfl (Evs.cons rfl Evs.nil)) goPm rfl ?_)) | fail)
 exact Fin.ret (Ent.take (Take.cons goPk (Take.cons goPk Take.nil))) (Outs.one rfl rfl) ⟨rfl, rfl⟩
end Lg

end
section
set_option linter.all false
namespace Lg
open Go Go.Proofs

/-! ### paying with the fewest coins: the table, and what it means -/

/-- the least of f 0 .. f k -/
def minTo (f : Nat → Int) : Nat → Int
 |0 => f 0
 |k + 1 => min (minTo f k) (f (k + 1))
theorem minTo_le {f : Nat → Int} : ∀ {k n : Nat}, n ≤ k → minTo f k ≤ f n
 |0, n, h => by have : n = 0 := by omega
                subst this; exact Int.le_refl _
 |k + 1, n, h => by
  have hd : minTo f (k + 1) = min (minTo f k) (f (k + 1)) := rfl
  by_cases e : n = k + 1
  ·subst e; omega
  ·have := minTo_le (f := f) (k := k) (n := n) (by omega); omega
theorem minTo_mem {f : Nat → Int} : ∀ (k : Nat), ∃ n, n ≤ k ∧ minTo f k = f n
 |0 => ⟨0, Nat.le_refl _, rfl⟩
 |k + 1 => by
  have hd : minTo f (k + 1) = min (minTo f k) (f (k + 1)) := rfl
  obtain ⟨n, h1, h2⟩ := minTo_mem (f := f) k
  by_cases e : minTo f k ≤ f (k + 1)
  ·exact ⟨n, by omega, by omega⟩
  ·exact ⟨k + 1, by omega, by omega⟩
theorem minTo_eq {f : Nat → Int} {k : Nat} {x : Int} (h1 : ∀ n, n ≤ k → x ≤ f n) (h2 : ∃ n, n ≤ k ∧ f n = x) : minTo f k = x := by
 obtain ⟨n, h3, h4⟩ := h2
 have := minTo_le (f := f) h3
 obtain ⟨m, h5, h6⟩ := minTo_mem (f := f) k
 have := h1 m h5
 omega

/-- one tube more: value v, c coins; N: it cannot be paid -/
def fur (N : Int) (b : Nat → Int) (v c : Nat) (a : Nat) : Int := min N (minTo (fun n => n + b (a - n * v)) (min c (a / v)))
theorem fur_le (N : Int) (b : Nat → Int) (v c a : Nat) : fur N b v c a ≤ N := by unfold fur; omega

def zeroPay (N : Int) (a : Nat) : Int := if a = 0 then 0 else N
/-- the table's row after some tubes -/
def pay (N : Int) : (Nat → Int) → List (Nat × Nat) → Nat → Int
 |b, [] => b
 |b, t :: l => pay N (fur N b t.1 t.2) l
theorem pay_app (N : Int) : ∀ (l : List (Nat × Nat)) (b : Nat → Int) (t : Nat × Nat), pay N b (l ++ [t]) = fur N (pay N b l) t.1 t.2
 |[], b, t => rfl
 |x :: l, b, t => pay_app N l _ t

/-- what a table says with one sign for 'never' and with another -/
def PRel (N M B : Int) (x y : Int) : Prop := (N ≤ x ∧ M ≤ y) ∨ (x = y ∧ 0 ≤ x ∧ x ≤ B)
theorem minTo_rel {N M B : Int} {f g : Nat → Int} (hN : B < N) (hM : B < M) : ∀ {k : Nat}, (∀ n, n ≤ k → PRel N M B (f n) (g n)) → PRel N M B (minTo f k) (minTo g k)
 |0, h => h 0 (Nat.le_refl _)
 |k + 1, h => by
  have h1 := minTo_rel hN hM (k := k) fun n hn => h n (by omega)
  have h2 := h (k + 1) (Nat.le_refl _)
  show PRel N M B (min _ _) (min _ _)
  unfold PRel at *
  omega
theorem fur_rel {N M B : Int} {b d : Nat → Int} {v c : Nat} (hb : ∀ a, PRel N M B (b a) (d a)) (hN : B + c < N) (hM : B + c < M) (a : Nat) : PRel N M (B + c) (fur N b v c a) (fur M d v c a) := by
 have := minTo_rel (N := N) (M := M) (B := B + c) (f := fun n => n + b (a - n * v)) (g := fun n => n + d (a - n * v)) (k := min c (a / v)) (by omega) (by omega) fun n hn => by
  have := hb (a - n * v)
  have hn' : n ≤ c := by omega
  simp only [PRel] at this ⊢
  omega
 unfold fur
 unfold PRel at this ⊢
 omega
theorem pay_rel {N M : Int} : ∀ {l : List (Nat × Nat)} {B : Int} {b d : Nat → Int}, (∀ t ∈ l, t.2 ≤ 1000) → (∀ a, PRel N M B (b a) (d a)) → 0 ≤ B → B + 1000 * l.length < N → B + 1000 * l.length < M → ∀ a, PRel N M (B + 1000 * l.length) (pay N b l a) (pay M d l a)
 |[], B, b, d, _, h, _, _, _, a => by simpa [pay] using h a
 |t :: l, B, b, d, ht, h, h0, h1, h2, a => by
  have hc := ht t (by simp)
  simp only [List.length_cons] at h1 h2 ⊢
  have h3 : ∀ a, PRel N M (B + 1000) (fur N b t.1 t.2 a) (fur M d t.1 t.2 a) := fun a => by
   have := fur_rel (N := N) (M := M) (B := B) (v := t.1) (c := t.2) h (by omega) (by omega) a
   unfold PRel at this ⊢
   omega
  have := pay_rel (l := l) (fun t h => ht t (by simp [h])) h3 (by omega) (by omega) (by omega) a
  rwa [show B + 1000 + 1000 * (l.length : Int) = B + 1000 * ((l.length + 1 : Nat) : Int) by omega] at this
theorem zeroPay_rel {N M : Int} (a : Nat) : PRel N M 0 (zeroPay N a) (zeroPay M a) := by
 unfold zeroPay PRel
 by_cases h : a = 0 <;> simp [h]

theorem pay_le (N : Int) : ∀ (l : List (Nat × Nat)) (b : Nat → Int), (∀ a, b a ≤ N) → ∀ a, pay N b l a ≤ N
 |[], b, h, a => h a
 |t :: l, b, h, a => pay_le N l _ (fun a => fur_le _ _ _ _ a) a
theorem pay_nn (N : Int) (hN : 0 ≤ N) : ∀ (l : List (Nat × Nat)) (b : Nat → Int), (∀ a, 0 ≤ b a) → ∀ a, 0 ≤ pay N b l a
 |[], b, h, a => h a
 |t :: l, b, h, a => pay_nn N hN l _ (fun a => by
   obtain ⟨n, h1, h2⟩ := minTo_mem (f := fun n => (n : Int) + b (a - n * t.1)) (min t.2 (a / t.1))
   have := h (a - n * t.1)
   unfold fur
   omega) a

/-! ### the queue of least numbers -/

/-- the queue behind place at: rising places, rising numbers, each place's number f, and each place from lo on is met by one that is not greater -/
structure QOk (f : Nat → Int) (lo at' : Nat) (q : List (Nat × Int)) : Prop where
 num : ∀ e ∈ q, e.2 = f e.1 ∧ e.1 < at' ∧ lo ≤ e.1
 up : q.Pairwise fun a b => a.1 < b.1 ∧ a.2 < b.2

/-- all places from lo to before at are met -/
def QMeets (f : Nat → Int) (lo at' : Nat) (q : List (Nat × Int)) (x : Int) : Prop := ∀ j, lo ≤ j → j < at' → (∃ e ∈ q, j ≤ e.1 ∧ e.2 ≤ f j) ∨ x ≤ f j

theorem QOk.pop {f : Nat → Int} {lo at' : Nat} {q : List (Nat × Int)} {e : Nat × Int} (h : QOk f lo at' (q ++ [e])) : QOk f lo at' q :=
 ⟨fun x hx => h.num x (by simp [hx]), (List.pairwise_append.1 h.up).1⟩
theorem QOk.len {f : Nat → Int} : ∀ {q : List (Nat × Int)} {lo at' : Nat}, QOk f lo at' q → lo ≤ at' → lo + q.length ≤ at'
 |[], lo, at', h, hl => by simpa using hl
 |e :: q, lo, at', h, hl => by
  obtain ⟨h1, h2, h3⟩ := h.num e (by simp)
  have := QOk.len (q := q) (lo := e.1 + 1) (at' := at') ⟨fun x hx => by
   obtain ⟨g1, g2, g3⟩ := h.num x (by simp [hx])
   have := ((List.pairwise_cons.1 h.up).1 x hx).1
   exact ⟨g1, g2, by omega⟩, (List.pairwise_cons.1 h.up).2⟩ (by omega)
  simp only [List.length_cons]
  omega
theorem QMeets.pop {f : Nat → Int} {lo at' : Nat} {q : List (Nat × Int)} {e : Nat × Int} {x : Int} (h : QMeets f lo at' (q ++ [e]) x) (hx : x ≤ e.2) : QMeets f lo at' q x := by
 intro j h1 h2
 rcases h j h1 h2 with ⟨d, hd, h3, h4⟩ | h3
 ·rcases List.mem_append.1 hd with hd | hd
  ·exact .inl ⟨d, hd, h3, h4⟩
  ·simp at hd; subst hd; exact .inr (by omega)
 ·exact .inr h3
theorem QOk.push {f : Nat → Int} {lo at' : Nat} {q : List (Nat × Int)} (h : QOk f lo at' q) (hl : ∀ e, q.getLast? = some e → e.2 < f at') (hlo : lo ≤ at') : QOk f lo (at' + 1) (q ++ [(at', f at')]) := by
 refine ⟨?_, ?_⟩
 ·intro e he
  rcases List.mem_append.1 he with he | he
  ·obtain ⟨h1, h2, h3⟩ := h.num e he
   exact ⟨h1, by omega, h3⟩
  ·simp at he; subst he; exact ⟨rfl, by simp, hlo⟩
 ·refine List.pairwise_append.2 ⟨h.up, by simp, ?_⟩
  intro a ha b hb
  simp at hb
  subst hb
  refine ⟨(h.num a ha).2.1, ?_⟩
  rcases List.eq_nil_or_concat q with rfl | ⟨q', e, hq⟩
  ·simp at ha
  ·rw [List.concat_eq_append] at hq
   subst hq
   have he : e.2 < f at' := hl e (by simp)
   rcases List.mem_append.1 ha with ha | ha
   ·have := (List.pairwise_append.1 h.up).2.2 a ha e (by simp)
    omega
   ·simp at ha; subst ha; exact he
theorem QMeets.push {f : Nat → Int} {lo at' : Nat} {q : List (Nat × Int)} {x : Int} (h : QMeets f lo at' q (f at')) : QMeets f lo (at' + 1) (q ++ [(at', f at')]) x := by
 intro j h1 h2
 by_cases e : j = at'
 ·subst e; exact .inl ⟨(j, f j), by simp, Nat.le_refl _, Int.le_refl _⟩
 ·rcases h j h1 (by omega) with ⟨d, hd, h3, h4⟩ | h3
  ·exact .inl ⟨d, by simp [hd], h3, h4⟩
  ·exact .inl ⟨(at', f at'), by simp, by simp; omega, h3⟩
theorem QMeets.push' {f : Nat → Int} {lo at' : Nat} {q : List (Nat × Int)} (h : QMeets f lo at' q (f at')) (j : Nat) (h1 : lo ≤ j) (h2 : j < at' + 1) : ∃ e ∈ q ++ [(at', f at')], j ≤ e.1 ∧ e.2 ≤ f j := by
 by_cases e : j = at'
 ·subst e; exact ⟨(j, f j), by simp, Nat.le_refl _, Int.le_refl _⟩
 ·rcases h j h1 (by omega) with ⟨d, hd, h3, h4⟩ | h3
  ·exact ⟨d, by simp [hd], h3, h4⟩
  ·exact ⟨(at', f at'), by simp, by simp; omega, h3⟩
theorem mod_next {a r v m : Nat} (h : a % v = r) (hl : a < r + m * v + v) (hn : a ≠ r + m * v) : a < r + m * v := by
 have h1 := Nat.mod_add_div a v
 rw [h] at h1
 rcases Nat.lt_trichotomy (a / v) m with h2 | h2 | h2
 ·have h3 := Nat.mul_le_mul_left v (show a / v + 1 ≤ m from h2)
  rw [Nat.mul_add, Nat.mul_one, Nat.mul_comm v m] at h3
  by_cases h0 : v = 0
  ·subst h0; simp at *; omega
  ·omega
 ·rw [h2, Nat.mul_comm] at h1; omega
 ·have h3 := Nat.mul_le_mul_left v (show m + 1 ≤ a / v from h2)
  rw [Nat.mul_add, Nat.mul_one, Nat.mul_comm v m] at h3
  omega
/-- the window moves on: its first place goes, if it is still there -/
theorem QOk.shift {f : Nat → Int} {lo lo' at' : Nat} {e : Nat × Int} {q : List (Nat × Int)} (h : QOk f lo at' (e :: q)) (hl : lo' ≤ lo + 1) (he : e.1 < lo') : QOk f lo' at' q := by
 refine ⟨fun x hx => ?_, (List.pairwise_cons.1 h.up).2⟩
 obtain ⟨h1, h2, h3⟩ := h.num x (by simp [hx])
 have h4 := (h.num e (by simp)).2.2
 have := ((List.pairwise_cons.1 h.up).1 x hx).1
 exact ⟨h1, h2, by omega⟩
theorem QOk.stay {f : Nat → Int} {lo lo' at' : Nat} {e : Nat × Int} {q : List (Nat × Int)} (h : QOk f lo at' (e :: q)) (he : lo' ≤ e.1) : QOk f lo' at' (e :: q) := by
 refine ⟨fun x hx => ?_, h.up⟩
 obtain ⟨h1, h2, h3⟩ := h.num x hx
 rcases List.mem_cons.1 hx with rfl | hx
 ·exact ⟨h1, h2, he⟩
 ·have := ((List.pairwise_cons.1 h.up).1 x hx).1
  exact ⟨h1, h2, by omega⟩
theorem QMeets.shift {f : Nat → Int} {lo lo' at' : Nat} {e : Nat × Int} {q : List (Nat × Int)} {x : Int} (h : QMeets f lo at' (e :: q) x) (hl : lo ≤ lo') (he : e.1 < lo') : QMeets f lo' at' q x := by
 intro j h1 h2
 rcases h j (by omega) h2 with ⟨d, hd, h3, h4⟩ | h3
 ·rcases List.mem_cons.1 hd with rfl | hd
  ·omega
  ·exact .inl ⟨d, hd, h3, h4⟩
 ·exact .inr h3
theorem QMeets.stay {f : Nat → Int} {lo lo' at' : Nat} {q : List (Nat × Int)} {x : Int} (h : QMeets f lo at' q x) (hl : lo ≤ lo') : QMeets f lo' at' q x :=
 fun j h1 h2 => h j (by omega) h2
/-- its first is the least of all in the window -/
theorem QOk.first {f : Nat → Int} {lo m : Nat} {e : Nat × Int} {q : List (Nat × Int)} (h : QOk f lo (m + 1) (e :: q)) (hm : ∀ j, lo ≤ j → j ≤ m → ∃ d ∈ e :: q, j ≤ d.1 ∧ d.2 ≤ f j) (j : Nat) (h1 : lo ≤ j) (h2 : j ≤ m) : e.2 ≤ f j := by
 obtain ⟨d, hd, _, h4⟩ := hm j h1 h2
 rcases List.mem_cons.1 hd with rfl | hd
 ·exact h4
 ·have := ((List.pairwise_cons.1 h.up).1 d hd).2
  omega

/-- what the queue's first says of the amount rest + m * v -/
theorem fur_of_queue {N : Int} {b : Nat → Int} {v c rest m : Nat} {e : Nat × Int} (hv : rest < v) (h1 : e.2 = b (rest + e.1 * v) - e.1) (h2 : m - c ≤ e.1) (h3 : e.1 ≤ m) (h4 : ∀ j, m - c ≤ j → j ≤ m → e.2 ≤ b (rest + j * v) - j) :
  fur N b v c (rest + m * v) = min (e.2 + m) N := by
 have hd : (rest + m * v) / v = m := by
  rw [Nat.add_mul_div_right _ _ (by omega), Nat.div_eq_of_lt hv]; omega
 have key : ∀ n, n ≤ m → rest + m * v - n * v = rest + (m - n) * v := fun n hn => by
  have : m * v = (m - n) * v + n * v := by rw [← Nat.add_mul]; congr 1; omega
  omega
 unfold fur
 rw [hd]
 have : minTo (fun n => (n : Int) + b (rest + m * v - n * v)) (min c m) = e.2 + m := by
  apply minTo_eq
  ·intro n hn
   have := h4 (m - n) (by omega) (by omega)
   rw [key n (by omega)]
   omega
  ·refine ⟨m - e.1, by omega, ?_⟩
   rw [key (m - e.1) (by omega), show m - (m - e.1) = e.1 by omega]
   omega
 rw [this]
 omega

/-- the state of the innermost walk: place m, amount A -/
structure FV (N : Int) (f : Nat → Int) (n v c r m A : Nat) (q : List (Nat × Int)) (g : Nat → Int) : Prop where
 pos : A = r + m * v
 lim : A < n + v
 ok : QOk (fun j => f (r + j * v) - j) (m - 1 - c) m q
 meets : ∀ j, m - 1 - c ≤ j → j < m → ∃ e ∈ q, j ≤ e.1 ∧ e.2 ≤ f (r + j * v) - j
 fin : ∀ a, a < n → (a % v < r ∨ (a % v = r ∧ a < A)) → g a = fur N f v c a

theorem FV.start {N : Int} {f : Nat → Int} {n v c r : Nat} {g : Nat → Int} (hr : r < n) (hv : r < v) (h : ∀ a, a < n → a % v < r → g a = fur N f v c a) : FV N f n v c r 0 r [] g :=
 ⟨by omega, by omega, ⟨fun e h => (by cases h), List.Pairwise.nil⟩, fun j _ h => absurd h (by omega), fun a ha h' => h a ha (by
  rcases h' with h' | ⟨h1, h2⟩
  ·exact h'
  ·have := Nat.mod_eq_of_lt (show a < v by omega); omega)⟩

theorem FV.next {N : Int} {f : Nat → Int} {n v c r m A : Nat} {q : List (Nat × Int)} {g : Nat → Int} {e : Nat × Int} {q' : List (Nat × Int)} (h : FV N f n v c r m A q g) (hv : r < v) (hA : A < n)
  (h1 : QOk (fun j => f (r + j * v) - j) (m - c) (m + 1) (e :: q')) (h2 : ∀ j, m - c ≤ j → j < m + 1 → ∃ d ∈ e :: q', j ≤ d.1 ∧ d.2 ≤ f (r + j * v) - j) :
  FV N f n v c r (m + 1) (A + v) (e :: q') (fun i => if i = A then min (e.2 + m) N else g i) := by
 refine ⟨by have := h.pos; rw [Nat.add_mul]; omega, by omega, by simpa using h1, by simpa using h2, ?_⟩
 intro a ha hc
 by_cases ea : a = A
 ·subst ea
  have he := h1.num e (by simp)
  rw [if_pos rfl]
  have := fur_of_queue (N := N) (b := f) (v := v) (c := c) (rest := r) (m := m) (e := e) hv he.1 (by omega) (by omega) (fun j h3 h4 => h1.first (fun j h5 h6 => h2 j h5 (by omega)) j h3 h4)
  rw [← h.pos] at this
  exact this.symm
 ·rw [if_neg ea]
  refine h.fin a ha (hc.imp id fun ⟨h3, h4⟩ => ⟨h3, ?_⟩)
  have hp := h.pos
  rw [hp]
  exact mod_next h3 (by omega) (by omega)
end Lg
end
section
set_option linter.all false
set_option maxRecDepth 100000
set_option maxHeartbeats 4000000
namespace Lg
open Go Go.Proofs

def nev : Int := 1073741824
def gl (g : Nat → Int) (n : Nat) : List Int := (List.range n).map g
@[simp] theorem gl_len (g : Nat → Int) (n : Nat) : (gl g n).length = n := by simp [gl]
theorem gl_get {g : Nat → Int} {n j : Nat} (h : j < n) : (gl g n)[j]? = some (g j) := by
 unfold gl
 rw [List.getElem?_map, List.getElem?_range h]
 rfl
theorem glR_get {g : Nat → Int} {n j : Nat} (h : j < n) : (intRows (gl g n))[j]? = some [Tr.int (g j)] := intRows_at (gl_get h)
@[simp] theorem glR_len (g : Nat → Int) (n : Nat) : (intRows (gl g n)).length = n := by rw [intRows_len, gl_len]
theorem glR_set {g : Nat → Int} {n j : Nat} {x : Int} : (intRows (gl g n)).set j [Tr.int x] = intRows (gl (fun i => if i = j then x else g i) n) := by
 apply List.ext_getElem?
 intro i
 by_cases hi : i < n
 ·rw [glR_get hi, List.getElem?_set]
  by_cases e : j = i
  ·subst e; simp [hi]
  ·rw [if_neg e, glR_get hi, if_neg (fun h => e h.symm)]
 ·rw [List.getElem?_eq_none (by simp; omega), List.getElem?_eq_none (by simp; omega)]
theorem glR_rep (n : Nat) : List.replicate n [Tr.int 0] = intRows (gl (fun _ => 0) n) := by
 apply List.ext_getElem?
 intro i
 by_cases hi : i < n
 ·rw [glR_get hi, List.getElem?_replicate, if_pos hi]
 ·rw [List.getElem?_eq_none (by simp; omega), List.getElem?_eq_none (by simp; omega)]
theorem glR_rep' (n : Nat) : List.replicate n (List.map Tr.raw [Value.int IntKind.i64 0]) = intRows (gl (fun _ => 0) n) := glR_rep n
theorem gl_ext {f g : Nat → Int} {n : Nat} (h : ∀ j, j < n → f j = g j) : gl f n = gl g n := by
 unfold gl
 exact List.map_congr_left fun j hj => h j (by simpa using hj)

def qrows (q : List (Nat × Int)) : List (List Tr) := q.map fun e => [Tr.int (e.1 : Int), Tr.int e.2]
@[simp] theorem qrows_len (q : List (Nat × Int)) : (qrows q).length = q.length := by simp [qrows]
theorem qrows_app (q p : List (Nat × Int)) : qrows (q ++ p) = qrows q ++ qrows p := by simp [qrows]

theorem further_fn (f : Nat → Int) (N v c : Nat) (mo : Int) (hv : 1 ≤ v ∧ v ≤ 10000) (hc : c ≤ 1000) (hN : N ≤ 20001) (hb : ∀ a, 0 ≤ f a ∧ f a ≤ 1073741824) :
  PFn Tryz.prog 85 [.ints (gl f N), .agg [Tr.int (v : Int), Tr.int (c : Int), Tr.int mo]] (· = .ints (gl (fur nev f v c) N)) := by
 refine PFn.mk (Spec.body Tryz.func85 rfl rfl (Tryz.ntmps85) rfl fun w0 own0 M => ?_)
 have hL := glR_len f N
 repeat' (first | refine goH ?_ | refine goV ?_ | refine goB (fun b => ?_) | refine goC (fun ad cap => ?_) | refine goD (fun ad o cap => ?_) | refine goG ?_ | (refine Ops.k_guard ?_; first | (refine Ops.guard_dec rfl rfl ?_ ?_ <;> intro hc <;> try omega) | refine Ops.guard_split rfl rfl ?_ ?_ <;> intro hc) | refine goI ?_ | (refine Cw.k_cond ?_; first | (refine Cw.cond_dec rfl ?_ ?_ <;> intro hc <;> try omega) | refine Cw.cond_bool rfl ?_ ?_ <;> intro hc) | refine goR ?_ | refine goP ?_ | apply PSeq.cons | apply PSeq.yes rfl rfl rfl | exact goW | fail)

 rw [show ((intRows (gl f N)).length : Int).toNat = N by omega, glR_rep']
 refine Cw.loop (ι := Nat × List (List Tr)) (fun s => s.1 ≤ v ∧ ∃ g, s.2 = intRows (gl g N) ∧ ∀ a, a < N → a % v < s.1 → g a = fur nev f v c a)
  (fun s => [(0, .ints (gl f N)), (3, .ptr b), (5, Tr.raw (.slice ad N cap)), (6, .int s.1)])
  (fun s => [Chunk.own ad cap 1 3 s.2, Chunk.box b 27 [Tr.int (v : Int), Tr.int (c : Int), Tr.int mo]]) (fun s => v - s.1) ⟨(0, _), ⟨by omega, _, rfl, fun a _ h => absurd h (by omega)⟩, (Ent.mk goSub goTk)⟩ ?_
 rintro ⟨r, rows⟩ ⟨hr, g, hg, hdone⟩
 simp only at hr hg hdone ⊢
 by_cases hrv : ¬ (r < v ∧ r < N)

 ·repeat' (first | refine goH ?_ | refine goV ?_ | refine goB (fun b => ?_) | refine goC (fun ad cap => ?_) | refine goD (fun ad o cap => ?_) | refine goG ?_ | (refine Ops.k_guard ?_; first | (refine Ops.guard_dec rfl rfl ?_ ?_ <;> intro hc <;> try omega) | refine Ops.guard_split rfl rfl ?_ ?_ <;> intro hc) | refine goI ?_ | (refine Cw.k_cond ?_; first | (refine Cw.cond_dec rfl ?_ ?_ <;> intro hc <;> try omega) | refine Cw.cond_bool rfl ?_ ?_ <;> intro hc) | refine goR ?_ | refine goP ?_ | apply PSeq.cons | apply PSeq.yes rfl rfl rfl | exact goW | fail)
  all_goals (have hrl : rows.length = N := by rw [hg]; simp)
  all_goals (refine Fin.ret (Ent.trans (Ent.settle (s := 4) rfl goPk (by omega)) (Ent.take goTk)) (Outs.one rfl rfl) ⟨rfl, congrArg (Tr.sl 1) ?_⟩)
  all_goals (rw [hg]; refine congrArg intRows (gl_ext fun j hj => hdone j hj ?_))
  ·have := Nat.mod_le j v; omega
  ·have := Nat.mod_lt j (show v > 0 by omega); omega
 have hrv' : r < v ∧ r < N := by omega
 repeat' (first | refine goH ?_ | refine goV ?_ | refine goB (fun b => ?_) | refine goC (fun ad cap => ?_) | refine goD (fun ad o cap => ?_) | refine goG ?_ | (refine Ops.k_guard ?_; first | (refine Ops.guard_dec rfl rfl ?_ ?_ <;> intro hc <;> try omega) | refine Ops.guard_split rfl rfl ?_ ?_ <;> intro hc) | refine goI ?_ | (refine Cw.k_cond ?_; first | (refine Cw.cond_dec rfl ?_ ?_ <;> intro hc <;> try omega) | refine Cw.cond_bool rfl ?_ ?_ <;> intro hc) | refine goR ?_ | refine goP ?_ | apply PSeq.cons | apply PSeq.yes rfl rfl rfl | exact goW | fail)
 refine Cw.loop (ι := Nat × Nat × (Option Addr × Nat × Nat) × (List (Nat × Int) × (Nat → Int)) × List (List Tr) × List (List Tr))
  (fun s => FV nev f N v c r s.1 s.2.1 s.2.2.2.1.1 s.2.2.2.1.2 ∧ s.2.2.2.2.1 = qrows s.2.2.2.1.1 ∧ s.2.2.2.2.2 = intRows (gl s.2.2.2.1.2 N))
  (fun s => [(0, .ints (gl f N)), (3, .ptr b), (5, Tr.raw (.slice ad N cap)), (6, .int r), (7, .qsl s.2.2.1.1 s.2.2.1.2.1 2 s.2.2.2.2.1.length s.2.2.1.2.2), (8, .int s.1), (9, .int s.2.1)])
  (fun s => [Chunk.que s.2.2.1.1 s.2.2.1.2.1 s.2.2.1.2.2 2 211 s.2.2.2.2.1, Chunk.own ad cap 1 3 s.2.2.2.2.2, Chunk.box b 27 [Tr.int (v : Int), Tr.int (c : Int), Tr.int mo]]) (fun s => N - s.2.1)
  ⟨(0, r, (none, 0, 0), ([], g), [], rows), ⟨FV.start hrv'.2 hrv'.1 hdone, rfl, hg⟩, Ent.trans (Ent.nilq 2 211 (s := 7) rfl) (Ent.mk goSub goTk)⟩ ?_
 rintro ⟨m, A, ⟨qa, qo, qc⟩, ⟨q, g2⟩, qr, rows2⟩ ⟨hF, hqr, hg2⟩
 simp only at hF hqr hg2 ⊢
 by_cases hA : ¬ A < N
 ·repeat' (first | refine goH ?_ | refine goV ?_ | refine goB (fun b => ?_) | refine goC (fun ad cap => ?_) | refine goD (fun ad o cap => ?_) | refine goG ?_ | (refine Ops.k_guard ?_; first | (refine Ops.guard_dec rfl rfl ?_ ?_ <;> intro hc <;> try omega) | refine Ops.guard_split rfl rfl ?_ ?_ <;> intro hc) | refine goI ?_ | (refine Cw.k_cond ?_; first | (refine Cw.cond_dec rfl ?_ ?_ <;> intro hc <;> try omega) | refine Cw.cond_bool rfl ?_ ?_ <;> intro hc) | refine goR ?_ | refine goP ?_ | apply PSeq.cons | apply PSeq.yes rfl rfl rfl | exact goW | fail)
  refine ⟨(r + 1, _), ⟨by omega, g2, hg2, fun a ha h => hF.fin a ha ?_⟩, by simp only; omega, (Ent.mk goSub goTk)⟩
  simp only at h
  omega
 replace hA : A < N := by omega
 have hlim := hF.lim
 have hpos := hF.pos
 have hmN : m ≤ A := by rw [hpos]; have := Nat.le_mul_of_pos_right m (show 0 < v by omega); omega
 have hfA : (intRows (gl f N))[((A : Nat) : Int).toNat]? = some [Tr.int (f A)] := glR_get hA
 have hfb := hb A
 repeat' (first | refine goH ?_ | refine goV ?_ | refine goB (fun b => ?_) | refine goC (fun ad cap => ?_) | refine goD (fun ad o cap => ?_) | refine goG ?_ | (refine Ops.k_guard ?_; first | (refine Ops.guard_dec rfl rfl ?_ ?_ <;> intro hc <;> try omega) | refine Ops.guard_split rfl rfl ?_ ?_ <;> intro hc) | refine goI ?_ | (refine Cw.k_cond ?_; first | (refine Cw.cond_dec rfl ?_ ?_ <;> intro hc <;> try omega) | refine Cw.cond_bool rfl ?_ ?_ <;> intro hc) | refine goR ?_ | refine goP ?_ | apply PSeq.cons | apply PSeq.yes rfl rfl rfl | exact goW | fail)
 obtain ⟨x, hx⟩ : ∃ x, x = f A - m := ⟨_, rfl⟩
 have hFm : f (r + m * v) - m = x := by rw [← hpos, hx]
 rw [← hx]
 refine Cw.loop (ι := List (Nat × Int) × List (List Tr)) (fun s => s.2 = qrows s.1 ∧ QOk (fun j => f (r + j * v) - j) (m - 1 - c) m s.1 ∧ QMeets (fun j => f (r + j * v) - j) (m - 1 - c) m s.1 x)
  (fun s => [(0, .ints (gl f N)), (3, .ptr b), (5, Tr.raw (.slice ad N cap)), (6, .int r), (7, .qsl qa qo 2 s.2.length qc), (8, .int m), (9, .int A), (10, .int x)])
  (fun s => [Chunk.que qa qo qc 2 211 s.2, Chunk.own ad cap 1 3 rows2, Chunk.box b 27 [Tr.int (v : Int), Tr.int (c : Int), Tr.int mo]]) (fun s => s.1.length)
  ⟨(q, qr), ⟨hqr, hF.ok, fun j h1 h2 => .inl (hF.meets j h1 h2)⟩, (Ent.mk goSub goTk)⟩ ?_
 clear hqr hfA
 rintro ⟨q2, qr2⟩ ⟨hqr, hok2, hm2⟩
 simp only at hqr hok2 hm2 ⊢
 subst hqr
 have hql := qrows_len q2
 have hqlen := hok2.len (by omega)
 by_cases hpop : ∃ q3 e, q2 = q3 ++ [e] ∧ x ≤ e.2
 ·obtain ⟨q3, e, rfl, he⟩ := hpop
  have hql2 : (qrows (q3 ++ [e])).length = q3.length + 1 := by simp
  have hql5 : (q3 ++ [e]).length = q3.length + 1 := by simp
  have hrow : (qrows (q3 ++ [e]))[(((qrows (q3 ++ [e])).length : Int) - 1).toNat]? = some [Tr.int (e.1 : Int), Tr.int e.2] := by
   rw [hql2, show (((q3.length + 1 : Nat) : Int) - 1).toNat = q3.length by omega, qrows_app, List.getElem?_append_right (by simp)]
   simp [qrows]
  have htake : (qrows (q3 ++ [e])).take (((qrows (q3 ++ [e])).length : Int) - 1).toNat = qrows q3 := by
   rw [hql2, show (((q3.length + 1 : Nat) : Int) - 1).toNat = q3.length by omega, qrows_app, List.take_left' (by simp)]
  repeat' (first | refine goH ?_ | refine goV ?_ | refine goB (fun b => ?_) | refine goC (fun ad cap => ?_) | refine goD (fun ad o cap => ?_) | refine goG ?_ | (refine Ops.k_guard ?_; first | (refine Ops.guard_dec rfl rfl ?_ ?_ <;> intro hc <;> try omega) | refine Ops.guard_split rfl rfl ?_ ?_ <;> intro hc) | refine goI ?_ | (refine Cw.k_cond ?_; first | (refine Cw.cond_dec rfl ?_ ?_ <;> intro hc <;> try omega) | refine Cw.cond_bool rfl ?_ ?_ <;> intro hc) | refine goR ?_ | refine goP ?_ | apply PSeq.cons | apply PSeq.yes rfl rfl rfl | exact goW | fail)
  exact ⟨(q3, _), ⟨htake, hok2.pop, hm2.pop he⟩, by simp, (Ent.mk goSub goTk)⟩
 have hlast : ∀ e, q2.getLast? = some e → e.2 < f (r + m * v) - m := by
  intro e he
  rw [hFm]
  rcases (show e.2 < x ∨ x ≤ e.2 by omega) with h | h
  ·exact h
  ·obtain ⟨q3, rfl⟩ := List.getLast?_eq_some_iff.1 he
   exact absurd ⟨q3, e, rfl, h⟩ hpop
 have hok4 := hok2.push (at' := m) hlast (by omega)
 rw [← hFm] at hm2
 have hm4 := hm2.push'
 rw [hFm] at hok4 hm4
 have hq4 : qrows q2 ++ [[Tr.int (m : Int), Tr.int x]] = qrows (q2 ++ [(m, x)]) := by rw [qrows_app]; rfl
 have hql4 : (qrows q2 ++ [[Tr.int (m : Int), Tr.int x]]).length = q2.length + 1 := by simp
 obtain ⟨e0, q1, he0⟩ : ∃ e0 q1, q2 ++ [(m, x)] = e0 :: q1 := by
  cases q2 with
  |nil => exact ⟨_, _, rfl⟩
  |cons a l => exact ⟨_, _, rfl⟩
 rw [he0] at hok4 hm4 hq4
 have hrow0 : (qrows q2 ++ [[Tr.int (m : Int), Tr.int x]])[(0 : Int).toNat]? = some [Tr.int (e0.1 : Int), Tr.int e0.2] := by rw [hq4]; rfl
 have hrowA : rows2[((A : Nat) : Int).toNat]? = some [Tr.int (g2 A)] := by rw [hg2]; exact glR_get hA
 have hrl2 : rows2.length = N := by rw [hg2]; simp
 have hb0 : -20001 ≤ e0.2 ∧ e0.2 ≤ 1073741824 ∧ e0.1 ≤ m := by
  obtain ⟨h1, h2, h3⟩ := hok4.num e0 (by simp)
  have := hb (r + e0.1 * v)
  omega
 have hset : ∀ y : Int, rows2.set A [Tr.int y] = intRows (gl (fun i => if i = A then y else g2 i) N) := fun y => by rw [hg2, glR_set]
 rcases List.eq_nil_or_concat q2 with hq | ⟨q3, e, hq⟩
 ·subst hq
  have hql6 : (qrows []).length = 0 := rfl
  simp only [List.nil_append, List.cons.injEq] at he0
  obtain ⟨rfl, rfl⟩ := he0
  have hs : ¬ ((m : Int) < m - c) := by omega
  repeat' (first | refine goH ?_ | refine goV ?_ | refine goB (fun b => ?_) | refine goC (fun ad cap => ?_) | refine goD (fun ad o cap => ?_) | refine goG ?_ | (refine Ops.k_guard ?_; first | (refine Ops.guard_dec rfl rfl ?_ ?_ <;> intro hc <;> try omega) | refine Ops.guard_split rfl rfl ?_ ?_ <;> intro hc) | refine goI ?_ | (refine Cw.k_cond ?_; first | (refine Cw.cond_dec rfl ?_ ?_ <;> intro hc <;> try omega) | refine Cw.cond_bool rfl ?_ ?_ <;> intro hc) | refine goR ?_ | refine goP ?_ | apply PSeq.cons | apply PSeq.yes rfl rfl rfl | exact goW | fail)
  refine ⟨(m + 1, A + v, (_, _, _), ([(m, x)], fun i => if i = A then min (x + m) nev else g2 i), _, _), ?_, ?_, (Ent.mk goSub goTk)⟩
  ·exact ⟨hF.next hrv'.1 hA (hok4.stay (by simp only; omega)) (fun j h1 h2 => hm4 j (by omega) h2), hq4, hset _⟩
  ·simp only; omega
 ·rw [List.concat_eq_append] at hq
  have hrow : (qrows q2)[(((qrows q2).length : Int) - 1).toNat]? = some [Tr.int (e.1 : Int), Tr.int e.2] := by
   rw [hql, hq, show (((q3 ++ [e]).length : Int) - 1).toNat = q3.length by simp, qrows_app, List.getElem?_append_right (by simp)]
   simp [qrows]
  have hql3 : q2.length = q3.length + 1 := by rw [hq]; simp
  have hlt : e.2 < x := by have := hlast e (by rw [hq]; simp); omega
  by_cases hs : (e0.1 : Int) < m - c
  ·obtain ⟨e1, q5, rfl⟩ : ∃ e1 q5, q1 = e1 :: q5 := by
    cases q1 with
    |nil =>
     have := congrArg List.length he0
     rw [List.length_append] at this
     simp only [List.length_cons, List.length_nil] at this
     omega
    |cons e1 q5 => exact ⟨_, _, rfl⟩
   have hrow1 : ((qrows q2 ++ [[Tr.int (m : Int), Tr.int x]]).drop ((1 : Int).toNat))[(0 : Int).toNat]? = some [Tr.int (e1.1 : Int), Tr.int e1.2] := by rw [hq4]; rfl
   have hb1 : -20001 ≤ e1.2 ∧ e1.2 ≤ 1073741824 ∧ e1.1 ≤ m := by
    obtain ⟨h1, h2, h3⟩ := hok4.num e1 (by simp)
    have := hb (r + e1.1 * v)
    omega
   repeat' (first | refine goH ?_ | refine goV ?_ | refine goB (fun b => ?_) | refine goC (fun ad cap => ?_) | refine goD (fun ad o cap => ?_) | refine goG ?_ | (refine Ops.k_guard ?_; first | (refine Ops.guard_dec rfl rfl ?_ ?_ <;> intro hc <;> try omega) | refine Ops.guard_split rfl rfl ?_ ?_ <;> intro hc) | refine goI ?_ | (refine Cw.k_cond ?_; first | (refine Cw.cond_dec rfl ?_ ?_ <;> intro hc <;> try omega) | refine Cw.cond_bool rfl ?_ ?_ <;> intro hc) | refine goR ?_ | refine goP ?_ | apply PSeq.cons | apply PSeq.yes rfl rfl rfl | exact goW | fail)
   refine ⟨(m + 1, A + v, (_, _, _), (e1 :: q5, fun i => if i = A then min (e1.2 + m) nev else g2 i), _, _), ?_, ?_, (Ent.mk goSub goTk)⟩
   ·refine ⟨hF.next hrv'.1 hA (hok4.shift (by omega) (by omega)) (fun j h1 h2 => ?_), ?_, hset _⟩
    ·obtain ⟨d, hd, h3, h4⟩ := hm4 j (by omega) h2
     rcases List.mem_cons.1 hd with rfl | hd
     ·omega
     ·exact ⟨d, hd, h3, h4⟩
    ·exact congrArg (List.drop 1) hq4
   ·simp only; omega
  ·repeat' (first | refine goH ?_ | refine goV ?_ | refine goB (fun b => ?_) | refine goC (fun ad cap => ?_) | refine goD (fun ad o cap => ?_) | refine goG ?_ | (refine Ops.k_guard ?_; first | (refine Ops.guard_dec rfl rfl ?_ ?_ <;> intro hc <;> try omega) | refine Ops.guard_split rfl rfl ?_ ?_ <;> intro hc) | refine goI ?_ | (refine Cw.k_cond ?_; first | (refine Cw.cond_dec rfl ?_ ?_ <;> intro hc <;> try omega) | refine Cw.cond_bool rfl ?_ ?_ <;> intro hc) | refine goR ?_ | refine goP ?_ | apply PSeq.cons | apply PSeq.yes rfl rfl rfl | exact goW | fail)
   refine ⟨(m + 1, A + v, (_, _, _), (e0 :: q1, fun i => if i = A then min (e0.2 + m) nev else g2 i), _, _), ?_, ?_, (Ent.mk goSub goTk)⟩
   ·exact ⟨hF.next hrv'.1 hA (hok4.stay (by omega)) (fun j h1 h2 => hm4 j (by omega) h2), hq4, hset _⟩
   ·simp only; omega
end Lg
end
