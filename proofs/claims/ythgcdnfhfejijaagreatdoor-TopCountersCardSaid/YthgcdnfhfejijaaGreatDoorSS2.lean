/- A part of the proof of a law of this seat: it adds no condition. By an AI agent. -/
import Derived.Test.YthgcdnfhfejijaaGreatDoorLgFrm
import Derived.Test.YthgcdnfhfejijaaGreatDoorIdx
section
set_option linter.all false
set_option maxRecDepth 100000
set_option maxHeartbeats 8000000
namespace Lg
open Go Go.Proofs

/-! ### a total divided among weights -/
def sumL (l : List Int) : Int := sumF (fun x => x) l
theorem sumL_nil : sumL [] = 0 := rfl
theorem sumL_cons (x : Int) (l : List Int) : sumL (x :: l) = x + sumL l := rfl
theorem sumL_app (a b : List Int) : sumL (a ++ b) = sumL a + sumL b := sumF_app _ a b
theorem sumL_take {l : List Int} {k : Nat} {x : Int} (h : l[k]? = some x) : sumL (l.take (k + 1)) = sumL (l.take k) + x := by
 rw [take_at h, sumL_app, sumL_cons, sumL_nil, Int.add_zero]
theorem sumL_bd {m : Int} : ∀ {l : List Int}, (∀ x ∈ l, 0 ≤ x ∧ x ≤ m) → 0 ≤ sumL l ∧ sumL l ≤ l.length * m
 |[], _ => by simp [sumL_nil]
 |x :: l, h => by
  have h1 := h x (by simp)
  have h2 := sumL_bd (m := m) (l := l) (fun y hy => h y (by simp [hy]))
  rw [sumL_cons, List.length_cons]
  have : ((l.length + 1 : Nat) : Int) * m = l.length * m + m := by rw [Int.natCast_add, Int.add_mul]; simp
  omega
def upto (n : Nat) : List Int := (List.range n).map fun i : Nat => (i : Int)
theorem upto_len (n : Nat) : (upto n).length = n := by simp [upto]
theorem upto_at {n k : Nat} (h : k < n) : (upto n)[k]? = some (k : Int) := by simp [upto, h]
theorem upto_mem {n : Nat} {x : Int} (h : x ∈ upto n) : 0 ≤ x ∧ x < n := by
 unfold upto at h
 obtain ⟨i, hi, rfl⟩ := List.mem_map.1 h
 have := List.mem_range.1 hi
 omega
def shBase (t s : Int) (ws : List Int) : List Int := ws.map fun w => t * w / s
def shRem (t s : Int) (ws : List Int) (i : Int) : Int := t * ws.getD i.toNat 0 % s
def addOne (out : List Int) (i : Int) : List Int := out.set i.toNat (out.getD i.toNat 0 + 1)
def shF (out : List Int) : List Int → List Int
 |[] => out
 |i :: l => shF (addOne out i) l
def shLeft (t s : Int) (ws : List Int) : Int := t - sumL (shBase t s ws)
theorem shF_len : ∀ (l out : List Int), (shF out l).length = out.length
 |[], out => rfl
 |i :: l, out => by rw [shF, shF_len l]; unfold addOne; rw [List.length_set]
theorem sh_q {t w s : Int} (hs : 1 ≤ s) : s * (t * w / s) ≤ t * w ∧ t * w ≤ s * (t * w / s) + (s - 1) := by
 have h1 := Int.mul_ediv_self_le (x := t * w) (k := s) (by omega)
 have h2 := Int.lt_mul_ediv_self_add (x := t * w) (k := s) (by omega)
 omega
theorem sh_sum {t s : Int} (hs : 1 ≤ s) : ∀ ws : List Int, s * sumL (shBase t s ws) ≤ t * sumL ws ∧ t * sumL ws ≤ s * sumL (shBase t s ws) + (s - 1) * ws.length
 |[] => by simp [shBase, sumL_nil]
 |w :: ws => by
  have h1 := sh_q (t := t) (w := w) hs
  have h2 := sh_sum (t := t) hs ws
  rw [show shBase t s (w :: ws) = (t * w / s) :: shBase t s ws from rfl, sumL_cons, sumL_cons, Int.mul_add, Int.mul_add, List.length_cons]
  have : (s - 1) * ((ws.length + 1 : Nat) : Int) = (s - 1) * ws.length + (s - 1) := by rw [Int.natCast_add, Int.mul_add]; simp
  rw [this]
  omega
theorem sh_left {t : Int} {ws : List Int} (hs : 1 ≤ sumL ws) (hn : 1 ≤ ws.length) : 0 ≤ shLeft t (sumL ws) ws ∧ shLeft t (sumL ws) ws ≤ ws.length := by
 obtain ⟨h1, h2⟩ := sh_sum (t := t) hs ws
 unfold shLeft
 generalize sumL ws = s at *
 generalize sumL (shBase t s ws) = q at *
 constructor
 ·have : s * q ≤ s * t := by rw [Int.mul_comm s t]; exact h1
  have := Int.le_of_mul_le_mul_left this (by omega)
  omega
 ·have h3 : s * t ≤ s * (q + ws.length) := by
   rw [Int.mul_comm s t, Int.mul_add]
   refine Int.le_trans h2 ?_
   have : (s - 1) * (ws.length : Int) = s * ws.length - ws.length := by rw [Int.sub_mul, Int.one_mul]
   omega
  have := Int.le_of_mul_le_mul_left h3 (by omega)
  omega
theorem fill_set {B : List Int} {n k : Nat} {v : Int} (hB : B.length = n) (h : B[k]? = some v) : (B.take k ++ List.replicate (n - k) 0).set k v = B.take (k + 1) ++ List.replicate (n - (k + 1)) 0 := by
 have hk := (List.getElem?_eq_some_iff.1 h).1
 have hl : (B.take k).length = k := by rw [List.length_take]; omega
 rw [List.set_append_right _ _ (by omega), hl, Nat.sub_self, take_at h, show n - k = (n - (k + 1)) + 1 by omega, List.replicate_succ, List.set_cons_zero]
 simp
theorem fill_at (B : List Int) {n k : Nat} (hB : B.length = n) (hk : k < n) : (B.take k ++ List.replicate (n - k) 0)[k]? = some 0 := by
 have hl : (B.take k).length = k := by rw [List.length_take]; omega
 rw [List.getElem?_append_right (by omega), hl, Nat.sub_self, show n - k = (n - k - 1) + 1 by omega, List.replicate_succ]
 rfl
theorem ints_set (l : List Int) (i : Nat) (v : Int) : (intRows l).set i [Tr.int v] = intRows (l.set i v) := by
 unfold intRows
 rw [List.map_set]
theorem ints_rep (n : Nat) : List.replicate n [Tr.int 0] = intRows (List.replicate n 0) := by
 unfold intRows
 rw [List.map_replicate]
theorem sharedLt_fn (b3 b4 b5 : Nat) (t s : Int) (ws : List Int) (ht : 0 ≤ t ∧ t ≤ 1000000000) (hs : 1 ≤ s ∧ s ≤ 1000000000) (hw : ∀ w ∈ ws, 0 ≤ w ∧ w ≤ 1000000) (a b : Int) (ha : 0 ≤ a ∧ a < ws.length) (hb : 0 ≤ b ∧ b < ws.length) :
  Spec Tryz.prog 60 ([.int a, .int b] ++ [Value.pointer (some ⟨b3, 0, none⟩), Value.pointer (some ⟨b4, 0, none⟩), Value.pointer (some ⟨b5, 0, none⟩)].map Tr.raw) [Chunk.box b3 3 [.int t], Chunk.box b4 22 [.ints ws], Chunk.box b5 3 [.int s]] (fun r cs => r = .int (cmpI (shRem t s ws b) (shRem t s ws a)) ∧ cs = [Chunk.box b3 3 [.int t], Chunk.box b4 22 [.ints ws], Chunk.box b5 3 [.int s]]) := by
 have hL := intRows_len ws
 obtain ⟨x, hx⟩ := at_lt (l := ws) (k := a.toNat) (by omega)
 obtain ⟨y, hy⟩ := at_lt (l := ws) (k := b.toNat) (by omega)
 have r1 := intRows_at hx
 have r2 := intRows_at hy
 have hxb := hw x (List.mem_of_getElem? hx)
 have hyb := hw y (List.mem_of_getElem? hy)
 have e1 : shRem t s ws a = t * x % s := by unfold shRem; rw [List.getD_eq_getElem?_getD, hx]; rfl
 have e2 : shRem t s ws b = t * y % s := by unfold shRem; rw [List.getD_eq_getElem?_getD, hy]; rfl
 rw [e1, e2]
 have m1 : 0 ≤ t * x ∧ t * x ≤ 1000000000000000 := ⟨Int.mul_nonneg ht.1 hxb.1, by have := Int.mul_le_mul ht.2 hxb.2 hxb.1 (by omega); omega⟩
 have m2 : 0 ≤ t * y ∧ t * y ≤ 1000000000000000 := ⟨Int.mul_nonneg ht.1 hyb.1, by have := Int.mul_le_mul ht.2 hyb.2 hyb.1 (by omega); omega⟩
 have m3 : -9223372036854775808 ≤ t * x ∧ t * x ≤ 9223372036854775807 := by omega
 have m4 : -9223372036854775808 ≤ t * y ∧ t * y ≤ 9223372036854775807 := by omega
 have k1 := compare_fn (t * y % s) (t * x % s)
 clear hx hy e1 e2
 refine Spec.body Tryz.func60 rfl rfl (Tryz.ntmps60) rfl fun w0 own0 M => ?_
 repeat' (first | refine goH ?_ | refine goV ?_ | refine goI ?_ | (refine Cw.k_cond ?_; first | (refine Cw.cond_dec rfl ?_ ?_ <;> intro hc <;> try omega) | refine Cw.cond_bool rfl ?_ ?_ <;> intro hc) | (refine Ops.k_calla ?_; first | (refine Ops.k_callf 36 ?_; refine Ops.callV k1 (Evs.cons rfl (Evs.cons rfl Evs.nil)) rfl ?_)) | (apply OpW.k_call; first | (apply OpW.k_callf 36; exact OpW.callV k1 (Evs.cons rfl (Evs.cons rfl Evs.nil)))) | refine goR ?_ | refine goP ?_ | apply PSeq.cons | apply PSeq.yes rfl rfl rfl | exact goW | fail)
 exact Fin.ret (Ent.take goTk) (Outs.one rfl rfl) ⟨rfl, rfl⟩
end Lg
end
section
set_option linter.all false
set_option maxRecDepth 100000
set_option maxHeartbeats 1000000
namespace Lg
open Go

/-! ### the stable sort of the library, at whatever length: what it does is determined -/
abbrev ix (L : List Int) (i : Nat) : Int := L.getD i 0
theorem ix_lt {L : List Int} {i : Nat} (h : i < L.length) : L[i]? = some (ix L i) := by
 unfold ix
 rw [List.getD_eq_getElem?_getD, List.getElem?_eq_getElem h]
 rfl
/-- a list of N numbers, each of a kind -/
structure LOf (V : Int → Prop) (N : Nat) (L : List Int) : Prop where
 len : L.length = N
 mem : ∀ x ∈ L, V x
theorem LOf.ix {V : Int → Prop} {N : Nat} {L : List Int} (h : LOf V N L) {i : Nat} (hi : i < N) : V (Lg.ix L i) := h.mem _ (List.mem_of_getElem? (ix_lt (by rw [h.len]; exact hi)))
def swp (L : List Int) (i j : Nat) : List Int := (L.set i (ix L j)).set j (ix L i)
theorem LOf.swp {V : Int → Prop} {N : Nat} {L : List Int} (h : LOf V N L) {i j : Nat} (hi : i < N) (hj : j < N) : LOf V N (Lg.swp L i j) := by
 refine ⟨by unfold Lg.swp; rw [List.length_set, List.length_set, h.len], fun x hx => ?_⟩
 rcases List.mem_or_eq_of_mem_set hx with h1 | h1
 ·rcases List.mem_or_eq_of_mem_set h1 with h2 | h2
  ·exact h.mem x h2
  ·subst h2; exact h.ix hj
 ·subst h1; exact h.ix hi
def swR (L : List Int) (a b : Nat) : Nat → List Int
 |0 => L
 |n + 1 => swp (swR L a b n) (a + n) (b + n)
theorem LOf.swR {V : Int → Prop} {N : Nat} {L : List Int} (h : LOf V N L) {a b : Nat} : ∀ {n : Nat}, a + n ≤ N → b + n ≤ N → LOf V N (Lg.swR L a b n)
 |0, _, _ => h
 |n + 1, h1, h2 => (LOf.swR h (n := n) (by omega) (by omega)).swp (by omega) (by omega)
def mvU (L : List Int) (a : Nat) : Nat → List Int
 |0 => L
 |n + 1 => swp (mvU L a n) (a + n) (a + n + 1)
theorem LOf.mvU {V : Int → Prop} {N : Nat} {L : List Int} (h : LOf V N L) {a : Nat} : ∀ {n : Nat}, (n = 0 ∨ a + n < N) → LOf V N (Lg.mvU L a n)
 |0, _ => h
 |n + 1, h1 => (LOf.mvU h (n := n) (by omega)).swp (by omega) (by omega)
def mvD (L : List Int) (m : Nat) : Nat → List Int
 |0 => L
 |n + 1 => swp (mvD L m n) (m - n) (m - n - 1)
theorem LOf.mvD {V : Int → Prop} {N : Nat} {L : List Int} (h : LOf V N L) {m : Nat} (hm : m < N) : ∀ {n : Nat}, LOf V N (Lg.mvD L m n)
 |0 => h
 |n + 1 => (LOf.mvD h hm (n := n)).swp (by omega) (by omega)
def insJ (cf : Int → Int → Int) (a : Nat) : Nat → List Int → List Int
 |0, L => L
 |j + 1, L => if a < j + 1 ∧ cf (ix L (j + 1)) (ix L j) < 0 then insJ cf a j (swp L (j + 1) j) else L
theorem LOf.insJ {V : Int → Prop} {N : Nat} {cf : Int → Int → Int} {a : Nat} : ∀ {j : Nat} {L : List Int}, LOf V N L → j < N → LOf V N (Lg.insJ cf a j L)
 |0, L, h, _ => h
 |j + 1, L, h, hj => by
  unfold Lg.insJ
  split
  ·exact LOf.insJ (h.swp (by omega) (by omega)) (by omega)
  ·exact h
def insI (cf : Int → Int → Int) (a : Nat) (L : List Int) : Nat → List Int
 |0 => L
 |n + 1 => insJ cf a (a + 1 + n) (insI cf a L n)
theorem LOf.insI {V : Int → Prop} {N : Nat} {cf : Int → Int → Int} {a : Nat} {L : List Int} (h : LOf V N L) : ∀ {n : Nat}, (n = 0 ∨ a + n < N) → LOf V N (Lg.insI cf a L n)
 |0, _ => h
 |n + 1, h1 => (LOf.insI h (n := n) (by omega)).insJ (by omega)
theorem det_if {α : Type} {p : Prop} {P : α → Prop} {x y z : α} (ih : p → ∀ {b : α}, P b → x = b) (h0 : ¬ p → x = z) (g1 : p → P y) (g0 : ¬ p → y = z) : x = y := by
 by_cases c : p
 ·exact ih c (g1 c)
 ·exact (h0 c).trans (g0 c).symm
inductive Rot : List Int → Nat → Nat → Nat → List Int → Prop
 |done {L m i} : Rot L m i i (swR L (m - i) m i)
 |gt {L m i j R} (h : j < i) (k : Rot (swR L (m - i) m j) m (i - j) j R) : Rot L m i j R
 |lt {L m i j R} (h : i < j) (k : Rot (swR L (m - i) (m + j - i) i) m i (j - i) R) : Rot L m i j R
theorem Rot.det {L : List Int} {m i j : Nat} {R : List Int} (h : Rot L m i j R) : ∀ {R' : List Int}, Rot L m i j R' → R = R' := by
 induction h with
 |done =>
  intro R' h'
  cases h' with
  |done => rfl
  |gt h => omega
  |lt h => omega
 |gt h _ ih =>
  intro R' h'
  cases h' with
  |done => omega
  |gt _ k => exact ih k
  |lt h => omega
 |lt h _ ih =>
  intro R' h'
  cases h' with
  |done => omega
  |gt h => omega
  |lt _ k => exact ih k
inductive Bs (p : Nat → Bool) : Nat → Nat → Nat → Prop
 |done {i j} (h : ¬ i < j) : Bs p i j i
 |up {i j s} (h : i < j) (hp : p ((i + j) / 2) = true) (k : Bs p ((i + j) / 2 + 1) j s) : Bs p i j s
 |dn {i j s} (h : i < j) (hp : p ((i + j) / 2) = false) (k : Bs p i ((i + j) / 2) s) : Bs p i j s
theorem Bs.det {p : Nat → Bool} {i j s : Nat} (h : Bs p i j s) : ∀ {s' : Nat}, Bs p i j s' → s = s' := by
 induction h with
 |done h =>
  intro s' h'
  cases h' with
  |done _ => rfl
  |up h2 => exact absurd h2 h
  |dn h2 => exact absurd h2 h
 |up h hp _ ih =>
  intro s' h'
  cases h' with
  |done h2 => exact absurd h h2
  |up _ _ k => exact ih k
  |dn _ hp2 => rw [hp] at hp2; cases hp2
 |dn h hp _ ih =>
  intro s' h'
  cases h' with
  |done h2 => exact absurd h h2
  |up _ hp2 => rw [hp] at hp2; cases hp2
  |dn _ _ k => exact ih k
inductive Sym (cf : Int → Int → Int) : List Int → Nat → Nat → Nat → List Int → Prop
 |one {L a m b i} (h : m - a = 1) (hb : Bs (fun h => decide (cf (ix L h) (ix L a) < 0)) m b i) : Sym cf L a m b (mvU L a (i - 1 - a))
 |two {L a m b i} (h : ¬ m - a = 1) (h2 : b - m = 1) (hb : Bs (fun h => !decide (cf (ix L m) (ix L h) < 0)) a m i) : Sym cf L a m b (mvD L m (m - i))
 |gen {L a m b d u v s e L1 L2 L3} (h : ¬ m - a = 1) (h2 : ¬ b - m = 1) (hd : d = (a + b) / 2) (hu : u = if d < m then d + m - b else a) (hv : v = if d < m then d else m)
   (hb : Bs (fun c => !decide (cf (ix L (d + m - 1 - c)) (ix L c) < 0)) u v s) (he : e = d + m - s)
   (r1 : (s < m ∧ m < e) → Rot L m (m - s) (e - m) L1) (r0 : ¬ (s < m ∧ m < e) → L1 = L)
   (s1 : (a < s ∧ s < d) → Sym cf L1 a s d L2) (s0 : ¬ (a < s ∧ s < d) → L2 = L1)
   (t1 : (d < e ∧ e < b) → Sym cf L2 d e b L3) (t0 : ¬ (d < e ∧ e < b) → L3 = L2) : Sym cf L a m b L3
theorem Sym.det {cf : Int → Int → Int} {L : List Int} {a m b : Nat} {R : List Int} (h : Sym cf L a m b R) : ∀ {R' : List Int}, Sym cf L a m b R' → R = R' := by
 induction h with
 |one h hb =>
  intro R' h'
  cases h' with
  |one _ hb2 => rw [hb.det hb2]
  |two h2 => exact absurd h h2
  |gen h2 => exact absurd h h2
 |two h h2 hb =>
  intro R' h'
  cases h' with
  |one h3 => exact absurd h3 h
  |two _ _ hb2 => rw [hb.det hb2]
  |gen _ h3 => exact absurd h2 h3
 |gen h h2 hd hu hv hb he r1 r0 s1 s0 t1 t0 ih1 ih2 =>
  intro R' h'
  cases h' with
  |one h3 => exact absurd h3 h
  |two _ h3 => exact absurd h3 h2
  |gen _ _ hd' hu' hv' hb' he' r1' r0' s1' s0' t1' t0' =>
   subst hd hd'
   subst hu hu' hv hv'
   have es := hb.det hb'
   subst es
   subst he he'
   have e1 := det_if (fun c => (r1 c).det) r0 r1' r0'
   subst e1
   have e2 := det_if ih1 s0 s1' s0'
   subst e2
   exact det_if ih2 t0 t1' t0'
inductive Blk (cf : Int → Int → Int) (n : Nat) : List Int → Nat → List Int → Nat → Prop
 |done {L a} (h : ¬ a + 20 ≤ n) : Blk cf n L a L a
 |go {L a R e} (h : a + 20 ≤ n) (k : Blk cf n (insI cf a L 19) (a + 20) R e) : Blk cf n L a R e
theorem Blk.det {cf : Int → Int → Int} {n : Nat} {L : List Int} {a : Nat} {R : List Int} {e : Nat} (h : Blk cf n L a R e) : ∀ {R' : List Int} {e' : Nat}, Blk cf n L a R' e' → R = R' ∧ e = e' := by
 induction h with
 |done h =>
  intro R' e' h'
  cases h' with
  |done _ => exact ⟨rfl, rfl⟩
  |go h2 => exact absurd h2 h
 |go h _ ih =>
  intro R' e' h'
  cases h' with
  |done h2 => exact absurd h h2
  |go _ k => exact ih k
inductive Mrg (cf : Int → Int → Int) (n s : Nat) : List Int → Nat → List Int → Nat → Prop
 |done {L a} (h : ¬ a + 2 * s ≤ n) : Mrg cf n s L a L a
 |go {L a L' R e} (h : a + 2 * s ≤ n) (hs : Sym cf L a (a + s) (a + 2 * s) L') (k : Mrg cf n s L' (a + 2 * s) R e) : Mrg cf n s L a R e
theorem Mrg.det {cf : Int → Int → Int} {n s : Nat} {L : List Int} {a : Nat} {R : List Int} {e : Nat} (h : Mrg cf n s L a R e) : ∀ {R' : List Int} {e' : Nat}, Mrg cf n s L a R' e' → R = R' ∧ e = e' := by
 induction h with
 |done h =>
  intro R' e' h'
  cases h' with
  |done _ => exact ⟨rfl, rfl⟩
  |go h2 => exact absurd h2 h
 |go h hs _ ih =>
  intro R' e' h'
  cases h' with
  |done h2 => exact absurd h h2
  |go _ hs2 k =>
   have := hs.det hs2
   subst this
   exact ih k
inductive Stb (cf : Int → Int → Int) (n : Nat) : List Int → Nat → List Int → Prop
 |done {L s} (h : ¬ s < n) : Stb cf n L s L
 |go {L s R e R' S} (h : s < n) (hm : Mrg cf n s L 0 R e) (h1 : e + s < n → Sym cf R e (e + s) n R') (h0 : ¬ e + s < n → R' = R) (k : Stb cf n R' (2 * s) S) : Stb cf n L s S
theorem Stb.det {cf : Int → Int → Int} {n : Nat} {L : List Int} {s : Nat} {S : List Int} (h : Stb cf n L s S) : ∀ {S' : List Int}, Stb cf n L s S' → S = S' := by
 induction h with
 |done h =>
  intro S' h'
  cases h' with
  |done _ => rfl
  |go h2 => exact absurd h2 h
 |go h hm h1 h0 _ ih =>
  intro S' h'
  cases h' with
  |done h2 => exact absurd h h2
  |go _ hm2 h1' h0' k =>
   obtain ⟨e1, e2⟩ := hm.det hm2
   subst e1 e2
   have e3 := det_if (fun c => (h1 c).det) h0 h1' h0'
   subst e3
   exact ih k
/-- what slices.SortStableFunc makes of L -/
def Srt (cf : Int → Int → Int) (L S : List Int) : Prop := ∃ R e, Blk cf L.length L 0 R e ∧ Stb cf L.length (insI cf e R (L.length - e - 1)) 20 S
theorem Srt.det {cf : Int → Int → Int} {L S S' : List Int} (h : Srt cf L S) (h' : Srt cf L S') : S = S' := by
 obtain ⟨R, e, h1, h2⟩ := h
 obtain ⟨R', e', h1', h2'⟩ := h'
 obtain ⟨e1, e2⟩ := h1.det h1'
 subst e1 e2
 exact h2.det h2'
end Lg
end
section
set_option linter.all false
set_option maxRecDepth 100000
set_option maxHeartbeats 8000000
namespace Lg
open Go Go.Proofs

theorem ints_setS (l : List Int) (i : Nat) (v : Int) : (intRows l).set i [Tr.int v] = intRows (l.set i v) := by
 unfold intRows
 rw [List.map_set]
theorem ixR {L : List Int} {i : Nat} (h : i < L.length) : (intRows L)[i]? = some [Tr.int (ix L i)] := intRows_at (ix_lt h)
theorem swapRange_fn {ad : Option Addr} {cap N : Nat} {fv : Value} {V : Int → Prop} (L : List Int) (hL : LOf V N L) (hN : N ≤ 1000000) (a b n : Nat) (hab : a < b) (hb : b + n ≤ N) :
  Spec Tryz.prog 177 [Tr.raw (.slice ad N cap), .int a, .int b, .int n, Tr.raw fv] [Chunk.own ad cap 1 3 (intRows L)] (fun r cs => r = Tr.tup [] ∧ cs = [Chunk.own ad cap 1 3 (intRows (swR L a b n))]) := by
 refine Spec.body Tryz.func177 rfl rfl (Tryz.ntmps177) rfl fun w0 own0 M => ?_
 repeat' (first | refine goH ?_ | refine goV ?_ | refine goI ?_ | (refine Cw.k_cond ?_; first | (refine Cw.cond_dec rfl ?_ ?_ <;> intro hc <;> try omega) | refine Cw.cond_bool rfl ?_ ?_ <;> intro hc) | refine goR ?_ | refine goP ?_ | apply PSeq.cons | apply PSeq.yes rfl rfl rfl | exact goW | fail)
 refine Cw.loopI [(0, _), (1, _), (2, _), (3, _)] _ (fun q e c => ∃ (i : Nat) (rows : List (List Tr)), q = n - i ∧ (i ≤ n ∧ rows = intRows (swR L a b i)) ∧ e = [(10, .int i)] ∧ c = [Chunk.own ad cap 1 3 rows]) ⟨_, _, _, (Ent.mkP goSub goPm), 0, _, rfl, ⟨by omega, rfl⟩, rfl, rfl⟩ ?_
 rintro _ _ _ ⟨i, rows, rfl, ⟨hi, hrows⟩, rfl, rfl⟩
 by_cases hin : i < n
 ·have hW := hL.swR (a := a) (b := b) (n := i) (by omega) (by omega)
  have hlen : (swR L a b i).length = N := hW.len
  have hrl : rows.length = N := by rw [hrows, intRows_len, hlen]
  have ra : rows[((a : Int) + (i : Int)).toNat]? = some [Tr.int (ix (swR L a b i) (a + i))] := by rw [hrows, show ((a : Int) + (i : Int)).toNat = a + i by omega]; exact ixR (by omega)
  have rb : rows[((b : Int) + (i : Int)).toNat]? = some [Tr.int (ix (swR L a b i) (b + i))] := by rw [hrows, show ((b : Int) + (i : Int)).toNat = b + i by omega]; exact ixR (by omega)
  have hset : (rows.set ((a : Int) + (i : Int)).toNat [Tr.int (ix (swR L a b i) (b + i))])[((b : Int) + (i : Int)).toNat]? = some [Tr.int (ix (swR L a b i) (b + i))] := by
   rw [List.getElem?_set_ne (by omega)]
   exact rb
  have hlen2 : (rows.set ((a : Int) + (i : Int)).toNat [Tr.int (ix (swR L a b i) (b + i))]).length = N := by rw [List.length_set]; exact hrl
  have hres : (rows.set ((a : Int) + (i : Int)).toNat [Tr.int (ix (swR L a b i) (b + i))]).set ((b : Int) + (i : Int)).toNat [Tr.int (ix (swR L a b i) (a + i))] = intRows (swR L a b (i + 1)) := by
   rw [hrows, show ((a : Int) + (i : Int)).toNat = a + i by omega, show ((b : Int) + (i : Int)).toNat = b + i by omega, ints_setS, ints_setS]
   rfl
  generalize ix (swR L a b i) (a + i) = x at *
  generalize ix (swR L a b i) (b + i) = y at *
  clear hrows hW hlen
  repeat' (first | refine goH ?_ | refine goV ?_ | refine goI ?_ | (refine Cw.k_cond ?_; first | (refine Cw.cond_dec rfl ?_ ?_ <;> intro hc <;> try omega) | refine Cw.cond_bool rfl ?_ ?_ <;> intro hc) | fail)
  refine Cw.region_seqF (m := 21) [4, 5, 6, 7] rfl (by decide +kernel) rfl (fun ac w d => ?_) ?_
  ·have h2 := rd_raw (d.env 2 _ rfl)
   have h10 := rd_raw (d.env 10 _ rfl)
   have hs : ac.tmps.size = 38 := d.tmps
   have h2' : ac.tmps[2]'(by omega) = .int .i64 (b : Int) := by simpa [hs] using h2
   have h10' : ac.tmps[10]'(by omega) = .int .i64 (i : Int) := by simpa [hs] using h10
   exact FlRun.move rfl rfl rfl rfl (FlRun.move rfl rfl rfl rfl (FlRun.move rfl rfl rfl rfl (FlRun.addG (p := (b : Int)) (q := (i : Int)) rfl rfl rfl rfl (by simp [Act.put, Act.eval, hs, h2', h10']) (by simp [Act.put, Act.eval, hs, h2', h10']) FlRun.nil)))
  repeat' (first | refine goH ?_ | refine goV ?_ | refine goI ?_ | (refine Cw.k_cond ?_; first | (refine Cw.cond_dec rfl ?_ ?_ <;> intro hc <;> try omega) | refine Cw.cond_bool rfl ?_ ?_ <;> intro hc) | refine NoP.norm ?_ | refine goR ?_ | refine goP ?_ | apply PSeq.cons | apply PSeq.yes rfl rfl rfl | exact goW | fail)
  exact ⟨_, _, _, (Ent.mkP goSub goPm), ⟨i + 1, _, rfl, ⟨by omega, hres⟩, rfl, rfl⟩, by omega⟩
 ·have hie : i = n := by omega
  subst hie
  subst hrows
  repeat' (first | refine goH ?_ | refine goV ?_ | refine goI ?_ | (refine Cw.k_cond ?_; first | (refine Cw.cond_dec rfl ?_ ?_ <;> intro hc <;> try omega) | refine Cw.cond_bool rfl ?_ ?_ <;> intro hc) | refine goR ?_ | refine goP ?_ | apply PSeq.cons | apply PSeq.yes rfl rfl rfl | exact goW | fail)
  first | exact Fin.norm (Ent.mkP goSub goPm) (Outs.zero rfl) ⟨rfl, rfl⟩ | exact Fin.ret (Ent.mkP goSub goPm) (Outs.zero rfl) ⟨rfl, rfl⟩
theorem rotate_fn {ad : Option Addr} {cap N : Nat} {fv : Value} {V : Int → Prop} (L : List Int) (hL : LOf V N L) (hN : N ≤ 1000000) (a m b : Nat) (h1 : a < m) (h2 : m < b) (hb : b ≤ N) :
  Spec Tryz.prog 153 [Tr.raw (.slice ad N cap), .int a, .int m, .int b, Tr.raw fv] [Chunk.own ad cap 1 3 (intRows L)] (fun r cs => ∃ R, r = Tr.tup [] ∧ cs = [Chunk.own ad cap 1 3 (intRows R)] ∧ LOf V N R ∧ Rot L m (m - a) (b - m) R) := by
 refine Spec.body Tryz.func153 rfl rfl (Tryz.ntmps153) rfl fun w0 own0 M => ?_
 repeat' (first | refine goH ?_ | refine goV ?_ | refine goI ?_ | (refine Cw.k_cond ?_; first | (refine Cw.cond_dec rfl ?_ ?_ <;> intro hc <;> try omega) | refine Cw.cond_bool rfl ?_ ?_ <;> intro hc) | fail)
 rw [show (m : Int) - (a : Int) = ((m - a : Nat) : Int) by omega, show (b : Int) - (m : Int) = ((b - m : Nat) : Int) by omega]
 refine Cw.loopI [(0, _), (2, _), (4, _)] _ (fun q e c => ∃ (W : List Int) (i j : Nat), q = i + j ∧ (LOf V N W ∧ 1 ≤ i ∧ 1 ≤ j ∧ i ≤ m ∧ m + j ≤ N ∧ ∀ R, Rot W m i j R → Rot L m (m - a) (b - m) R) ∧ e = [(10, .int i), (11, .int j)] ∧ c = [Chunk.own ad cap 1 3 (intRows W)]) ⟨_, _, _, (Ent.mkP goSub goPm), L, m - a, b - m, rfl, ⟨hL, by omega, by omega, by omega, by omega, fun R h => h⟩, rfl, rfl⟩ ?_
 rintro _ _ _ ⟨W, i, j, rfl, ⟨hW, hi, hj, him, hjm, hk⟩, rfl, rfl⟩
 by_cases e : i = j
 ·subst e
  have ks := swapRange_fn (ad := ad) (cap := cap) (fv := fv) W hW hN (m - i) m i (by omega) (by omega)
  have hF := hW.swR (a := m - i) (b := m) (n := i) (by omega) (by omega)
  have hR := hk _ Rot.done
  rw [show ((m - i : Nat) : Int) = (m : Int) - (i : Int) by omega] at ks
  repeat' (first | refine goH ?_ | refine goV ?_ | refine goI ?_ | (refine Cw.k_cond ?_; first | (refine Cw.cond_dec rfl ?_ ?_ <;> intro hc <;> try omega) | refine Cw.cond_bool rfl ?_ ?_ <;> intro hc) | (refine Ops.k_calla ?_; first | (refine Ops.k_callf 177 ?_; (refine Ops.call ks (Evs.cons rfl (Evs.cons rfl (Evs.cons rfl (Evs.cons rfl (Evs.cons rfl Evs.nil))))) goPm rfl ?_; rintro r cs' ⟨rfl, rfl⟩))) | fail)
  first | exact Fin.norm (Ent.mkP goSub (by simp)) (Outs.zero rfl) ⟨_, rfl, rfl, hF, hR⟩ | exact Fin.ret (Ent.mkP goSub (by simp)) (Outs.zero rfl) ⟨_, rfl, rfl, hF, hR⟩
 by_cases h : j < i
 ·have ks := swapRange_fn (ad := ad) (cap := cap) (fv := fv) W hW hN (m - i) m j (by omega) (by omega)
  have hF := hW.swR (a := m - i) (b := m) (n := j) (by omega) (by omega)
  have hR := fun R hr => hk R (Rot.gt h hr)
  rw [show ((m - i : Nat) : Int) = (m : Int) - (i : Int) by omega] at ks
  repeat' (first | refine goH ?_ | refine goV ?_ | refine goI ?_ | (refine Cw.k_cond ?_; first | (refine Cw.cond_dec rfl ?_ ?_ <;> intro hc <;> try omega) | refine Cw.cond_bool rfl ?_ ?_ <;> intro hc) | (refine Ops.k_calla ?_; first | (refine Ops.k_callf 177 ?_; (refine Ops.call ks (Evs.cons rfl (Evs.cons rfl (Evs.cons rfl (Evs.cons rfl (Evs.cons rfl Evs.nil))))) goPm rfl ?_; rintro r cs' ⟨rfl, rfl⟩))) | fail)
  rw [show (i : Int) - (j : Int) = ((i - j : Nat) : Int) by omega]
  exact ⟨_, _, _, (Ent.mk goSub goTk), ⟨_, i - j, j, rfl, ⟨hF, by omega, by omega, by omega, by omega, hR⟩, rfl, rfl⟩, by omega⟩
 ·have ks := swapRange_fn (ad := ad) (cap := cap) (fv := fv) W hW hN (m - i) (m + j - i) i (by omega) (by omega)
  have hF := hW.swR (a := m - i) (b := m + j - i) (n := i) (by omega) (by omega)
  have hR := fun R hr => hk R (Rot.lt (by omega) hr)
  rw [show ((m - i : Nat) : Int) = (m : Int) - (i : Int) by omega, show ((m + j - i : Nat) : Int) = (m : Int) + (j : Int) - (i : Int) by omega] at ks
  repeat' (first | refine goH ?_ | refine goV ?_ | refine goI ?_ | (refine Cw.k_cond ?_; first | (refine Cw.cond_dec rfl ?_ ?_ <;> intro hc <;> try omega) | refine Cw.cond_bool rfl ?_ ?_ <;> intro hc) | (refine Ops.k_calla ?_; first | (refine Ops.k_callf 177 ?_; (refine Ops.call ks (Evs.cons rfl (Evs.cons rfl (Evs.cons rfl (Evs.cons rfl (Evs.cons rfl Evs.nil))))) goPm rfl ?_; rintro r cs' ⟨rfl, rfl⟩))) | fail)
  rw [show (j : Int) - (i : Int) = ((j - i : Nat) : Int) by omega]
  exact ⟨_, _, _, (Ent.mk goSub goTk), ⟨_, i, j - i, rfl, ⟨hF, by omega, by omega, by omega, by omega, hR⟩, rfl, rfl⟩, by omega⟩
end Lg
end
