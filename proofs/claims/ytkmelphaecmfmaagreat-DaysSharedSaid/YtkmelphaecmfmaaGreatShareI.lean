/- A part of the proof of a law of this seat: it adds no condition. By an AI agent. -/
import Derived.Test.YtkmelphaecmfmaaGreatLgLend
import Derived.Test.YtkmelphaecmfmaaGreatIdx
set_option linter.all false
set_option maxRecDepth 100000
set_option maxHeartbeats 8000000
namespace Lg
open Go Go.Proofs

/-! ### a total divided among weights -/
def sumL (l : List Int) : Int := sumF (fun x => x) l
theorem sumL_nil : sumL [] = 0 := rfl
theorem sumL_cons (x : Int) (l : List Int) : sumL (x :: l) = x + sumL l := rfl
theorem sumL_app (a b : List Int) : sumL (a ++ b) = sumL a + sumL b := sumF_app _ a b
theorem sumL_take {l : List Int} {k : Nat} {x : Int} (h : l[k]? = some x) : sumL (l.take (k + 1)) = sumL (l.take k) + x := by
  rw [take_at h, sumL_app, sumL_cons, sumL_nil, Int.add_zero]
theorem sumL_bd {m : Int} : ∀ {l : List Int}, (∀ x ∈ l, 0 ≤ x ∧ x ≤ m) → 0 ≤ sumL l ∧ sumL l ≤ l.length * m
  | [], _ => by simp [sumL_nil]
  | x :: l, h => by
    have h1 := h x (by simp)
    have h2 := sumL_bd (m := m) (l := l) (fun y hy => h y (by simp [hy]))
    rw [sumL_cons, List.length_cons]
    have : ((l.length + 1 : Nat) : Int) * m = l.length * m + m := by rw [Int.natCast_add, Int.add_mul]; simp
    omega
def wtBad (w : Int) : Bool := decide (w < 0 ∨ 1000000 < w)
def shE (t : Int) (ws : List Int) : Int := if t < 0 ∨ 1000000000 < t then 1 else if ws.length = 0 then 8 else if ws.length > 5000 then 2 else if ws.any wtBad = true ∨ sumL ws = 0 then 1 else 0
def upto (n : Nat) : List Int := (List.range n).map fun i : Nat => (i : Int)
theorem upto_len (n : Nat) : (upto n).length = n := by simp [upto]
theorem upto_at {n k : Nat} (h : k < n) : (upto n)[k]? = some (k : Int) := by simp [upto, h]
theorem upto_mem {n : Nat} {x : Int} (h : x ∈ upto n) : 0 ≤ x ∧ x < n := by
  unfold upto at h
  obtain ⟨i, hi, rfl⟩ := List.mem_map.1 h
  have := List.mem_range.1 hi
  omega
def shBase (t s : Int) (ws : List Int) : List Int := ws.map fun w => t * w / s
def shRem (t s : Int) (ws : List Int) (i : Int) : Int := t * ws.getD i.toNat 0 % s
def shOrd (t s : Int) (ws : List Int) : List Int := isort (fun a b => decide (shRem t s ws b < shRem t s ws a)) (upto ws.length)
def addOne (out : List Int) (i : Int) : List Int := out.set i.toNat (out.getD i.toNat 0 + 1)
def shF (out : List Int) : List Int → List Int
  | [] => out
  | i :: l => shF (addOne out i) l
def shLeft (t s : Int) (ws : List Int) : Int := t - sumL (shBase t s ws)
def shOf (t : Int) (ws : List Int) : List Int := shF (shBase t (sumL ws) ws) ((shOrd t (sumL ws) ws).take (shLeft t (sumL ws) ws).toNat)
theorem shF_len : ∀ (l out : List Int), (shF out l).length = out.length
  | [], out => rfl
  | i :: l, out => by rw [shF, shF_len l]; unfold addOne; rw [List.length_set]
theorem shOf_len (t : Int) (ws : List Int) : (shOf t ws).length = ws.length := by
  unfold shOf shBase
  rw [shF_len, List.length_map]
theorem sh_q {t w s : Int} (hs : 1 ≤ s) : s * (t * w / s) ≤ t * w ∧ t * w ≤ s * (t * w / s) + (s - 1) := by
  have h1 := Int.mul_ediv_self_le (x := t * w) (k := s) (by omega)
  have h2 := Int.lt_mul_ediv_self_add (x := t * w) (k := s) (by omega)
  omega
theorem sh_sum {t s : Int} (hs : 1 ≤ s) : ∀ ws : List Int, s * sumL (shBase t s ws) ≤ t * sumL ws ∧ t * sumL ws ≤ s * sumL (shBase t s ws) + (s - 1) * ws.length
  | [] => by simp [shBase, sumL_nil]
  | w :: ws => by
    have h1 := sh_q (t := t) (w := w) hs
    have h2 := sh_sum (t := t) hs ws
    rw [show shBase t s (w :: ws) = (t * w / s) :: shBase t s ws from rfl, sumL_cons, sumL_cons, Int.mul_add, Int.mul_add, List.length_cons]
    have : (s - 1) * ((ws.length + 1 : Nat) : Int) = (s - 1) * ws.length + (s - 1) := by rw [Int.natCast_add, Int.mul_add]; simp
    rw [this]
    omega
theorem sh_left {t : Int} {ws : List Int} (hs : 1 ≤ sumL ws) (hn : 1 ≤ ws.length) : 0 ≤ shLeft t (sumL ws) ws ∧ shLeft t (sumL ws) ws ≤ ws.length := by
  obtain ⟨h1, h2⟩ := sh_sum (t := t) hs ws
  unfold shLeft
  generalize sumL ws = s at *
  generalize sumL (shBase t s ws) = q at *
  constructor
  · have : s * q ≤ s * t := by rw [Int.mul_comm s t]; exact h1
    have := Int.le_of_mul_le_mul_left this (by omega)
    omega
  · have h3 : s * t ≤ s * (q + ws.length) := by
      rw [Int.mul_comm s t, Int.mul_add]
      refine Int.le_trans h2 ?_
      have : (s - 1) * (ws.length : Int) = s * ws.length - ws.length := by rw [Int.sub_mul, Int.one_mul]
      omega
    have := Int.le_of_mul_le_mul_left h3 (by omega)
    omega
theorem fill_set {B : List Int} {n k : Nat} {v : Int} (hB : B.length = n) (h : B[k]? = some v) : (B.take k ++ List.replicate (n - k) 0).set k v = B.take (k + 1) ++ List.replicate (n - (k + 1)) 0 := by
  have hk := (List.getElem?_eq_some_iff.1 h).1
  have hl : (B.take k).length = k := by rw [List.length_take]; omega
  rw [List.set_append_right _ _ (by omega), hl, Nat.sub_self, take_at h, show n - k = (n - (k + 1)) + 1 by omega, List.replicate_succ, List.set_cons_zero]
  simp
theorem fill_at (B : List Int) {n k : Nat} (hB : B.length = n) (hk : k < n) : (B.take k ++ List.replicate (n - k) 0)[k]? = some 0 := by
  have hl : (B.take k).length = k := by rw [List.length_take]; omega
  rw [List.getElem?_append_right (by omega), hl, Nat.sub_self, show n - k = (n - k - 1) + 1 by omega, List.replicate_succ]
  rfl
theorem ints_set (l : List Int) (i : Nat) (v : Int) : (intRows l).set i [Tr.int v] = intRows (l.set i v) := by
  unfold intRows
  rw [List.map_set]
theorem ints_rep (n : Nat) : List.replicate n [Tr.int 0] = intRows (List.replicate n 0) := by
  unfold intRows
  rw [List.map_replicate]
theorem sumR_fn (l : List Int) (hl : l.length ≤ 1000000) (hb : ∀ x ∈ l, -1000000000 ≤ x ∧ x ≤ 1000000000) : PFn Tryz.prog 32 [.ints l] (· = .int (sumL l)) := by
  have hL := intRows_len l
  refine PFn.mk (Spec.body Tryz.func32 rfl rfl (Tryz.ntmps32) rfl fun w0 own0 M => ?_)
  repeat' (first | refine goH ?_ | refine goV ?_ | refine goI ?_ | (refine Cw.k_cond ?_; first | (refine Cw.cond_dec rfl (fun hc => ?_) (fun hc => ?_) <;> try (exfalso; omega)) | refine Cw.cond_bool rfl (fun hc => ?_) (fun hc => ?_)) | fail)
  refine Cw.loopI [(6, _), (7, _)] _ (fun q e cc => ∃ (k : Nat) (z : Int), q = l.length - k ∧ (k ≤ l.length ∧ sumL l = z + sumL (l.drop k) ∧ -((k : Int) * 1000000000) ≤ z ∧ z ≤ k * 1000000000) ∧ e = [(3, .int z), (8, .int k)] ∧ cc = []) ⟨_, _, _, (Ent.mkP goSub goPm), 0, 0, rfl, ⟨by omega, by rw [List.drop_zero]; omega, by omega, by omega⟩, rfl, rfl⟩ ?_
  rintro _ _ _ ⟨k, z, rfl, ⟨hk, hV, hz1, hz2⟩, rfl, rfl⟩
  by_cases hkl : k < l.length
  · obtain ⟨x, hx⟩ := at_lt hkl
    have r1 := intRows_at hx
    have hxb := hb x (List.mem_of_getElem? hx)
    rw [drop_at hx, sumL_cons] at hV
    repeat' (first | refine goH ?_ | refine goV ?_ | refine goI ?_ | (refine Cw.k_cond ?_; first | (refine Cw.cond_dec rfl (fun hc => ?_) (fun hc => ?_) <;> try (exfalso; omega)) | refine Cw.cond_bool rfl (fun hc => ?_) (fun hc => ?_)) | fail)
    exact ⟨_, _, _, (Ent.mk goSub goTk), ⟨k + 1, _, rfl, ⟨by omega, by rw [hV]; omega, by omega, by omega⟩, rfl, rfl⟩, by omega⟩
  · rw [List.drop_of_length_le (by omega), sumL_nil, Int.add_zero] at hV
    rw [hV]
    repeat' (first | refine goH ?_ | refine goV ?_ | refine goI ?_ | (refine Cw.k_cond ?_; first | (refine Cw.cond_dec rfl (fun hc => ?_) (fun hc => ?_) <;> try (exfalso; omega)) | refine Cw.cond_bool rfl (fun hc => ?_) (fun hc => ?_)) | fail)
    exact Fin.ret (Ent.take goTk) (Outs.one rfl rfl) ⟨rfl, rfl⟩

theorem sharedLt_fn (b3 b4 b5 : Nat) (t s : Int) (ws : List Int) (ht : 0 ≤ t ∧ t ≤ 1000000000) (hs : 1 ≤ s ∧ s ≤ 1000000000) (hw : ∀ w ∈ ws, 0 ≤ w ∧ w ≤ 1000000) (a b : Int) (ha : 0 ≤ a ∧ a < ws.length) (hb : 0 ≤ b ∧ b < ws.length) :
    Spec Tryz.prog 61 ([.int a, .int b] ++ [Value.pointer (some ⟨b3, 0, none⟩), Value.pointer (some ⟨b4, 0, none⟩), Value.pointer (some ⟨b5, 0, none⟩)].map Tr.raw) [Chunk.box b3 3 [.int t], Chunk.box b4 22 [.ints ws], Chunk.box b5 3 [.int s]] (fun r cs => r = .int (cmpI (shRem t s ws b) (shRem t s ws a)) ∧ cs = [Chunk.box b3 3 [.int t], Chunk.box b4 22 [.ints ws], Chunk.box b5 3 [.int s]]) := by
  have hL := intRows_len ws
  obtain ⟨x, hx⟩ := at_lt (l := ws) (k := a.toNat) (by omega)
  obtain ⟨y, hy⟩ := at_lt (l := ws) (k := b.toNat) (by omega)
  have r1 := intRows_at hx
  have r2 := intRows_at hy
  have hxb := hw x (List.mem_of_getElem? hx)
  have hyb := hw y (List.mem_of_getElem? hy)
  have e1 : shRem t s ws a = t * x % s := by unfold shRem; rw [List.getD_eq_getElem?_getD, hx]; rfl
  have e2 : shRem t s ws b = t * y % s := by unfold shRem; rw [List.getD_eq_getElem?_getD, hy]; rfl
  rw [e1, e2]
  have m1 : 0 ≤ t * x ∧ t * x ≤ 1000000000000000 := ⟨Int.mul_nonneg ht.1 hxb.1, by have := Int.mul_le_mul ht.2 hxb.2 hxb.1 (by omega); omega⟩
  have m2 : 0 ≤ t * y ∧ t * y ≤ 1000000000000000 := ⟨Int.mul_nonneg ht.1 hyb.1, by have := Int.mul_le_mul ht.2 hyb.2 hyb.1 (by omega); omega⟩
  have m3 : -9223372036854775808 ≤ t * x ∧ t * x ≤ 9223372036854775807 := by omega
  have m4 : -9223372036854775808 ≤ t * y ∧ t * y ≤ 9223372036854775807 := by omega
  have k1 := compare_fn (t * y % s) (t * x % s)
  clear hx hy e1 e2
  refine Spec.body Tryz.func61 rfl rfl (Tryz.ntmps61) rfl fun w0 own0 M => ?_
  repeat' (first | refine goH ?_ | refine goV ?_ | refine goI ?_ | (refine Cw.k_cond ?_; first | (refine Cw.cond_dec rfl (fun hc => ?_) (fun hc => ?_) <;> try (exfalso; omega)) | refine Cw.cond_bool rfl (fun hc => ?_) (fun hc => ?_)) | (refine Ops.k_calla ?_; first | (refine Ops.k_callf 35 ?_; refine Ops.callV k1 (Evs.cons rfl (Evs.cons rfl Evs.nil)) rfl ?_)) | (apply OpW.k_call; first | (apply OpW.k_callf 35; exact OpW.callV k1 (Evs.cons rfl (Evs.cons rfl Evs.nil)))) | refine goR ?_ | refine goP ?_ | apply PSeq.cons | apply PSeq.yes rfl rfl rfl | exact goW | fail)
  exact Fin.ret (Ent.take goTk) (Outs.one rfl rfl) ⟨rfl, rfl⟩
theorem shared_fn (t s0 : Int) (ws : List Int) (ht : 0 ≤ t ∧ t ≤ 1000000000) (hn : 1 ≤ ws.length ∧ ws.length < 20) (hw : ∀ w ∈ ws, 0 ≤ w ∧ w ≤ 1000000) (hs1 : 1 ≤ sumL ws) (hse : s0 = sumL ws) : PFn Tryz.prog 29 [.int t, .ints ws, .int s0] (· = .ints (shOf t ws)) := by
  have hL := intRows_len ws
  have hsb := sumL_bd hw
  have hsu : 1 ≤ sumL ws ∧ sumL ws ≤ 1000000000 := by omega
  have hlf := sh_left (t := t) hs1 hn.1
  have kR := sumR_fn ws (by omega) (fun x hx => by have := hw x hx; omega)
  unfold shOf
  subst hse
  generalize hS : sumL ws = s at *
  clear hsb hS
  obtain ⟨n, hnl⟩ : ∃ n : Nat, ws.length = n := ⟨_, rfl⟩
  have hBl : (shBase t s ws).length = n := by unfold shBase; rw [List.length_map, hnl]
  have hUl := upto_len n
  have kS : ∀ (b3 b4 b5 : Nat) (ad : Option Addr) (cap : Nat), Spec Tryz.prog 33 [Tr.raw (.slice ad n cap), Tr.raw (.func (.func 61) #[] [Value.pointer (some ⟨b3, 0, none⟩), Value.pointer (some ⟨b4, 0, none⟩), Value.pointer (some ⟨b5, 0, none⟩)].toArray)] [Chunk.own ad cap 1 3 (intRows (upto n)), Chunk.box b3 3 [.int t], Chunk.box b4 22 [.ints ws], Chunk.box b5 3 [.int s]] (fun r cs => r = Tr.tup [] ∧ cs = [Chunk.own ad cap 1 3 (intRows (shOrd t s ws)), Chunk.box b3 3 [.int t], Chunk.box b4 22 [.ints ws], Chunk.box b5 3 [.int s]]) := fun b3 b4 b5 ad cap => by
    unfold shOrd
    rw [hnl]
    exact sortStable_int (xs := upto n) (lt := fun a b => decide (shRem t s ws b < shRem t s ws a)) (cf := fun a b => cmpI (shRem t s ws b) (shRem t s ws a)) (caps := [.pointer (some ⟨b3, 0, none⟩), .pointer (some ⟨b4, 0, none⟩), .pointer (some ⟨b5, 0, none⟩)]) (cin := [Chunk.box b3 3 [.int t], Chunk.box b4 22 [.ints ws], Chunk.box b5 3 [.int s]]) (fun a b => by rw [Bool.eq_iff_iff, decide_eq_true_iff, decide_eq_true_iff]; exact (cmpI_lt _ _).symm) (by omega) hUl.symm (fun a b ha hb => sharedLt_fn b3 b4 b5 t s ws ht hsu hw a b (by have := upto_mem ha; omega) (by have := upto_mem hb; omega))
  refine PFn.mk (Spec.body Tryz.func29 rfl rfl (Tryz.ntmps29) rfl fun w0 own0 M => ?_)
  have hn2 : ((((intRows ws).length : Nat) : Int)).toNat = n := by rw [hL, hnl]; rfl
  repeat' (first | refine goH ?_ | (refine Ops.k_makeSlice ?_; first | (refine Ops.makeSlice rfl rfl (by omega) (by omega) (by omega) rfl (fun ad cap => ?_); rw [hn2, show List.map Tr.raw [Value.int .i64 0] = [Tr.int 0] from rfl, ints_rep])) | refine goV ?_ | refine goB (fun b => ?_) | refine goC (fun ad cap => ?_) | refine goI ?_ | (refine Cw.k_cond ?_; first | (refine Cw.cond_dec rfl (fun hc => ?_) (fun hc => ?_) <;> try (exfalso; omega)) | refine Cw.cond_bool rfl (fun hc => ?_) (fun hc => ?_)) | (refine Ops.k_calla ?_; first | (refine Ops.k_callf 32 ?_; refine Ops.callV kR (Evs.cons rfl Evs.nil) rfl ?_)) | fail)
  rename_i b3 b4 ad0 cap0
  rw [hL, hnl]
  refine Cw.loopI [(3, _), (4, _), (5, _), (7, _), (8, _), (21, _), (22, .int n)] _ (fun q e cc => ∃ (k : Nat) (z : Int) (r1 r2 : List (List Tr)), q = n - k ∧ (k ≤ n ∧ z = t - sumL ((shBase t s ws).take k) ∧ z ≤ t ∧ t - k * 1000000000000000 ≤ z ∧ r1 = intRows ((shBase t s ws).take k ++ List.replicate (n - k) 0) ∧ r1.length = n ∧ r2 = intRows ((upto n).take k ++ List.replicate (n - k) 0) ∧ r2.length = n) ∧ e = [(9, .int z), (23, .int k)] ∧ cc = [Chunk.own ad0 cap0 1 3 r1, Chunk.own ad cap 1 3 r2])
    ⟨_, _, _, (Ent.mkP goSub goPm), 0, t, _, _, rfl, ⟨by omega, by rw [List.take_zero, sumL_nil, Int.sub_zero], by omega, by omega, rfl, by rw [intRows_len, List.length_append, List.length_replicate, List.take_zero]; simp, rfl, by rw [intRows_len, List.length_append, List.length_replicate, List.take_zero]; simp⟩, rfl, rfl⟩ ?_
  rintro _ _ _ ⟨k, z, r1, r2, rfl, ⟨hk, hz, hz1, hz2, hr1, hl1, hr2, hl2⟩, rfl, rfl⟩
  by_cases hkl : k < n
  · obtain ⟨w, hwk⟩ := at_lt (l := ws) (k := k) (by omega)
    have q0 := intRows_at hwk
    have hwb := hw w (List.mem_of_getElem? hwk)
    have hBk : (shBase t s ws)[k]? = some (t * w / s) := by unfold shBase; rw [List.getElem?_map, hwk]; rfl
    have hsum := sumL_take hBk
    have m1 : 0 ≤ t * w ∧ t * w ≤ 1000000000000000 := ⟨Int.mul_nonneg ht.1 hwb.1, by have := Int.mul_le_mul ht.2 hwb.2 hwb.1 (by omega); omega⟩
    have m3 : -9223372036854775808 ≤ t * w ∧ t * w ≤ 9223372036854775807 := by omega
    have d1 := Int.ediv_le_self s m1.1
    have d2 := Int.ediv_nonneg m1.1 (show 0 ≤ s by omega)
    have f1 := fill_set hBl hBk
    have f2 := fill_set hUl (upto_at hkl)
    have s1 : r1.set ((k : Nat) : Int).toNat [Tr.int (t * w / s)] = intRows ((shBase t s ws).take (k + 1) ++ List.replicate (n - (k + 1)) 0) := by rw [hr1, Int.toNat_natCast, ints_set, f1]
    have s2 : r2.set ((k : Nat) : Int).toNat [Tr.int (k : Int)] = intRows ((upto n).take (k + 1) ++ List.replicate (n - (k + 1)) 0) := by rw [hr2, Int.toNat_natCast, ints_set, f2]
    have g1 : (r1.set ((k : Nat) : Int).toNat [Tr.int (t * w / s)])[((k : Nat) : Int).toNat]? = some [Tr.int (t * w / s)] := by rw [List.getElem?_set_self (by omega)]
    have l1 : (r1.set ((k : Nat) : Int).toNat [Tr.int (t * w / s)]).length = n := by rw [List.length_set, hl1]
    have l2 : (r2.set ((k : Nat) : Int).toNat [Tr.int (k : Int)]).length = n := by rw [List.length_set, hl2]
    have hv1 : r1[((k : Nat) : Int).toNat]? = some [Tr.int 0] := by rw [hr1, Int.toNat_natCast]; exact intRows_at (fill_at _ hBl hkl)
    have hv2 : r2[((k : Nat) : Int).toNat]? = some [Tr.int 0] := by rw [hr2, Int.toNat_natCast]; exact intRows_at (fill_at _ hUl hkl)
    clear hwk hBk f1 f2 hr1 hr2
    generalize hq : t * w / s = q at *
    repeat' (first | refine goH ?_ | (refine Ops.k_b_mul ?_; first | refine Ops.mul rfl rfl (by assumption) rfl ?_) | (refine Ops.k_b_quo ?_; first | (refine Ops.quo rfl rfl (by omega) rfl ?_; rw [hq])) | refine goV ?_ | refine goB (fun b => ?_) | refine goC (fun ad cap => ?_) | refine goI ?_ | (refine Cw.k_cond ?_; first | (refine Cw.cond_dec rfl (fun hc => ?_) (fun hc => ?_) <;> try (exfalso; omega)) | refine Cw.cond_bool rfl (fun hc => ?_) (fun hc => ?_)) | fail)
    exact ⟨_, _, _, (Ent.mk goSub goTk), ⟨k + 1, _, _, _, rfl, ⟨by omega, by rw [hsum, hz]; omega, by omega, by omega, s1, l1, s2, l2⟩, rfl, rfl⟩, by omega⟩
  · rw [List.take_of_length_le (by omega), show n - k = 0 by omega, List.replicate_zero, List.append_nil] at hr1 hr2
    rw [List.take_of_length_le (by omega)] at hz
    have hz : z = shLeft t s ws := hz
    rw [← hz] at hlf ⊢
    subst hr2
    have hOl : (intRows (shOrd t s ws)).length = n := by rw [intRows_len]; unfold shOrd; rw [isort_len, upto_len, hnl]
    have hOm : ∀ x ∈ shOrd t s ws, 0 ≤ x ∧ x < n := by
      intro x hx
      unfold shOrd at hx
      rw [hnl] at hx
      exact upto_mem ((isort_perm _ _).mem_iff.1 hx)
    have hBb : ∀ x ∈ shBase t s ws, 0 ≤ x ∧ x ≤ 1000000000000000 := by
      intro x hx
      unfold shBase at hx
      obtain ⟨w, hwm, rfl⟩ := List.mem_map.1 hx
      have hwb := hw w hwm
      have m1 : 0 ≤ t * w ∧ t * w ≤ 1000000000000000 := ⟨Int.mul_nonneg ht.1 hwb.1, by have := Int.mul_le_mul ht.2 hwb.2 hwb.1 (by omega); omega⟩
      have d1 := Int.ediv_le_self s m1.1
      have d2 := Int.ediv_nonneg m1.1 (show 0 ≤ s by omega)
      omega
    generalize shBase t s ws = B at *
    generalize shOrd t s ws = O at *
    have htk : (intRows O).take z.toNat = intRows (O.take z.toNat) := by unfold intRows; rw [List.map_take]
    have htl : (intRows (O.take z.toNat)).length = z.toNat := by rw [intRows_len] at hOl ⊢; rw [List.length_take]; omega
    repeat' (first | refine goH ?_ | (refine Ops.k_slice ?_; first | (refine Ops.slice_own_h rfl rfl goPk (by omega) (by omega) rfl ?_; rw [htk])) | refine goV ?_ | refine goB (fun b => ?_) | refine goC (fun ad cap => ?_) | refine goI ?_ | (refine Cw.k_cond ?_; first | (refine Cw.cond_dec rfl (fun hc => ?_) (fun hc => ?_) <;> try (exfalso; omega)) | refine Cw.cond_bool rfl (fun hc => ?_) (fun hc => ?_)) | (refine Ops.k_calla ?_; first | (refine Ops.k_callf 33 ?_; (refine Ops.call (kS _ _ _ _ _) (Evs.cons rfl (Evs.cons rfl Evs.nil)) goPm rfl ?_; rintro r cs' ⟨rfl, rfl⟩))) | fail)
    obtain ⟨m, hm⟩ : ∃ m : Nat, z.toNat = m := ⟨_, rfl⟩
    rw [hm] at htl ⊢
    have hTm : ∀ x ∈ O.take m, 0 ≤ x ∧ x < n := fun x hx => hOm x (List.mem_of_mem_take hx)
    have hTl : (O.take m).length = m := by rw [intRows_len] at htl; exact htl
    generalize O.take m = T at *
    rw [htl]
    clear hOm hOl htk hz hz1 hz2 kS kR
    refine Cw.loopI [(7, _), (52, _), (53, .int m)] _ (fun q e cc => ∃ (j : Nat) (out : List Int) (r1 : List (List Tr)), q = m - j ∧ (j ≤ m ∧ shF B T = shF out (T.drop j) ∧ out.length = n ∧ r1 = intRows out ∧ r1.length = n ∧ ∀ x ∈ out, 0 ≤ x ∧ x ≤ 1000000000000000 + j) ∧ e = [(54, .int j)] ∧ cc = [Chunk.own ad0 cap0 1 3 r1])
      ⟨_, _, _, (Ent.mkP goSub goPm), 0, B, r1, rfl, ⟨by omega, rfl, hBl, hr1, hl1, fun x hx => by have := hBb x hx; omega⟩, rfl, rfl⟩ ?_
    clear hr1 hl1
    rintro _ _ _ ⟨j, out, r1, rfl, ⟨hj, hV, hol, hr1, hl1, hob⟩, rfl, rfl⟩
    by_cases hjl : j < m
    · obtain ⟨i, hi⟩ := at_lt (l := T) (k := j) (by omega)
      have q0 := intRows_at hi
      have hib := hTm i (List.mem_of_getElem? hi)
      rw [drop_at hi, shF] at hV
      obtain ⟨v, hv⟩ := at_lt (l := out) (k := i.toNat) (by omega)
      have hvb := hob v (List.mem_of_getElem? hv)
      have q1 : r1[i.toNat]? = some [Tr.int v] := by rw [hr1]; exact intRows_at hv
      have ha : addOne out i = out.set i.toNat (v + 1) := by unfold addOne; rw [List.getD_eq_getElem?_getD, hv]; rfl
      have s1 : r1.set i.toNat [Tr.int (v + 1)] = intRows (addOne out i) := by rw [ha, hr1, ints_set]
      have hl2 : (r1.set i.toNat [Tr.int (v + 1)]).length = n := by rw [List.length_set, hl1]
      have hol2 : (addOne out i).length = n := by rw [ha, List.length_set, hol]
      have hob2 : ∀ x ∈ addOne out i, 0 ≤ x ∧ x ≤ 1000000000000000 + ((j + 1 : Nat) : Int) := by
        intro x hx
        rw [ha] at hx
        rcases List.mem_or_eq_of_mem_set hx with h | h
        · have := hob x h; omega
        · omega
      clear hi hv hr1 ha hob
      repeat' (first | refine goH ?_ | refine goV ?_ | refine goB (fun b => ?_) | refine goC (fun ad cap => ?_) | refine goI ?_ | (refine Cw.k_cond ?_; first | (refine Cw.cond_dec rfl (fun hc => ?_) (fun hc => ?_) <;> try (exfalso; omega)) | refine Cw.cond_bool rfl (fun hc => ?_) (fun hc => ?_)) | fail)
      exact ⟨_, _, _, (Ent.mk goSub goTk), ⟨j + 1, _, _, rfl, ⟨by omega, hV, hol2, s1, hl2, hob2⟩, rfl, rfl⟩, by omega⟩
    · rw [List.drop_of_length_le (by omega), shF] at hV
      rw [hV]
      subst hr1
      have hlen : n = (intRows out).length := hl1.symm
      repeat' (first | refine goH ?_ | refine goV ?_ | refine goB (fun b => ?_) | refine goC (fun ad cap => ?_) | refine goI ?_ | (refine Cw.k_cond ?_; first | (refine Cw.cond_dec rfl (fun hc => ?_) (fun hc => ?_) <;> try (exfalso; omega)) | refine Cw.cond_bool rfl (fun hc => ?_) (fun hc => ?_)) | fail)
      rw [hlen]
      refine Fin.ret (Ent.trans (Ent.settle (s := 6) rfl goPk rfl) (Ent.take goTk)) (Outs.sole rfl goOe) ⟨rfl, rfl⟩

theorem shareOfLt_fn (b3 b4 b5 : Nat) (t s : Int) (ws : List Int) (ht : 0 ≤ t ∧ t ≤ 1000000000) (hs : 1 ≤ s ∧ s ≤ 1000000000) (hw : ∀ w ∈ ws, 0 ≤ w ∧ w ≤ 1000000) (a b : Int) (ha : 0 ≤ a ∧ a < ws.length) (hb : 0 ≤ b ∧ b < ws.length) :
    Spec Tryz.prog 34 ([.int a, .int b] ++ [Value.pointer (some ⟨b3, 0, none⟩), Value.pointer (some ⟨b4, 0, none⟩), Value.pointer (some ⟨b5, 0, none⟩)].map Tr.raw) [Chunk.box b3 3 [.int t], Chunk.box b4 22 [.ints ws], Chunk.box b5 3 [.int s]] (fun r cs => r = .int (cmpI (shRem t s ws b) (shRem t s ws a)) ∧ cs = [Chunk.box b3 3 [.int t], Chunk.box b4 22 [.ints ws], Chunk.box b5 3 [.int s]]) := by
  have hL := intRows_len ws
  obtain ⟨x, hx⟩ := at_lt (l := ws) (k := a.toNat) (by omega)
  obtain ⟨y, hy⟩ := at_lt (l := ws) (k := b.toNat) (by omega)
  have r1 := intRows_at hx
  have r2 := intRows_at hy
  have hxb := hw x (List.mem_of_getElem? hx)
  have hyb := hw y (List.mem_of_getElem? hy)
  have e1 : shRem t s ws a = t * x % s := by unfold shRem; rw [List.getD_eq_getElem?_getD, hx]; rfl
  have e2 : shRem t s ws b = t * y % s := by unfold shRem; rw [List.getD_eq_getElem?_getD, hy]; rfl
  rw [e1, e2]
  have m1 : 0 ≤ t * x ∧ t * x ≤ 1000000000000000 := ⟨Int.mul_nonneg ht.1 hxb.1, by have := Int.mul_le_mul ht.2 hxb.2 hxb.1 (by omega); omega⟩
  have m2 : 0 ≤ t * y ∧ t * y ≤ 1000000000000000 := ⟨Int.mul_nonneg ht.1 hyb.1, by have := Int.mul_le_mul ht.2 hyb.2 hyb.1 (by omega); omega⟩
  have m3 : -9223372036854775808 ≤ t * x ∧ t * x ≤ 9223372036854775807 := by omega
  have m4 : -9223372036854775808 ≤ t * y ∧ t * y ≤ 9223372036854775807 := by omega
  have k1 := compare_fn (t * y % s) (t * x % s)
  clear hx hy e1 e2
  refine Spec.body Tryz.func34 rfl rfl (Tryz.ntmps34) rfl fun w0 own0 M => ?_
  repeat' (first | refine goH ?_ | refine goV ?_ | refine goI ?_ | (refine Cw.k_cond ?_; first | (refine Cw.cond_dec rfl (fun hc => ?_) (fun hc => ?_) <;> try (exfalso; omega)) | refine Cw.cond_bool rfl (fun hc => ?_) (fun hc => ?_)) | (refine Ops.k_calla ?_; first | (refine Ops.k_callf 35 ?_; refine Ops.callV k1 (Evs.cons rfl (Evs.cons rfl Evs.nil)) rfl ?_)) | (apply OpW.k_call; first | (apply OpW.k_callf 35; exact OpW.callV k1 (Evs.cons rfl (Evs.cons rfl Evs.nil)))) | refine goR ?_ | refine goP ?_ | apply PSeq.cons | apply PSeq.yes rfl rfl rfl | exact goW | fail)
  exact Fin.ret (Ent.take goTk) (Outs.one rfl rfl) ⟨rfl, rfl⟩
theorem shareOf_fn (t : Int) (ws : List Int) (ht : 0 ≤ t ∧ t ≤ 1000000000) (hn : 1 ≤ ws.length ∧ ws.length < 20) (hw : ∀ w ∈ ws, 0 ≤ w ∧ w ≤ 1000000) (hs1 : 1 ≤ sumL ws) : PFn Tryz.prog 9 [.int t, .ints ws] (· = .ints (shOf t ws)) := by
  have hL := intRows_len ws
  have hsb := sumL_bd hw
  have hsu : 1 ≤ sumL ws ∧ sumL ws ≤ 1000000000 := by omega
  have hlf := sh_left (t := t) hs1 hn.1
  have kR := sumR_fn ws (by omega) (fun x hx => by have := hw x hx; omega)
  unfold shOf
  skip
  generalize hS : sumL ws = s at *
  clear hsb hS
  obtain ⟨n, hnl⟩ : ∃ n : Nat, ws.length = n := ⟨_, rfl⟩
  have hBl : (shBase t s ws).length = n := by unfold shBase; rw [List.length_map, hnl]
  have hUl := upto_len n
  have kS : ∀ (b3 b4 b5 : Nat) (ad : Option Addr) (cap : Nat), Spec Tryz.prog 33 [Tr.raw (.slice ad n cap), Tr.raw (.func (.func 34) #[] [Value.pointer (some ⟨b3, 0, none⟩), Value.pointer (some ⟨b4, 0, none⟩), Value.pointer (some ⟨b5, 0, none⟩)].toArray)] [Chunk.own ad cap 1 3 (intRows (upto n)), Chunk.box b3 3 [.int t], Chunk.box b4 22 [.ints ws], Chunk.box b5 3 [.int s]] (fun r cs => r = Tr.tup [] ∧ cs = [Chunk.own ad cap 1 3 (intRows (shOrd t s ws)), Chunk.box b3 3 [.int t], Chunk.box b4 22 [.ints ws], Chunk.box b5 3 [.int s]]) := fun b3 b4 b5 ad cap => by
    unfold shOrd
    rw [hnl]
    exact sortStable_int (xs := upto n) (lt := fun a b => decide (shRem t s ws b < shRem t s ws a)) (cf := fun a b => cmpI (shRem t s ws b) (shRem t s ws a)) (caps := [.pointer (some ⟨b3, 0, none⟩), .pointer (some ⟨b4, 0, none⟩), .pointer (some ⟨b5, 0, none⟩)]) (cin := [Chunk.box b3 3 [.int t], Chunk.box b4 22 [.ints ws], Chunk.box b5 3 [.int s]]) (fun a b => by rw [Bool.eq_iff_iff, decide_eq_true_iff, decide_eq_true_iff]; exact (cmpI_lt _ _).symm) (by omega) hUl.symm (fun a b ha hb => shareOfLt_fn b3 b4 b5 t s ws ht hsu hw a b (by have := upto_mem ha; omega) (by have := upto_mem hb; omega))
  refine PFn.mk (Spec.body Tryz.func9 rfl rfl (Tryz.ntmps9) rfl fun w0 own0 M => ?_)
  have hn2 : ((((intRows ws).length : Nat) : Int)).toNat = n := by rw [hL, hnl]; rfl
  repeat' (first | refine goH ?_ | (refine Ops.k_makeSlice ?_; first | (refine Ops.makeSlice rfl rfl (by omega) (by omega) (by omega) rfl (fun ad cap => ?_); rw [hn2, show List.map Tr.raw [Value.int .i64 0] = [Tr.int 0] from rfl, ints_rep])) | refine goV ?_ | refine goB (fun b => ?_) | refine goC (fun ad cap => ?_) | refine goI ?_ | (refine Cw.k_cond ?_; first | (refine Cw.cond_dec rfl (fun hc => ?_) (fun hc => ?_) <;> try (exfalso; omega)) | refine Cw.cond_bool rfl (fun hc => ?_) (fun hc => ?_)) | (refine Ops.k_calla ?_; first | (refine Ops.k_callf 32 ?_; refine Ops.callV kR (Evs.cons rfl Evs.nil) rfl ?_)) | fail)
  rename_i b3 b4 ad0 cap0
  rw [hL, hnl]
  refine Cw.loopI [(2, _), (3, _), (5, _), (6, _), (7, _), (22, _), (23, .int n)] _ (fun q e cc => ∃ (k : Nat) (z : Int) (r1 r2 : List (List Tr)), q = n - k ∧ (k ≤ n ∧ z = t - sumL ((shBase t s ws).take k) ∧ z ≤ t ∧ t - k * 1000000000000000 ≤ z ∧ r1 = intRows ((shBase t s ws).take k ++ List.replicate (n - k) 0) ∧ r1.length = n ∧ r2 = intRows ((upto n).take k ++ List.replicate (n - k) 0) ∧ r2.length = n) ∧ e = [(8, .int z), (24, .int k)] ∧ cc = [Chunk.own ad0 cap0 1 3 r1, Chunk.own ad cap 1 3 r2])
    ⟨_, _, _, (Ent.mkP goSub goPm), 0, t, _, _, rfl, ⟨by omega, by rw [List.take_zero, sumL_nil, Int.sub_zero], by omega, by omega, rfl, by rw [intRows_len, List.length_append, List.length_replicate, List.take_zero]; simp, rfl, by rw [intRows_len, List.length_append, List.length_replicate, List.take_zero]; simp⟩, rfl, rfl⟩ ?_
  rintro _ _ _ ⟨k, z, r1, r2, rfl, ⟨hk, hz, hz1, hz2, hr1, hl1, hr2, hl2⟩, rfl, rfl⟩
  by_cases hkl : k < n
  · obtain ⟨w, hwk⟩ := at_lt (l := ws) (k := k) (by omega)
    have q0 := intRows_at hwk
    have hwb := hw w (List.mem_of_getElem? hwk)
    have hBk : (shBase t s ws)[k]? = some (t * w / s) := by unfold shBase; rw [List.getElem?_map, hwk]; rfl
    have hsum := sumL_take hBk
    have m1 : 0 ≤ t * w ∧ t * w ≤ 1000000000000000 := ⟨Int.mul_nonneg ht.1 hwb.1, by have := Int.mul_le_mul ht.2 hwb.2 hwb.1 (by omega); omega⟩
    have m3 : -9223372036854775808 ≤ t * w ∧ t * w ≤ 9223372036854775807 := by omega
    have d1 := Int.ediv_le_self s m1.1
    have d2 := Int.ediv_nonneg m1.1 (show 0 ≤ s by omega)
    have f1 := fill_set hBl hBk
    have f2 := fill_set hUl (upto_at hkl)
    have s1 : r1.set ((k : Nat) : Int).toNat [Tr.int (t * w / s)] = intRows ((shBase t s ws).take (k + 1) ++ List.replicate (n - (k + 1)) 0) := by rw [hr1, Int.toNat_natCast, ints_set, f1]
    have s2 : r2.set ((k : Nat) : Int).toNat [Tr.int (k : Int)] = intRows ((upto n).take (k + 1) ++ List.replicate (n - (k + 1)) 0) := by rw [hr2, Int.toNat_natCast, ints_set, f2]
    have g1 : (r1.set ((k : Nat) : Int).toNat [Tr.int (t * w / s)])[((k : Nat) : Int).toNat]? = some [Tr.int (t * w / s)] := by rw [List.getElem?_set_self (by omega)]
    have l1 : (r1.set ((k : Nat) : Int).toNat [Tr.int (t * w / s)]).length = n := by rw [List.length_set, hl1]
    have l2 : (r2.set ((k : Nat) : Int).toNat [Tr.int (k : Int)]).length = n := by rw [List.length_set, hl2]
    have hv1 : r1[((k : Nat) : Int).toNat]? = some [Tr.int 0] := by rw [hr1, Int.toNat_natCast]; exact intRows_at (fill_at _ hBl hkl)
    have hv2 : r2[((k : Nat) : Int).toNat]? = some [Tr.int 0] := by rw [hr2, Int.toNat_natCast]; exact intRows_at (fill_at _ hUl hkl)
    clear hwk hBk f1 f2 hr1 hr2
    generalize hq : t * w / s = q at *
    repeat' (first | refine goH ?_ | (refine Ops.k_b_mul ?_; first | refine Ops.mul rfl rfl (by assumption) rfl ?_) | (refine Ops.k_b_quo ?_; first | (refine Ops.quo rfl rfl (by omega) rfl ?_; rw [hq])) | refine goV ?_ | refine goB (fun b => ?_) | refine goC (fun ad cap => ?_) | refine goI ?_ | (refine Cw.k_cond ?_; first | (refine Cw.cond_dec rfl (fun hc => ?_) (fun hc => ?_) <;> try (exfalso; omega)) | refine Cw.cond_bool rfl (fun hc => ?_) (fun hc => ?_)) | fail)
    exact ⟨_, _, _, (Ent.mk goSub goTk), ⟨k + 1, _, _, _, rfl, ⟨by omega, by rw [hsum, hz]; omega, by omega, by omega, s1, l1, s2, l2⟩, rfl, rfl⟩, by omega⟩
  · rw [List.take_of_length_le (by omega), show n - k = 0 by omega, List.replicate_zero, List.append_nil] at hr1 hr2
    rw [List.take_of_length_le (by omega)] at hz
    have hz : z = shLeft t s ws := hz
    rw [← hz] at hlf ⊢
    subst hr2
    have hOl : (intRows (shOrd t s ws)).length = n := by rw [intRows_len]; unfold shOrd; rw [isort_len, upto_len, hnl]
    have hOm : ∀ x ∈ shOrd t s ws, 0 ≤ x ∧ x < n := by
      intro x hx
      unfold shOrd at hx
      rw [hnl] at hx
      exact upto_mem ((isort_perm _ _).mem_iff.1 hx)
    have hBb : ∀ x ∈ shBase t s ws, 0 ≤ x ∧ x ≤ 1000000000000000 := by
      intro x hx
      unfold shBase at hx
      obtain ⟨w, hwm, rfl⟩ := List.mem_map.1 hx
      have hwb := hw w hwm
      have m1 : 0 ≤ t * w ∧ t * w ≤ 1000000000000000 := ⟨Int.mul_nonneg ht.1 hwb.1, by have := Int.mul_le_mul ht.2 hwb.2 hwb.1 (by omega); omega⟩
      have d1 := Int.ediv_le_self s m1.1
      have d2 := Int.ediv_nonneg m1.1 (show 0 ≤ s by omega)
      omega
    generalize shBase t s ws = B at *
    generalize shOrd t s ws = O at *
    have htk : (intRows O).take z.toNat = intRows (O.take z.toNat) := by unfold intRows; rw [List.map_take]
    have htl : (intRows (O.take z.toNat)).length = z.toNat := by rw [intRows_len] at hOl ⊢; rw [List.length_take]; omega
    repeat' (first | refine goH ?_ | (refine Ops.k_slice ?_; first | (refine Ops.slice_own_h rfl rfl goPk (by omega) (by omega) rfl ?_; rw [htk])) | refine goV ?_ | refine goB (fun b => ?_) | refine goC (fun ad cap => ?_) | refine goI ?_ | (refine Cw.k_cond ?_; first | (refine Cw.cond_dec rfl (fun hc => ?_) (fun hc => ?_) <;> try (exfalso; omega)) | refine Cw.cond_bool rfl (fun hc => ?_) (fun hc => ?_)) | (refine Ops.k_calla ?_; first | (refine Ops.k_callf 33 ?_; (refine Ops.call (kS _ _ _ _ _) (Evs.cons rfl (Evs.cons rfl Evs.nil)) goPm rfl ?_; rintro r cs' ⟨rfl, rfl⟩))) | fail)
    obtain ⟨m, hm⟩ : ∃ m : Nat, z.toNat = m := ⟨_, rfl⟩
    rw [hm] at htl ⊢
    have hTm : ∀ x ∈ O.take m, 0 ≤ x ∧ x < n := fun x hx => hOm x (List.mem_of_mem_take hx)
    have hTl : (O.take m).length = m := by rw [intRows_len] at htl; exact htl
    generalize O.take m = T at *
    rw [htl]
    clear hOm hOl htk hz hz1 hz2 kS kR
    refine Cw.loopI [(6, _), (53, _), (54, .int m)] _ (fun q e cc => ∃ (j : Nat) (out : List Int) (r1 : List (List Tr)), q = m - j ∧ (j ≤ m ∧ shF B T = shF out (T.drop j) ∧ out.length = n ∧ r1 = intRows out ∧ r1.length = n ∧ ∀ x ∈ out, 0 ≤ x ∧ x ≤ 1000000000000000 + j) ∧ e = [(55, .int j)] ∧ cc = [Chunk.own ad0 cap0 1 3 r1])
      ⟨_, _, _, (Ent.mkP goSub goPm), 0, B, r1, rfl, ⟨by omega, rfl, hBl, hr1, hl1, fun x hx => by have := hBb x hx; omega⟩, rfl, rfl⟩ ?_
    clear hr1 hl1
    rintro _ _ _ ⟨j, out, r1, rfl, ⟨hj, hV, hol, hr1, hl1, hob⟩, rfl, rfl⟩
    by_cases hjl : j < m
    · obtain ⟨i, hi⟩ := at_lt (l := T) (k := j) (by omega)
      have q0 := intRows_at hi
      have hib := hTm i (List.mem_of_getElem? hi)
      rw [drop_at hi, shF] at hV
      obtain ⟨v, hv⟩ := at_lt (l := out) (k := i.toNat) (by omega)
      have hvb := hob v (List.mem_of_getElem? hv)
      have q1 : r1[i.toNat]? = some [Tr.int v] := by rw [hr1]; exact intRows_at hv
      have ha : addOne out i = out.set i.toNat (v + 1) := by unfold addOne; rw [List.getD_eq_getElem?_getD, hv]; rfl
      have s1 : r1.set i.toNat [Tr.int (v + 1)] = intRows (addOne out i) := by rw [ha, hr1, ints_set]
      have hl2 : (r1.set i.toNat [Tr.int (v + 1)]).length = n := by rw [List.length_set, hl1]
      have hol2 : (addOne out i).length = n := by rw [ha, List.length_set, hol]
      have hob2 : ∀ x ∈ addOne out i, 0 ≤ x ∧ x ≤ 1000000000000000 + ((j + 1 : Nat) : Int) := by
        intro x hx
        rw [ha] at hx
        rcases List.mem_or_eq_of_mem_set hx with h | h
        · have := hob x h; omega
        · omega
      clear hi hv hr1 ha hob
      repeat' (first | refine goH ?_ | refine goV ?_ | refine goB (fun b => ?_) | refine goC (fun ad cap => ?_) | refine goI ?_ | (refine Cw.k_cond ?_; first | (refine Cw.cond_dec rfl (fun hc => ?_) (fun hc => ?_) <;> try (exfalso; omega)) | refine Cw.cond_bool rfl (fun hc => ?_) (fun hc => ?_)) | fail)
      exact ⟨_, _, _, (Ent.mk goSub goTk), ⟨j + 1, _, _, rfl, ⟨by omega, hV, hol2, s1, hl2, hob2⟩, rfl, rfl⟩, by omega⟩
    · rw [List.drop_of_length_le (by omega), shF] at hV
      rw [hV]
      subst hr1
      have hlen : n = (intRows out).length := hl1.symm
      repeat' (first | refine goH ?_ | refine goV ?_ | refine goB (fun b => ?_) | refine goC (fun ad cap => ?_) | refine goI ?_ | (refine Cw.k_cond ?_; first | (refine Cw.cond_dec rfl (fun hc => ?_) (fun hc => ?_) <;> try (exfalso; omega)) | refine Cw.cond_bool rfl (fun hc => ?_) (fun hc => ?_)) | fail)
      rw [hlen]
      refine Fin.ret (Ent.trans (Ent.settle (s := 4) rfl goPk rfl) (Ent.take goTk)) (Outs.sole rfl goOe) ⟨rfl, rfl⟩

theorem shE_ok {t : Int} {ws : List Int} (h : shE t ws = 0) : (0 ≤ t ∧ t ≤ 1000000000) ∧ 1 ≤ ws.length ∧ (∀ w ∈ ws, 0 ≤ w ∧ w ≤ 1000000) ∧ 1 ≤ sumL ws := by
  unfold shE at h
  by_cases h1 : t < 0 ∨ 1000000000 < t
  · rw [if_pos h1] at h; omega
  rw [if_neg h1] at h
  by_cases h2 : ws.length = 0
  · rw [if_pos h2] at h; omega
  rw [if_neg h2] at h
  by_cases h3 : ws.length > 5000
  · rw [if_pos h3] at h; omega
  rw [if_neg h3] at h
  by_cases h4 : ws.any wtBad = true ∨ sumL ws = 0
  · rw [if_pos h4] at h; omega
  have hb : ∀ w ∈ ws, 0 ≤ w ∧ w ≤ 1000000 := by
    intro w hw
    have : ws.any wtBad = false := by cases hh : ws.any wtBad; rfl; exact absurd (.inl hh) h4
    have := List.any_eq_false.1 this w hw
    simp [wtBad] at this
    omega
  have := (sumL_bd hb).1
  exact ⟨by omega, by omega, hb, by omega⟩
theorem wtBad_fn (x : Int) : PFn Tryz.prog 31 [.int x] (· = .bool (wtBad x)) := by
  refine PFn.mk (Spec.body Tryz.func31 rfl rfl (Tryz.ntmps31) rfl fun w0 own0 M => ?_)
  repeat' (first | refine goH ?_ | refine goV ?_ | refine goG ?_ | (refine Ops.k_guard ?_; first | (refine Ops.guard_dec rfl rfl (fun hc => ?_) (fun hc => ?_) <;> try (exfalso; omega)) | refine Ops.guard_split rfl rfl (fun hc => ?_) (fun hc => ?_)) | refine goI ?_ | (refine Cw.k_cond ?_; first | (refine Cw.cond_dec rfl (fun hc => ?_) (fun hc => ?_) <;> try (exfalso; omega)) | refine Cw.cond_bool rfl (fun hc => ?_) (fun hc => ?_)) | fail)
  all_goals
    refine Fin.ret (Ent.take goTk) (Outs.one rfl rfl) ⟨rfl, congrArg Tr.bool ?_⟩
    unfold wtBad
    rw [Bool.eq_iff_iff]
    simp
    try omega
theorem shareFault_fn (t : Int) (ws : List Int) (hl : ws.length ≤ 1000000) (hw : ∀ w ∈ ws, -1000000000 ≤ w ∧ w ≤ 1000000000) : PFn Tryz.prog 7 [.int t, .ints ws] (· = .int (shE t ws)) := by
  have hL := intRows_len ws
  have kR := sumR_fn ws hl hw
  have k3 : Spec Tryz.prog 30 [.ints ws, Tr.raw (.func (.func 31) #[] #[])] [] (fun x cs => x = .bool (ws.any wtBad) ∧ cs = []) := containsFunc_int (p := wtBad) (caps := []) (cin := []) (l := ws) (by omega) (fun x _ => (wtBad_fn x).lend)
  unfold shE
  refine PFn.mk (Spec.body Tryz.func7 rfl rfl (Tryz.ntmps7) rfl fun w0 own0 M => ?_)
  by_cases h1 : t < 0 ∨ 1000000000 < t
  · rw [if_pos h1]
    repeat' (first | refine goH ?_ | refine goV ?_ | refine goG ?_ | (refine Ops.k_guard ?_; first | (refine Ops.guard_dec rfl rfl (fun hc => ?_) (fun hc => ?_) <;> try (exfalso; omega)) | refine Ops.guard_split rfl rfl (fun hc => ?_) (fun hc => ?_)) | refine goI ?_ | (refine Cw.k_cond ?_; first | (refine Cw.cond_dec rfl (fun hc => ?_) (fun hc => ?_) <;> try (exfalso; omega)) | refine Cw.cond_bool rfl (fun hc => ?_) (fun hc => ?_)) | fail)
    all_goals first | exact Fin.ret (Ent.take goTk) (Outs.one rfl rfl) ⟨rfl, rfl⟩ | (exfalso; omega)
  rw [if_neg h1]
  by_cases h2 : ws.length = 0
  · rw [if_pos h2]
    repeat' (first | refine goH ?_ | refine goV ?_ | refine goG ?_ | (refine Ops.k_guard ?_; first | (refine Ops.guard_dec rfl rfl (fun hc => ?_) (fun hc => ?_) <;> try (exfalso; omega)) | refine Ops.guard_split rfl rfl (fun hc => ?_) (fun hc => ?_)) | refine goI ?_ | (refine Cw.k_cond ?_; first | (refine Cw.cond_dec rfl (fun hc => ?_) (fun hc => ?_) <;> try (exfalso; omega)) | refine Cw.cond_bool rfl (fun hc => ?_) (fun hc => ?_)) | fail)
    all_goals first | exact Fin.ret (Ent.take goTk) (Outs.one rfl rfl) ⟨rfl, rfl⟩ | (exfalso; omega)
  rw [if_neg h2]
  by_cases h3 : ws.length > 5000
  · rw [if_pos h3]
    repeat' (first | refine goH ?_ | refine goV ?_ | refine goG ?_ | (refine Ops.k_guard ?_; first | (refine Ops.guard_dec rfl rfl (fun hc => ?_) (fun hc => ?_) <;> try (exfalso; omega)) | refine Ops.guard_split rfl rfl (fun hc => ?_) (fun hc => ?_)) | refine goI ?_ | (refine Cw.k_cond ?_; first | (refine Cw.cond_dec rfl (fun hc => ?_) (fun hc => ?_) <;> try (exfalso; omega)) | refine Cw.cond_bool rfl (fun hc => ?_) (fun hc => ?_)) | fail)
    all_goals first | exact Fin.ret (Ent.take goTk) (Outs.one rfl rfl) ⟨rfl, rfl⟩ | (exfalso; omega)
  rw [if_neg h3]
  cases h4 : ws.any wtBad
  · rw [h4] at k3
    by_cases h5 : sumL ws = 0
    · rw [if_pos (.inr h5)]
      rw [h5] at kR
      repeat' (first | refine goH ?_ | refine goV ?_ | refine goG ?_ | (refine Ops.k_guard ?_; first | (refine Ops.guard_dec rfl rfl (fun hc => ?_) (fun hc => ?_) <;> try (exfalso; omega)) | refine Ops.guard_split rfl rfl (fun hc => ?_) (fun hc => ?_)) | refine goI ?_ | (refine Cw.k_cond ?_; first | (refine Cw.cond_dec rfl (fun hc => ?_) (fun hc => ?_) <;> try (exfalso; omega)) | refine Cw.cond_bool rfl (fun hc => ?_) (fun hc => ?_)) | (refine Ops.k_calla ?_; first | (refine Ops.k_callf 30 ?_; refine Ops.callS k3 (Evs.cons rfl (Evs.cons rfl Evs.nil)) (List.Perm.refl _) rfl ?_) | (refine Ops.k_callf 32 ?_; refine Ops.callV kR (Evs.cons rfl Evs.nil) rfl ?_)) | fail)
      all_goals first | exact Fin.ret (Ent.take goTk) (Outs.one rfl rfl) ⟨rfl, rfl⟩ | (exfalso; omega)
    · rw [if_neg (by simp [h5])]
      repeat' (first | refine goH ?_ | refine goV ?_ | refine goG ?_ | (refine Ops.k_guard ?_; first | (refine Ops.guard_dec rfl rfl (fun hc => ?_) (fun hc => ?_) <;> try (exfalso; omega)) | refine Ops.guard_split rfl rfl (fun hc => ?_) (fun hc => ?_)) | refine goI ?_ | (refine Cw.k_cond ?_; first | (refine Cw.cond_dec rfl (fun hc => ?_) (fun hc => ?_) <;> try (exfalso; omega)) | refine Cw.cond_bool rfl (fun hc => ?_) (fun hc => ?_)) | (refine Ops.k_calla ?_; first | (refine Ops.k_callf 30 ?_; refine Ops.callS k3 (Evs.cons rfl (Evs.cons rfl Evs.nil)) (List.Perm.refl _) rfl ?_) | (refine Ops.k_callf 32 ?_; refine Ops.callV kR (Evs.cons rfl Evs.nil) rfl ?_)) | fail)
      all_goals first | exact Fin.ret (Ent.take goTk) (Outs.one rfl rfl) ⟨rfl, rfl⟩ | (exfalso; omega)
  · rw [h4] at k3
    rw [if_pos (.inl rfl)]
    repeat' (first | refine goH ?_ | refine goV ?_ | refine goG ?_ | (refine Ops.k_guard ?_; first | (refine Ops.guard_dec rfl rfl (fun hc => ?_) (fun hc => ?_) <;> try (exfalso; omega)) | refine Ops.guard_split rfl rfl (fun hc => ?_) (fun hc => ?_)) | refine goI ?_ | (refine Cw.k_cond ?_; first | (refine Cw.cond_dec rfl (fun hc => ?_) (fun hc => ?_) <;> try (exfalso; omega)) | refine Cw.cond_bool rfl (fun hc => ?_) (fun hc => ?_)) | (refine Ops.k_calla ?_; first | (refine Ops.k_callf 30 ?_; refine Ops.callS k3 (Evs.cons rfl (Evs.cons rfl Evs.nil)) (List.Perm.refl _) rfl ?_) | (refine Ops.k_callf 32 ?_; refine Ops.callV kR (Evs.cons rfl Evs.nil) rfl ?_)) | fail)
    all_goals first | exact Fin.ret (Ent.take goTk) (Outs.one rfl rfl) ⟨rfl, rfl⟩ | (exfalso; omega)
def shT (t : Int) (ws : List Int) : Tr := if shE t ws ≠ 0 then .tup [.sl 1 [], .int (shE t ws)] else .tup [.ints (shOf t ws), .int 0]
theorem share_fn (t : Int) (ws : List Int) (hl : ws.length < 20) : PFn Tryz.prog 6 [.int t, .ints ws] (· = shT t ws) := by
  have hL := intRows_len ws
  refine PFn.mk (Spec.body Tryz.func6 rfl rfl (Tryz.ntmps6) rfl fun w0 own0 M => ?_)
  by_cases h1 : t < 0 ∨ 1000000000 < t
  · rw [show shT t ws = .tup [.sl 1 [], .int 1] by unfold shT shE; rw [if_pos h1]; rfl]
    repeat' (first | refine goH ?_ | refine goV ?_ | refine goI ?_ | (refine Cw.k_cond ?_; first | (refine Cw.cond_dec rfl (fun hc => ?_) (fun hc => ?_) <;> try (exfalso; omega)) | refine Cw.cond_bool rfl (fun hc => ?_) (fun hc => ?_)) | (refine Ops.k_calla ?_; first | (refine Ops.k_callf 28 ?_; refine Ops.callV (out_t t 0 1000000000 h1) (Evs.cons rfl (Evs.cons rfl (Evs.cons rfl Evs.nil))) rfl ?_)) | fail)
    refine Fin.ret (Ent.trans (Ent.nilsl 1 (s := 4) rfl) (Ent.take goTk)) (Outs.many rfl (OutL.cons goOe (OutL.cons goOe OutL.nil)) rfl) ⟨rfl, rfl⟩
  have o1 := out_f t 0 1000000000 (by omega)
  by_cases h2 : ws.length = 0
  · rw [show shT t ws = .tup [.sl 1 [], .int 8] by unfold shT shE; rw [if_neg h1, if_pos h2]; rfl]
    repeat' (first | refine goH ?_ | refine goV ?_ | refine goI ?_ | (refine Cw.k_cond ?_; first | (refine Cw.cond_dec rfl (fun hc => ?_) (fun hc => ?_) <;> try (exfalso; omega)) | refine Cw.cond_bool rfl (fun hc => ?_) (fun hc => ?_)) | (refine Ops.k_calla ?_; first | (refine Ops.k_callf 28 ?_; refine Ops.callV o1 (Evs.cons rfl (Evs.cons rfl (Evs.cons rfl Evs.nil))) rfl ?_)) | fail)
    refine Fin.ret (Ent.trans (Ent.nilsl 1 (s := 4) rfl) (Ent.take goTk)) (Outs.many rfl (OutL.cons goOe (OutL.cons goOe OutL.nil)) rfl) ⟨rfl, rfl⟩
  have hE : shE t ws = if ws.any wtBad = true ∨ sumL ws = 0 then 1 else 0 := by unfold shE; rw [if_neg h1, if_neg h2, if_neg (by omega)]
  repeat' (first | refine goH ?_ | refine goV ?_ | refine goI ?_ | (refine Cw.k_cond ?_; first | (refine Cw.cond_dec rfl (fun hc => ?_) (fun hc => ?_) <;> try (exfalso; omega)) | refine Cw.cond_bool rfl (fun hc => ?_) (fun hc => ?_)) | (refine Ops.k_calla ?_; first | (refine Ops.k_callf 28 ?_; refine Ops.callV o1 (Evs.cons rfl (Evs.cons rfl (Evs.cons rfl Evs.nil))) rfl ?_)) | fail)
  refine Cw.loopI [(0, _), (1, _), (20, _), (21, _)] _ (fun q e cc => ∃ (k : Nat) (z : Int), q = ws.length - k ∧ (k ≤ ws.length ∧ sumL ws = z + sumL (ws.drop k) ∧ ws.any wtBad = (ws.drop k).any wtBad ∧ 0 ≤ z ∧ z ≤ k * 1000000) ∧ e = [(6, .int z), (22, .int k)] ∧ cc = [])
    ⟨_, _, _, (Ent.mkP goSub goPm), 0, 0, rfl, ⟨by omega, by rw [List.drop_zero]; omega, rfl, by omega, by omega⟩, rfl, rfl⟩ ?_
  rintro _ _ _ ⟨k, z, rfl, ⟨hk, hV, hA, hz1, hz2⟩, rfl, rfl⟩
  by_cases hkl : k < ws.length
  · obtain ⟨w, hw⟩ := at_lt hkl
    have q0 := intRows_at hw
    rw [drop_at hw, List.any_cons] at hA
    rw [drop_at hw, sumL_cons] at hV
    by_cases hb : w < 0 ∨ 1000000 < w
    · rw [show wtBad w = true by unfold wtBad; exact decide_eq_true hb, Bool.true_or] at hA
      rw [show shT t ws = .tup [.sl 1 [], .int 1] by unfold shT; rw [show shE t ws = 1 by rw [hE, if_pos (Or.inl hA)]]; rfl]
      repeat' (first | refine goH ?_ | refine goV ?_ | refine goI ?_ | (refine Cw.k_cond ?_; first | (refine Cw.cond_dec rfl (fun hc => ?_) (fun hc => ?_) <;> try (exfalso; omega)) | refine Cw.cond_bool rfl (fun hc => ?_) (fun hc => ?_)) | (refine Ops.k_calla ?_; first | (refine Ops.k_callf 28 ?_; refine Ops.callV (out_t w 0 1000000 hb) (Evs.cons rfl (Evs.cons rfl (Evs.cons rfl Evs.nil))) rfl ?_)) | fail)
      refine Fin.ret (Ent.trans (Ent.nilsl 1 (s := 4) rfl) (Ent.take goTk)) (Outs.many rfl (OutL.cons goOe (OutL.cons goOe OutL.nil)) rfl) ⟨rfl, rfl⟩
    · rw [show wtBad w = false by unfold wtBad; exact decide_eq_false hb, Bool.false_or] at hA
      repeat' (first | refine goH ?_ | refine goV ?_ | refine goI ?_ | (refine Cw.k_cond ?_; first | (refine Cw.cond_dec rfl (fun hc => ?_) (fun hc => ?_) <;> try (exfalso; omega)) | refine Cw.cond_bool rfl (fun hc => ?_) (fun hc => ?_)) | (refine Ops.k_calla ?_; first | (refine Ops.k_callf 28 ?_; refine Ops.callV (out_f w 0 1000000 (by omega)) (Evs.cons rfl (Evs.cons rfl (Evs.cons rfl Evs.nil))) rfl ?_)) | fail)
      exact ⟨_, _, _, (Ent.mk goSub goTk), ⟨k + 1, _, rfl, ⟨by omega, by rw [hV]; omega, hA, by omega, by omega⟩, rfl, rfl⟩, by omega⟩
  · rw [List.drop_of_length_le (by omega)] at hA hV
    rw [sumL_nil, Int.add_zero] at hV
    by_cases hz : z = 0
    · rw [show shT t ws = .tup [.sl 1 [], .int 1] by unfold shT; rw [show shE t ws = 1 by rw [hE, if_pos (Or.inr (by omega))]]; rfl]
      repeat' (first | refine goH ?_ | refine goV ?_ | refine goI ?_ | (refine Cw.k_cond ?_; first | (refine Cw.cond_dec rfl (fun hc => ?_) (fun hc => ?_) <;> try (exfalso; omega)) | refine Cw.cond_bool rfl (fun hc => ?_) (fun hc => ?_)) | fail)
      refine Fin.ret (Ent.trans (Ent.nilsl 1 (s := 4) rfl) (Ent.take goTk)) (Outs.many rfl (OutL.cons goOe (OutL.cons goOe OutL.nil)) rfl) ⟨rfl, rfl⟩
    · have h0 : shE t ws = 0 := by rw [hE, if_neg (by rw [hA]; simp; omega)]
      rw [show shT t ws = .tup [.ints (shOf t ws), .int 0] by unfold shT; rw [h0]; rfl]
      obtain ⟨q1, q2, q3, q4⟩ := shE_ok h0
      have k1 := shared_fn t z ws q1 (by omega) q3 q4 hV.symm
      generalize shOf t ws = O at *
      repeat' (first | refine goH ?_ | refine goV ?_ | refine goI ?_ | (refine Cw.k_cond ?_; first | (refine Cw.cond_dec rfl (fun hc => ?_) (fun hc => ?_) <;> try (exfalso; omega)) | refine Cw.cond_bool rfl (fun hc => ?_) (fun hc => ?_)) | (refine Ops.k_calla ?_; first | (refine Ops.k_callf 29 ?_; refine Ops.callV k1 (Evs.cons rfl (Evs.cons rfl (Evs.cons rfl Evs.nil))) rfl ?_)) | fail)
      exact Fin.ret (Ent.take goTk) (Outs.two rfl rfl rfl) ⟨rfl, rfl⟩
end Lg
