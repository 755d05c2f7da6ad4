/- A part of the proof of a law of this seat: it adds no condition. By an AI agent. -/
import Derived.Test.YthgcdnfhfejijaaGreatDoorVm4
section
set_option linter.all false
set_option maxRecDepth 100000
set_option maxHeartbeats 4000000
namespace Lg
open Go Go.Proofs

theorem mul_bd {a b A B : Int} (ha : 0 ≤ a ∧ a ≤ A) (hb : 0 ≤ b ∧ b ≤ B) : 0 ≤ a * b ∧ a * b ≤ A * B :=
 ⟨Int.mul_nonneg ha.1 hb.1, Int.mul_le_mul ha.2 hb.2 hb.1 (by omega)⟩
theorem mul_side {n v x : Nat} (h : n * v ≤ x) (hx : x ≤ 20000) : (0 ≤ (n : Int) * (v : Int) ∧ (n : Int) * (v : Int) ≤ x) ∧ (-9223372036854775808 ≤ (n : Int) * (v : Int) ∧ (n : Int) * (v : Int) ≤ 9223372036854775807) ∧ (x : Int) - (n : Int) * (v : Int) = ((x - n * v : Nat) : Int) := by
 have e : (n : Int) * (v : Int) = ((n * v : Nat) : Int) := (Int.natCast_mul n v).symm
 rw [e]
 omega
theorem most_int (l : List Tube) (k x : Nat) : min (tc l k : Int) ((x : Int) / (tv l k : Int)) = (mostOf l k x : Nat) := by
 unfold mostOf
 have : ((x / tv l k : Nat) : Int) = (x : Int) / (tv l k : Int) := Int.natCast_ediv x (tv l k)
 rw [← this]
 omega
theorem most_le {l : List Tube} {k x n : Nat} (hv : 1 ≤ tv l k) (h : n ≤ mostOf l k x) : n * tv l k ≤ x := by
 have : n ≤ x / tv l k := by unfold mostOf at h; omega
 exact (Nat.le_div_iff_mul_le (by omega)).1 this
theorem tube_row {l : List Tube} (ho : TbOk l) {k : Nat} (hk : k < l.length) : (l.map Tube.row)[((k : Nat) : Int).toNat]? = some [Tr.int (tv l k : Int), Tr.int (tc l k : Int), Tr.int (tAt l k).most] := by
 obtain ⟨h1, _, _, _, h2, h3⟩ := tube_at ho hk
 have := rows_at (f := Tube.row) h1
 unfold Tube.row at this ⊢
 rw [h2, h3] at this
 exact this

theorem paidO_no (l : List Tube) (ho : TbOk l) (a : Nat) (ha : a ≤ 20000) (hno : ¬ payK nev l l.length a < nev) : Spec Tryz.prog 27 [.tubes l, .int a] [] (fun r cs => r = .tup [Tr.raw (.slice none 0 0), .bool false] ∧ cs = []) := by
 have hp := payments_fn l ho a ha
 have hL : (l.map Tube.row).length = l.length := List.length_map _
 have htab : (tabRows nev l (a + 1) l.length)[((l.map Tube.row).length : Int).toNat]? = some [Tr.ints (gl (payK nev l l.length) (a + 1))] := by
  rw [hL]
  exact tabRows_get (Nat.le_refl _)
 have hT := tabRows_len nev l (a + 1) l.length
 have hn := glR_len (payK nev l l.length) (a + 1)
 have hrow : (intRows (gl (payK nev l l.length) (a + 1)))[((a : Nat) : Int).toNat]? = some [Tr.int (payK nev l l.length a)] := glR_get (by omega)
 have hno2 : ¬ payK nev l l.length a < 1073741824 := hno
 clear hno
 refine Spec.body Tryz.func27 rfl rfl (Tryz.ntmps27) rfl fun w0 own0 M => ?_
 repeat' (first | refine goH ?_ | refine goV ?_ | refine goC (fun ad cap => ?_) | refine goI ?_ | (refine Cw.k_cond ?_; first | (refine Cw.cond_dec rfl ?_ ?_ <;> intro hc <;> try omega) | refine Cw.cond_bool rfl ?_ ?_ <;> intro hc) | (refine Ops.k_calla ?_; first | (refine Ops.k_callf 55 ?_; refine Ops.callV hp (Evs.cons rfl (Evs.cons rfl Evs.nil)) rfl ?_)) | (apply OpW.k_call; first | (apply OpW.k_callf 55; exact OpW.callV hp (Evs.cons rfl (Evs.cons rfl Evs.nil)))) | refine goR ?_ | refine goP ?_ | apply PSeq.cons | apply PSeq.yes rfl rfl rfl | exact goW | fail)
 exact Fin.ret (Ent.take goTk) (Outs.two rfl rfl rfl) ⟨rfl, rfl⟩

theorem paidO_yes (l : List Tube) (ho : TbOk l) (a : Nat) (ha : a ≤ 20000) (hy : payK nev l l.length a < nev) : Spec Tryz.prog 27 [.tubes l, .int a] [] (fun r cs => ∃ (ad : Option Addr) (cap : Nat), r = .tup [Tr.raw (.slice ad l.length cap), .bool true] ∧ cs = [Chunk.own ad cap 1 3 (intRows (gl (chg (pk nev l) l a) l.length))]) := by
 have hp := payments_fn l ho a ha
 have hL : (l.map Tube.row).length = l.length := List.length_map _
 have hlen := ho.len
 have htab : (tabRows nev l (a + 1) l.length)[((l.map Tube.row).length : Int).toNat]? = some [Tr.ints (gl (payK nev l l.length) (a + 1))] := by
  rw [hL]
  exact tabRows_get (Nat.le_refl _)
 have hT := tabRows_len nev l (a + 1) l.length
 have hn := glR_len (payK nev l l.length) (a + 1)
 have hrow : (intRows (gl (payK nev l l.length) (a + 1)))[((a : Nat) : Int).toNat]? = some [Tr.int (payK nev l l.length a)] := glR_get (by omega)
 have hy2 : payK nev l l.length a < 1073741824 := hy
 refine Spec.body Tryz.func27 rfl rfl (Tryz.ntmps27) rfl fun w0 own0 M => ?_
 repeat' (first | refine goH ?_ | refine goV ?_ | refine goC (fun ad cap => ?_) | refine goI ?_ | (refine Cw.k_cond ?_; first | (refine Cw.cond_dec rfl ?_ ?_ <;> intro hc <;> try omega) | refine Cw.cond_bool rfl ?_ ?_ <;> intro hc) | (refine Ops.k_calla ?_; first | (refine Ops.k_callf 55 ?_; refine Ops.callV hp (Evs.cons rfl (Evs.cons rfl Evs.nil)) rfl ?_)) | (apply OpW.k_call; first | (apply OpW.k_callf 55; exact OpW.callV hp (Evs.cons rfl (Evs.cons rfl Evs.nil)))) | refine goR ?_ | refine goP ?_ | apply PSeq.cons | apply PSeq.yes rfl rfl rfl | exact goW | fail)
 rw [show ((l.map Tube.row).length : Int).toNat = l.length by omega, glR_rep']
 clear htab hn hrow hy2
 refine Cw.loop (ι := Nat × List (List Tr)) (fun s => s.1 ≤ l.length ∧ ∃ g, s.2 = intRows (gl g l.length) ∧ ∀ k, s.1 ≤ k → k < l.length → g k = chg (pk nev l) l a k)
  (fun s => [(0, .tubes l), (1, .int (leftK (pk nev l) l a s.1)), (6, .sl 1 (tabRows nev l (a + 1) l.length)), (7, Tr.raw (.slice ad l.length cap)), (8, .int ((s.1 : Int) - 1))])
  (fun s => [Chunk.own ad cap 1 3 s.2]) (fun s => s.1) ⟨(l.length, intRows (gl (fun _ => 0) l.length)), ⟨Nat.le_refl _, _, rfl, fun k h1 h2 => absurd h2 (by simp only at h1; omega)⟩, ?_⟩ ?_
 ·simp only
  rw [leftK_top, ← hL]
  exact (Ent.mk goSub goTk)
 rintro ⟨i, rows⟩ ⟨hi, g, hg, hdone⟩
 simp only at hi hg hdone ⊢
 have hrl : rows.length = l.length := by rw [hg]; simp
 cases i with
 |zero =>
  repeat' (first | refine goH ?_ | refine goV ?_ | refine goC (fun ad cap => ?_) | refine goI ?_ | (refine Cw.k_cond ?_; first | (refine Cw.cond_dec rfl ?_ ?_ <;> intro hc <;> try omega) | refine Cw.cond_bool rfl ?_ ?_ <;> intro hc) | refine goR ?_ | refine goP ?_ | apply PSeq.cons | apply PSeq.yes rfl rfl rfl | exact goW | fail)
  refine Fin.ret (Ent.take (Take.cons goPk Take.nil)) (Outs.two rfl rfl rfl) ⟨_, _, rfl, ?_⟩
  rw [hg, gl_ext (f := g) (g := chg (pk nev l) l a) fun j hj => hdone j (Nat.zero_le _) hj]
 |succ j =>
  obtain ⟨x, hx⟩ : ∃ x, x = leftK (pk nev l) l a (j + 1) := ⟨_, rfl⟩
  have hxa : x ≤ a := by rw [hx]; exact leftK_le _ _ _ _
  have hcan : payK nev l (j + 1) x < nev := by rw [hx]; exact leftK_can' ho hy (by omega)
  obtain ⟨_, hv1, hv2, hc1, _⟩ := tube_at ho (k := j) (by omega)
  obtain ⟨_, hok, _⟩ := pk_same ho (k := j) (x := x) (by omega) hcan
  have hstep := leftK_step (pk nev l) l a j (by omega)
  rw [← hx] at hstep
  have hchg : chg (pk nev l) l a j = (pk nev l j x : Nat) := by unfold chg; rw [← hx]
  have hrow := tube_row ho (k := j) (by omega)
  have hmi := most_int l j x
  rw [← hx, show ((j + 1 : Nat) : Int) - 1 = (j : Int) by omega]
  have hdiv : (0 : Int) ≤ (x : Int) / (tv l j : Int) := Int.ediv_nonneg (by omega) (by omega)
  repeat' (first | refine goH ?_ | refine goV ?_ | refine goC (fun ad cap => ?_) | refine goI ?_ | (refine Cw.k_cond ?_; first | (refine Cw.cond_dec rfl ?_ ?_ <;> intro hc <;> try omega) | refine Cw.cond_bool rfl ?_ ?_ <;> intro hc) | refine goR ?_ | refine goP ?_ | apply PSeq.cons | apply PSeq.yes rfl rfl rfl | exact goW | fail)
  rw [hmi]
  refine Cw.loop (ι := Nat) (fun n => n ≤ mostOf l j x ∧ lastOk (okB nev l j x) n = pk nev l j x)
   (fun n => [(0, .tubes l), (1, .int x), (6, .sl 1 (tabRows nev l (a + 1) l.length)), (7, Tr.raw (.slice ad l.length cap)), (8, .int j), (9, .int (tv l j)), (10, .int n)])
   (fun _ => [Chunk.own ad cap 1 3 rows]) (fun n => n) ⟨mostOf l j x, ⟨Nat.le_refl _, rfl⟩, (Ent.mk goSub goTk)⟩ ?_
  rintro n ⟨hn, hlast⟩
  have hnx := most_le hv1 hn
  obtain ⟨m1, m2, m3⟩ := mul_side hnx (by omega)
  have hnc : n ≤ 1000 := by unfold mostOf at hn; omega
  have hb0 := payK_bd l j (x - n * tv l j)
  have hb1 := payK_bd l (j + 1) x
  have ht0 : (tabRows nev l (a + 1) l.length)[((j : Nat) : Int).toNat]? = some [Tr.ints (gl (payK nev l j) (a + 1))] := tabRows_get (by omega)
  have ht1 : (tabRows nev l (a + 1) l.length)[((j : Int) + 1).toNat]? = some [Tr.ints (gl (payK nev l (j + 1)) (a + 1))] := tabRows_get (j := j + 1) (by omega)
  have hg0 : (intRows (gl (payK nev l j) (a + 1)))[((x : Int) - (n : Int) * (tv l j : Int)).toNat]? = some [Tr.int (payK nev l j (x - n * tv l j))] := by
   rw [m3]
   exact glR_get (by omega)
  have hg1 : (intRows (gl (payK nev l (j + 1)) (a + 1)))[((x : Nat) : Int).toNat]? = some [Tr.int (payK nev l (j + 1) x)] := glR_get (by omega)
  have hl0 := glR_len (payK nev l j) (a + 1)
  have hl1 := glR_len (payK nev l (j + 1)) (a + 1)
  by_cases hkn : payK nev l j (x - n * tv l j) + n = payK nev l (j + 1) x
  ·have hpk : pk nev l j x = n := by
    rw [← hlast]
    exact lastOk_yes (decide_eq_true hkn)
   have hrj : rows[((j : Nat) : Int).toNat]? = some [Tr.int (g j)] := by rw [hg]; exact glR_get (by omega)
   repeat' (first | refine goH ?_ | refine goV ?_ | refine goC (fun ad cap => ?_) | refine goI ?_ | (refine Cw.k_cond ?_; first | (refine Cw.cond_dec rfl ?_ ?_ <;> intro hc <;> try omega) | refine Cw.cond_bool rfl ?_ ?_ <;> intro hc) | refine goR ?_ | refine goP ?_ | apply PSeq.cons | apply PSeq.yes rfl rfl rfl | exact goW | fail)
   rw [m3, show x - n * tv l j = leftK (pk nev l) l a j by rw [hstep, hpk]]
   refine ⟨(j, _), ?_, ?_, (Ent.mk goSub goTk)⟩
   ·refine ⟨by simp only; omega, (fun i => if i = j then (n : Int) else g i), ?_, ?_⟩
    ·simp only
     rw [hg]
     exact glR_set
    ·intro k h1 h2
     simp only at h1 ⊢
     by_cases e : k = j
     ·subst e; rw [if_pos rfl, hchg, hpk]
     ·rw [if_neg e]; exact hdone k (by omega) h2
   ·simp only; omega
  ·have hn0 : n ≠ 0 := fun e => by
    subst e
    have h0 : pk nev l j x = 0 := by rw [← hlast]; rfl
    rw [h0] at hok
    exact hkn (of_decide_eq_true hok)
   obtain ⟨m, rfl⟩ : ∃ m, n = m + 1 := ⟨n - 1, by omega⟩
   repeat' (first | refine goH ?_ | refine goV ?_ | refine goC (fun ad cap => ?_) | refine goI ?_ | (refine Cw.k_cond ?_; first | (refine Cw.cond_dec rfl ?_ ?_ <;> intro hc <;> try omega) | refine Cw.cond_bool rfl ?_ ?_ <;> intro hc) | refine goR ?_ | refine goP ?_ | apply PSeq.cons | apply PSeq.yes rfl rfl rfl | exact goW | fail)
   refine ⟨m, ⟨by omega, ?_⟩, by omega, ?_⟩
   ·rw [← hlast]
    exact (lastOk_no (decide_eq_false hkn)).symm
   ·rw [show ((m + 1 : Nat) : Int) - 1 = (m : Int) by omega]
    exact (Ent.mk goSub goTk)

end Lg
end
section
set_option linter.all false
set_option maxRecDepth 100000
set_option maxHeartbeats 8000000
namespace Lg
open Go Go.Proofs

/-! ### machines: loads, fills, prices, the box, coins given back (the program's side) -/
def tAtS (S : List SlotM) (k : Nat) : SlotM := S.getD k ⟨.empty, .empty, 0, 0, 0⟩
theorem tAtS_eq {S : List SlotM} {k : Nat} {d : SlotM} (h : S[k]? = some d) : tAtS S k = d := by unfold tAtS; rw [List.getD_eq_getElem?_getD, h]; rfl
theorem slotRow_set (S : List SlotM) (k : Nat) (d : SlotM) : (S.map SlotM.row).set k [.str d.key, .str d.prod, .int d.price, .int d.most, .int d.cnt] = (S.set k d).map SlotM.row := by rw [List.map_set]; rfl
theorem tubeRow_set (T : List Tube) (k : Nat) (d : Tube) : (T.map Tube.row).set k [.int d.val, .int d.cnt, .int d.most] = (T.set k d).map Tube.row := by rw [List.map_set]; rfl
theorem back_fn {b : Nat} {aT aS aJ aE aY : Option Addr} {nT cT nS cS nJ cJ nE cE nY cY : Nat} {K : List Int} {H i o f c x r : Int} (E : List Int) (hn : nE = E.length) :
  Spec Tryz.prog 12 [.ptr b] [mX b aT nT cT K aS nS cS H aJ nJ cJ aE nE cE aY nY cY i o f c x r, ownI aE cE E] (fun y cs => y = .ints E ∧ cs = [mX b aT nT cT K aS nS cS H aJ nJ cJ none 0 0 aY nY cY i o f c x 0]) := by
 have hl : nE = (intRows E).length := by rw [intRows_len, hn]
 refine Spec.body Tryz.func12 rfl rfl (Tryz.ntmps12) rfl fun w0 own0 M => ?_
 repeat' (first | refine goH ?_ | refine goV ?_ | refine goI ?_ | (refine Cw.k_cond ?_; first | (refine Cw.cond_dec rfl ?_ ?_ <;> intro hc <;> try omega) | refine Cw.cond_bool rfl ?_ ?_ <;> intro hc) | fail)
 exact Fin.ret (Ent.trans (Ent.settle (s := 2) rfl goPk hl) (Ent.take (Take.cons goPk Take.nil))) (Outs.one rfl rfl) ⟨rfl, rfl⟩
end Lg
end
section
set_option linter.all false
set_option maxRecDepth 100000
set_option maxHeartbeats 8000000
namespace Lg
open Go Go.Proofs

/-! ### machines: the coins of the escrow go into the tubes (the program's side) -/
/-- a copy of its own -/
theorem clone_tube (rows : List (List Tr)) (hk : ∀ r ∈ rows, r.length = 3) (hl : rows.length ≤ 1000000) : PFnO Tryz.prog 19 [.sl 3 rows] 3 27 (· = rows) := by
 unfold PFnO
 refine Spec.body Tryz.func19 rfl rfl (Tryz.ntmps19) rfl fun w0 own0 M => ?_
 repeat' (first | refine goH ?_ | ((fail_if_success refine Ops.k_b_eql ?_); (fail_if_success refine Ops.k_buildSlice ?_); refine goV ?_) | ((fail_if_success refine Ops.k_b_eql ?_); (fail_if_success refine Ops.k_buildSlice ?_); refine goC (fun ad cap => ?_)) | refine goI ?_ | (refine Cw.k_cond ?_; first | (refine Cw.cond_dec rfl ?_ ?_ <;> intro hc <;> try omega) | refine Cw.cond_bool rfl ?_ ?_ <;> intro hc) | fail)
 refine Ops.eql_nilS rfl rfl (fun b hb => ?_)
 cases b
 ·repeat' (first | refine goH ?_ | ((fail_if_success refine Ops.k_buildSlice ?_); refine goV ?_) | ((fail_if_success refine Ops.k_buildSlice ?_); refine goC (fun ad cap => ?_)) | refine goI ?_ | (refine Cw.k_cond ?_; first | (refine Cw.cond_dec rfl ?_ ?_ <;> intro hc <;> try omega) | refine Cw.cond_bool rfl ?_ ?_ <;> intro hc) | fail)
  refine Ops.buildSlice_own (by exact Parts.nil) rfl rfl rfl (fun ad cap => ?_)
  repeat' (first | refine goH ?_ | refine goV ?_ | refine goC (fun ad cap => ?_) | refine goI ?_ | (refine Cw.k_cond ?_; first | (refine Cw.cond_dec rfl ?_ ?_ <;> intro hc <;> try omega) | refine Cw.cond_bool rfl ?_ ?_ <;> intro hc) | fail)
  exact Fin.ret (Ent.take goTk) (Outs.one rfl rfl) ⟨_, _, _, rfl, rfl, rfl⟩
 ·have hr := hb rfl
  subst hr
  repeat' (first | refine goH ?_ | refine goV ?_ | refine goC (fun ad cap => ?_) | refine goI ?_ | (refine Cw.k_cond ?_; first | (refine Cw.cond_dec rfl ?_ ?_ <;> intro hc <;> try omega) | refine Cw.cond_bool rfl ?_ ?_ <;> intro hc) | fail)
  exact Fin.ret (Ent.trans (Ent.nil 3 27) (Ent.take goTk)) (Outs.one rfl rfl) ⟨none, 0, [], rfl, rfl, rfl⟩

def stl1 (d : Tube) (a : Int) : Tube := { d with cnt := d.cnt + min a (d.most - d.cnt) }
def stlO (d : Tube) (a : Int) : Int := (a - min a (d.most - d.cnt)) * d.val
def stlT (T : List Tube) (A : List Int) : List Tube := T.zipWith stl1 A
def stlR (T : List Tube) (A : List Int) : Int := sumF id (T.zipWith stlO A)
theorem stlT_len (T : List Tube) (A : List Int) (h : A.length = T.length) : (stlT T A).length = T.length := by unfold stlT; rw [List.length_zipWith, h]; omega
theorem stlT_snoc {T : List Tube} {A : List Int} {k : Nat} {d : Tube} {a : Int} (hd : T[k]? = some d) (ha : A[k]? = some a) : stlT (T.take (k + 1)) (A.take (k + 1)) = stlT (T.take k) (A.take k) ++ [stl1 d a] := by
 have h1 := (List.getElem?_eq_some_iff.1 hd).1
 have h2 := (List.getElem?_eq_some_iff.1 ha).1
 unfold stlT
 rw [take_at hd, take_at ha, List.zipWith_append (by rw [List.length_take, List.length_take]; omega)]
 rfl
theorem stlR_snoc {T : List Tube} {A : List Int} {k : Nat} {d : Tube} {a : Int} (hd : T[k]? = some d) (ha : A[k]? = some a) : stlR (T.take (k + 1)) (A.take (k + 1)) = stlR (T.take k) (A.take k) + stlO d a := by
 have h1 := (List.getElem?_eq_some_iff.1 hd).1
 have h2 := (List.getElem?_eq_some_iff.1 ha).1
 unfold stlR
 rw [take_at hd, take_at ha, List.zipWith_append (by rw [List.length_take, List.length_take]; omega), sumF_app]
 simp [sumF]
/-- the first k tubes have their coins -/
def stlW (T : List Tube) (A : List Int) (k : Nat) : List Tube := stlT (T.take k) (A.take k) ++ T.drop k
theorem stlW_zero (T : List Tube) (A : List Int) : stlW T A 0 = T := by unfold stlW stlT; simp
theorem stlW_end (T : List Tube) (A : List Int) (h : A.length = T.length) : stlW T A T.length = stlT T A := by unfold stlW; rw [List.take_length, List.drop_length, List.append_nil, ← h, List.take_length]
theorem stlW_at {T : List Tube} {A : List Int} {k : Nat} {d : Tube} {a : Int} (hd : T[k]? = some d) (ha : A[k]? = some a) : (stlW T A k)[k]? = some d ∧ (stlW T A k).set k (stl1 d a) = stlW T A (k + 1) := by
 have h1 := (List.getElem?_eq_some_iff.1 hd).1
 have h2 := (List.getElem?_eq_some_iff.1 ha).1
 have hl : (stlT (T.take k) (A.take k)).length = k := by rw [stlT_len _ _ (by rw [List.length_take, List.length_take]; omega), List.length_take]; omega
 unfold stlW
 rw [stlT_snoc hd ha, drop_at hd]
 constructor
 ·rw [List.getElem?_append_right (by omega), hl, Nat.sub_self]
  rfl
 ·rw [List.set_append_right _ _ (by omega), hl, Nat.sub_self, List.append_assoc]
  rfl
theorem stlW_len {T : List Tube} {A : List Int} {k : Nat} (h : A.length = T.length) (hk : k ≤ T.length) : (stlW T A k).length = T.length := by
 unfold stlW
 rw [List.length_append, stlT_len _ _ (by rw [List.length_take, List.length_take]; omega), List.length_take, List.length_drop]
 omega
attribute [local irreducible] intRows
theorem settled_fn (T : List Tube) (A : List Int) (hl : T.length ≤ 10) (hA : A.length = T.length) (hT : ∀ d ∈ T, 1 ≤ d.val ∧ d.val ≤ 10000 ∧ 0 ≤ d.cnt ∧ d.cnt ≤ d.most ∧ d.most ≤ 1000) (hAb : ∀ a ∈ A, 0 ≤ a ∧ a ≤ 20000) :
  Spec Tryz.prog 54 [.tubes T, .ints A] [] (fun y cs => ∃ (ad : Option Addr) (cap : Nat), y = .tup [Tr.raw (.slice ad T.length cap), .int (stlR T A)] ∧ cs = [ownT ad cap (stlT T A)]) := by
 have kCl := clone_tube (T.map Tube.row) (by intro r hr; obtain ⟨d, _, rfl⟩ := List.mem_map.1 hr; rfl) (by rw [List.length_map]; omega)
 have hTr : (T.map Tube.row).length = T.length := List.length_map _
 refine Spec.body Tryz.func54 rfl rfl (Tryz.ntmps54) rfl fun w0 own0 M => ?_
 repeat' (first | refine goH ?_ | refine goV ?_ | refine goI ?_ | (refine Cw.k_cond ?_; first | (refine Cw.cond_dec rfl ?_ ?_ <;> intro hc <;> try omega) | refine Cw.cond_bool rfl ?_ ?_ <;> intro hc) | (refine Ops.k_calla ?_; first | (refine Ops.k_callf 19 ?_; (refine Ops.callO kCl (Evs.cons rfl Evs.nil) rfl ?_; rintro ad cap rows rfl))) | refine goR ?_ | refine goP ?_ | apply PSeq.cons | apply PSeq.yes rfl rfl rfl | exact goW | fail)
 rw [hTr]
 refine Cw.loopI [(1, _), (6, _), (13, _)] _ (fun q e cc => ∃ (k : Nat) (s : Int) (W : List Tube), q = T.length - k ∧ (k ≤ T.length ∧ W = stlW T A k ∧ s = stlR (T.take k) (A.take k) ∧ 0 ≤ s ∧ s ≤ 200000000 * (k : Int)) ∧ e = [(7, .int s), (14, .int k)] ∧ cc = [ownT ad cap W])
  ⟨_, _, _, (Ent.mkP goSub goPm), 0, 0, T, rfl, ⟨by omega, (stlW_zero T A).symm, rfl, by omega, by omega⟩, rfl, rfl⟩ ?_
 rintro _ _ _ ⟨k, s, W, rfl, ⟨hk, hW, hs, hs1, hs2⟩, rfl, rfl⟩
 have hWl : W.length = T.length := by rw [hW]; exact stlW_len hA hk
 have hWr : (W.map Tube.row).length = T.length := by rw [List.length_map, hWl]
 by_cases hkl : k < T.length
 ·obtain ⟨d, hd⟩ := at_lt hkl
  obtain ⟨a, ha⟩ := at_lt (l := A) (k := k) (by omega)
  obtain ⟨hw1, hw2⟩ := stlW_at hd ha
  rw [← hW] at hw1 hw2
  have hTd := hT d (List.mem_of_getElem? hd)
  have hAa := hAb a (List.mem_of_getElem? ha)
  have hrow : (W.map Tube.row)[((k : Nat) : Int).toNat]? = some [.int d.val, .int d.cnt, .int d.most] := by rw [Int.toNat_natCast]; exact rows_at hw1
  have hrowA : (intRows A)[((k : Nat) : Int).toNat]? = some [.int a] := by rw [Int.toNat_natCast]; exact intRows_at ha
  have hAl : (intRows A).length = T.length := by rw [intRows_len, hA]
  have hsn := stlR_snoc hd ha
  rw [← hs] at hsn
  unfold stlO at hsn
  have hset : (W.map Tube.row).set k [.int d.val, .int (d.cnt + min a (d.most - d.cnt)), .int d.most] = (stlW T A (k + 1)).map Tube.row := by rw [← hw2, List.map_set]; rfl
  have hrow2 : ((stlW T A (k + 1)).map Tube.row)[((k : Nat) : Int).toNat]? = some [.int d.val, .int (d.cnt + min a (d.most - d.cnt)), .int d.most] := by
   rw [Int.toNat_natCast, ← hset, List.getElem?_set_self (by rw [hWr]; exact hkl)]
  have hmn : 0 ≤ min a (d.most - d.cnt) ∧ min a (d.most - d.cnt) ≤ a ∧ d.cnt + min a (d.most - d.cnt) ≤ d.most := by omega
  have hpr := mul_bd (a := a - min a (d.most - d.cnt)) (b := d.val) (A := 20000) (B := 10000) (by omega) (by omega)
  have hW2l : ((stlW T A (k + 1)).map Tube.row).length = T.length := by rw [List.length_map]; exact stlW_len hA (by omega)
  have e1 : (W.map Tube.row).set ((k : Nat) : Int).toNat ([Tr.int d.val, Tr.int d.cnt, Tr.int d.most].set (0 + 1) (Tr.int (d.cnt + min a (d.most - d.cnt)))) = (stlW T A (k + 1)).map Tube.row := by rw [Int.toNat_natCast]; exact hset
  clear hT hAb hw1 hw2 hd ha hW hs hset
  repeat' (first | refine goH ?_ | (refine Ops.k_store ?_; first | (refine Ops.store_own1 rfl rfl goPk (by first | rfl | assumption | (simp [*]; done)) (by decide) ?_; rw [e1])) | refine goV ?_ | refine goI ?_ | (refine Cw.k_cond ?_; first | (refine Cw.cond_dec rfl ?_ ?_ <;> intro hc <;> try omega) | refine Cw.cond_bool rfl ?_ ?_ <;> intro hc) | refine goR ?_ | refine goP ?_ | apply PSeq.cons | apply PSeq.yes rfl rfl rfl | exact goW | fail)
  have hsn2 : stlR (T.take (k + 1)) (A.take (k + 1)) = s + (a - min a (d.most - d.cnt)) * d.val := hsn
  clear hsn hrow hrow2 hrowA e1
  generalize (a - min a (d.most - d.cnt)) * d.val = pr at *
  exact ⟨_, _, _, (Ent.mk goSub goTk), ⟨k + 1, _, _, rfl, ⟨by omega, rfl, hsn2.symm, by omega, by omega⟩, rfl, rfl⟩, by omega⟩
 ·have hke : k = T.length := by omega
  subst hke
  rw [stlW_end T A hA] at hW
  rw [List.take_length, ← hA, List.take_length] at hs
  subst hW
  rw [← hs]
  repeat' (first | refine goH ?_ | refine goV ?_ | refine goI ?_ | (refine Cw.k_cond ?_; first | (refine Cw.cond_dec rfl ?_ ?_ <;> intro hc <;> try omega) | refine Cw.cond_bool rfl ?_ ?_ <;> intro hc) | refine goR ?_ | refine goP ?_ | apply PSeq.cons | apply PSeq.yes rfl rfl rfl | exact goW | fail)
  exact Fin.ret (Ent.take (Take.cons goPk Take.nil)) (Outs.two rfl rfl rfl) ⟨_, _, rfl, rfl⟩
end Lg
end
