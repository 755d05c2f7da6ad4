/- A part of the proof of a law of this seat: it adds no condition. By an AI agent. -/
import Derived.Shelf.Strings.Search3
import Derived.Shelf.Strings.Prefix
import Derived.Shelf.Strings.Count
import Derived.Shelf.SlSortCmp.WholeK
import Derived.Test.YthgcdnfhfejijaaGreatDoorProg
import Derived.Test.YthgcdnfhfejijaaGreatDoorRd9
section
set_option linter.all false
set_option maxRecDepth 100000
set_option maxHeartbeats 8000000
namespace Lg
open Go Go.Proofs

theorem difL_bd {t : Int} : ∀ {x y : List Int}, (∀ a ∈ x, 0 ≤ a ∧ a < t) → (∀ a ∈ y, 0 ≤ a ∧ a < t) → ∀ a ∈ difL t x y, 0 ≤ a ∧ a < t
 |[], _, _, _, a, h => by rw [difL] at h; cases h; simp
 |_ :: _, [], _, _, a, h => by rw [difL] at h; cases h; simp
 |p :: x, q :: y, h1, h2, a, h => by
  rw [difL] at h
  rcases List.mem_cons.1 h with rfl | h
  ·exact difE_bd (h1 p (by simp)) (h2 q (by simp))
  ·exact difL_bd (fun a ha => h1 a (by simp [ha])) (fun a ha => h2 a (by simp [ha])) a h
structure SOk (n : Nat) (s : Stp) : Prop where
 n : s.s.length = n
 v : ∀ x ∈ s.s, 0 ≤ x ∧ x ≤ 1000000
 ab : (0 ≤ s.a ∧ s.a < 5761440) ∧ 0 ≤ s.b ∧ s.b < 5761440
theorem stpOf_ok {c t f : Int} {A B : Rdg} (hm : mtrE c t f = 0) (ha : ROk c t A) (hb : ROk c t B) : SOk c.toNat (stpOf t f A B) := by
 obtain ⟨_, h2, _⟩ := mtrE_ok hm
 have h3 := ha.n
 have h4 := hb.n
 unfold stpOf
 split
 ·exact ⟨by show B.vs.length = _; omega, fun x hx => by have := hb.v x hx; omega, ha.t0, hb.t0⟩
 ·refine ⟨?_, fun x hx => ?_, ha.t0, hb.t0⟩
  ·show (difL t A.vs B.vs).length = _
   rw [difL_len t (by omega)]
   omega
  ·have := difL_bd ha.v hb.v x hx
   omega
theorem stpsOf_ok {c t f : Int} (hm : mtrE c t f = 0) : ∀ {D : List Rdg}, (∀ r ∈ D, ROk c t r) → ∀ s ∈ stpsOf t f D, SOk c.toNat s
 |[], _, s, h => by simp [stpsOf] at h
 |[_], _, s, h => by simp [stpsOf] at h
 |A :: B :: l, hD, s, h => by
  rw [stpsOf] at h
  rcases List.mem_cons.1 h with rfl | h
  ·exact stpOf_ok hm (hD A (by simp)) (hD B (by simp))
  ·exact stpsOf_ok hm (fun r hr => hD r (by simp at hr ⊢; exact .inr hr)) s h
theorem addL_len {x y : List Int} {n : Nat} (h1 : x.length = n) (h2 : y.length = n) : (addL x y).length = n := by unfold addL; rw [List.length_zipWith]; omega
theorem addL_at {x y : List Int} {k : Nat} {a b : Int} (h1 : x[k]? = some a) (h2 : y[k]? = some b) : (addL x y)[k]? = some (a + b) := by
 unfold addL
 rw [List.getElem?_zipWith, h1, h2]
/-- halfway through the addition of y to x -/
def addH (x y : List Int) (k : Nat) : List Int := (addL x y).take k ++ x.drop k
theorem addH_zero (x y : List Int) : addH x y 0 = x := rfl
theorem addH_end {x y : List Int} {n : Nat} (h1 : x.length = n) (h2 : y.length = n) : addH x y n = addL x y := by
 unfold addH
 rw [List.take_of_length_le (by rw [addL_len h1 h2]; exact Nat.le_refl _), List.drop_of_length_le (by omega), List.append_nil]
theorem addH_len {x y : List Int} {n k : Nat} (h1 : x.length = n) (h2 : y.length = n) (hk : k ≤ n) : (addH x y k).length = n := by
 unfold addH
 rw [List.length_append, List.length_take, List.length_drop, addL_len h1 h2]
 omega
theorem addH_at {x y : List Int} {n k : Nat} (h1 : x.length = n) (h2 : y.length = n) (hk : k < n) {a : Int} (ha : x[k]? = some a) : (addH x y k)[k]? = some a := by
 unfold addH
 rw [List.getElem?_append_right (by rw [List.length_take]; omega), List.length_take, addL_len h1 h2, show k - min k n = 0 by omega, List.getElem?_drop]
 exact ha
theorem addH_set {x y : List Int} {n k : Nat} (h1 : x.length = n) (h2 : y.length = n) (hk : k < n) {a b : Int} (ha : x[k]? = some a) (hb : y[k]? = some b) : (addH x y k).set k (a + b) = addH x y (k + 1) := by
 have hl : ((addL x y).take k).length = k := by rw [List.length_take, addL_len h1 h2]; omega
 unfold addH
 rw [drop_at ha, List.set_append_right _ _ (by omega), hl, Nat.sub_self, List.set_cons_zero, take_at (addL_at ha hb), List.append_assoc]
 rfl
theorem addL_bd {x y : List Int} {m : Int} (hx : ∀ a ∈ x, 0 ≤ a ∧ a ≤ m) (hy : ∀ a ∈ y, 0 ≤ a ∧ a ≤ 1000000) : ∀ a ∈ addL x y, 0 ≤ a ∧ a ≤ m + 1000000 := by
 intro a ha
 unfold addL at ha
 obtain ⟨i, hi⟩ := List.mem_iff_getElem?.1 ha
 rw [List.getElem?_zipWith] at hi
 cases h1 : x[i]? with
 |none => rw [h1] at hi; cases hi
 |some p =>
  cases h2 : y[i]? with
  |none => rw [h1, h2] at hi; cases hi
  |some q =>
   rw [h1, h2] at hi
   injection hi with hi
   have := hx p (List.mem_of_getElem? h1)
   have := hy q (List.mem_of_getElem? h2)
   omega
theorem soldF_drop {acc : List Int} {S : List Stp} {k : Nat} {s : Stp} (h : S[k]? = some s) : soldF acc (S.drop k) = soldF (addL acc s.s) (S.drop (k + 1)) := by rw [drop_at h, soldF]
theorem soldF_end {acc : List Int} {S : List Stp} {k : Nat} (h : S.length ≤ k) : soldF acc (S.drop k) = acc := by rw [List.drop_of_length_le h, soldF]
theorem intRows_set (l : List Int) (i : Nat) (v : Int) : (intRows l).set i [Tr.int v] = intRows (l.set i v) := by
 unfold intRows
 rw [List.map_set]
theorem intRows_rep (n : Nat) : List.replicate n [Tr.int 0] = intRows (List.replicate n 0) := by
 unfold intRows
 rw [List.map_replicate]
def soldL (c t f : Int) (D : List Rdg) : List Int := soldF (List.replicate c.toNat 0) (stpsOf t f D)
def sldO (c t f : Int) (D : List Rdg) (e : Int) : Tr := if e = 0 then .tup [.ints (soldL c t f D), .int 0] else .tup [.sl 1 [], .int e]
end Lg
end
section
set_option linter.all false
set_option maxRecDepth 100000
set_option maxHeartbeats 2000000
namespace Lg
open Go Go.Proofs

/-! ### days in plain terms -/
def mnT (a b d : Int) : Int := max 0 (min b ((d + 1) * 1440) - max a (d * 1440))
/-- the minutes of the first k days -/
def minsK (a b : Int) (k : Nat) : List Int := (List.range k).map fun i : Nat => mnT a b (a / 1440 + i)
abbrev nDays (a b : Int) : Nat := (b / 1440 - a / 1440 + 1).toNat
abbrev mins (a b : Int) : List Int := minsK a b (nDays a b)
theorem minsK_len (a b : Int) (k : Nat) : (minsK a b k).length = k := by simp [minsK]
theorem minsK_snoc (a b : Int) (k : Nat) : minsK a b (k + 1) = minsK a b k ++ [mnT a b (a / 1440 + k)] := by
 unfold minsK
 rw [List.range_succ, List.map_append]
 rfl
theorem mnT_bd (a b d : Int) (h : 0 ≤ a ∧ a ≤ b) : 0 ≤ mnT a b d ∧ mnT a b d ≤ 1440 := by unfold mnT; omega
theorem minsK_bd (a b : Int) (k : Nat) (h : 0 ≤ a ∧ a ≤ b) : ∀ w ∈ minsK a b k, 0 ≤ w ∧ w ≤ 1440 := by
 intro w hw
 obtain ⟨i, _, rfl⟩ := List.mem_map.1 hw
 exact mnT_bd a b _ h
theorem minsK_sum (a b : Int) (h : 0 ≤ a ∧ a ≤ b) : ∀ k : Nat, 1 ≤ k → a / 1440 + k ≤ b / 1440 + 1 → sumL (minsK a b k) = min b ((a / 1440 + k) * 1440) - a
 |0, h1, _ => by omega
 |k + 1, _, h2 => by
  rw [minsK_snoc, sumL_app, sumL_cons, sumL_nil, Int.add_zero]
  by_cases hk : k = 0
  ·subst hk
   rw [show minsK a b 0 = [] from rfl, sumL_nil]
   unfold mnT
   omega
  ·rw [minsK_sum a b h k (by omega) (by omega)]
   unfold mnT
   omega
theorem nDays_eq {a b : Int} (h : 0 ≤ a ∧ a ≤ b) : (nDays a b : Int) = b / 1440 - a / 1440 + 1 := by unfold nDays; omega
theorem mins_sum (a b : Int) (h : 0 ≤ a ∧ a ≤ b) : sumL (mins a b) = b - a := by
 have e := nDays_eq h
 rw [minsK_sum a b h _ (by omega) (by omega)]
 omega
abbrev PI := List (Int × Int)
/-- what a step gives to the days -/
def dyF (first : Int) : Nat → List Int → PI → PI
 |_, [], m => m
 |i, n :: l, m => dyF first (i + 1) l (mAdd (first + i) n m)
noncomputable def dyS (k : Nat) (s : Stp) (m : PI) : PI := dyF (s.a / 1440) 0 (shG (s.s.getD k 0) (mins s.a s.b)) m
noncomputable def dyL (k : Nat) : List Stp → PI → PI
 |[], m => m
 |s :: S, m => dyL k S (dyS k s m)
def pz (p : Int × Int) : Bool := decide (0 < p.2)
def ltP (a b : Int × Int) : Bool := decide (a.1 < b.1)
/-- the days with a number, sorted -/
def dyV (m : PI) : PI := isort ltP (m.filter pz)
theorem dyV_perm {g m : PI} (hp : m.Perm g) (hn : (m.map Prod.fst).Nodup) : isort ltP (g.filter pz) = dyV m := by
 refine isortI_uniq (key := Prod.fst) (hp.symm.filter pz) ?_
 exact List.Nodup.sublist ((List.filter_sublist).map Prod.fst) ((hp.map Prod.fst).nodup_iff.1 hn)
/-- what holds of the map on the way -/
structure DyOk (B : Int) (n : Nat) (m : PI) : Prop where
 nd : (m.map Prod.fst).Nodup
 bd : ∀ q ∈ m, 0 ≤ q.2 ∧ q.2 ≤ B
 len : m.length ≤ n
theorem DyOk.val {B : Int} {n : Nat} {m : PI} (h : DyOk B n m) (hB : 0 ≤ B) (a : Int) : 0 ≤ mI a m ∧ mI a m ≤ B :=
 mI_all (p := fun v => 0 ≤ v ∧ v ≤ B) ⟨by omega, by omega⟩ (fun q hq => h.bd q hq)
theorem DyOk.add {B c : Int} {n : Nat} {m : PI} (h : DyOk B n m) (hB : 0 ≤ B) (a : Int) {v : Int} (hv : 0 ≤ v ∧ v ≤ c) : DyOk (B + c) (n + 1) (mUp a (mI a m + v) m) := by
 have h1 := h.val hB a
 refine ⟨mUp_nodup h.nd, mAll_up (p := fun q => 0 ≤ q.2 ∧ q.2 ≤ B + c) (by simp only; omega) (fun q hq => by have := h.bd q hq; omega), ?_⟩
 have := mUp_len a (mI a m + v) m
 have := h.len
 omega
theorem shF_bd : ∀ (l out : List Int) {B : Int}, (∀ x ∈ out, 0 ≤ x ∧ x ≤ B) → 0 ≤ B → ∀ x ∈ shF out l, 0 ≤ x ∧ x ≤ B + l.length
 |[], out, B, h, _ => fun x hx => by have := h x hx; simp; omega
 |i :: l, out, B, h, h0 => fun x hx => by
  have h2 : ∀ y ∈ addOne out i, 0 ≤ y ∧ y ≤ B + 1 := fun y hy => by
   unfold addOne at hy
   rcases List.mem_or_eq_of_mem_set hy with h3 | h3
   ·have := h y h3; omega
   ·have h4 : 0 ≤ out.getD i.toNat 0 ∧ out.getD i.toNat 0 ≤ B := by
     rw [List.getD_eq_getElem?_getD]
     cases hg : out[i.toNat]? with
     |none => exact ⟨by simp, by simpa using h0⟩
     |some z => exact h z (List.mem_of_getElem? hg)
    omega
  have := shF_bd l (addOne out i) h2 (by omega) x hx
  rw [List.length_cons]
  omega
theorem shG_bd {t : Int} {ws : List Int} (ht : 0 ≤ t ∧ t ≤ 1000000) (hw : ∀ w ∈ ws, 0 ≤ w ∧ w ≤ 1440) (hs : 1 ≤ sumL ws) (hn : ws.length ≤ 5000) : ∀ x ∈ shG t ws, 0 ≤ x ∧ x ≤ 1440005000 := by
 intro x hx
 unfold shG at hx
 have hB : ∀ y ∈ shBase t (sumL ws) ws, 0 ≤ y ∧ y ≤ 1440000000 := by
  intro y hy
  unfold shBase at hy
  obtain ⟨w, hwm, rfl⟩ := List.mem_map.1 hy
  have hwb := hw w hwm
  have m1 : 0 ≤ t * w ∧ t * w ≤ 1440000000 := ⟨Int.mul_nonneg ht.1 hwb.1, by have := Int.mul_le_mul ht.2 hwb.2 hwb.1 (by omega); omega⟩
  have d1 := Int.ediv_le_self (sumL ws) m1.1
  have d2 := Int.ediv_nonneg m1.1 (show 0 ≤ sumL ws by omega)
  omega
 have h2 := shF_bd _ _ hB (by omega) x hx
 have h3 : (List.take (shLeft t (sumL ws) ws).toNat (shOrdN t (sumL ws) ws)).length ≤ ws.length := by
  rw [List.length_take, (shOrdN_ok t (sumL ws) ws).len]
  omega
 omega
/-! ### readings in order are not at one moment -/
theorem stps_asc {t f : Int} : ∀ {D : List Rdg}, (D.Pairwise fun a b => a.t < b.t) → ∀ s ∈ stpsOf t f D, s.a < s.b
 |[], _, s, hs => by cases hs
 |[a], _, s, hs => by cases hs
 |a :: b :: D, h, s, hs => by
  have hh := List.pairwise_cons.1 h
  unfold stpsOf at hs
  rcases List.mem_cons.1 hs with rfl | h1
  ·unfold stpOf
   split
   ·exact hh.1 b (by simp)
   ·exact hh.1 b (by simp)
  ·exact stps_asc hh.2 s h1
end Lg
end
section
/-
 DERIVED: THE SHELF's CONTRACTS AT THIS DUMP, IN PLAIN WORDS (tools/lay-plain.mjs out of 'YthgcdnfhfejijaaGreatDoorShelf2Raw.lean', which tools/lay-shelf.mjs wrote): THE SAME DECLARATIONS UNDER THE SAME NAMES: 'import', 'namespace', 'open', 'def', 'theorem' AND NOTHING ELSE: no command of the shelf's: FOR A HAND-IN. Each laying: the table of numbers ('.._ren') and one theorem, a field a fact of the dump's own or the kernel's comparison; each contract: ONE APPLICATION.
-/
namespace Go.Proofs
open Go.Shelf
def Tryz.lays143_ren : Go.Shelf.Ren := ⟨fun | 143 => 132 | 219 => 160 | 217 => 182 | 225 => 183 | 224 => 184 | 267 => 185 | 266 => 203 | 314 => 204 | n => n, fun | 9 => 9 | 3 => 3 | 4 => 4 | 5 => 5 | 46 => 142 | 146 => 284 | 51 => 193 | n => n, fun | 1 => 3 | n => n⟩
theorem Tryz.lays143 : Go.Proofs.Lays.n143 Tryz.prog Tryz.lays143_ren := {
 mixed := by kernel_rfl
 f143 := Tryz.func132.trans (congrArg some (by kernel_rfl))
 f217 := Tryz.func182.trans (congrArg some (by kernel_rfl))
 f219 := Tryz.func160.trans (congrArg some (by kernel_rfl))
 f224 := Tryz.func184.trans (congrArg some (by kernel_rfl))
 f225 := Tryz.func183.trans (congrArg some (by kernel_rfl))
 f266 := Tryz.func203.trans (congrArg some (by kernel_rfl))
 f267 := Tryz.func185.trans (congrArg some (by kernel_rfl))
 f314 := Tryz.func204.trans (congrArg some (by kernel_rfl))
 t3 := Tryz.underlying3
 a3 := Tryz.isAgg3
 z3 := Tryz.sizeOf3
 v3 := Tryz.zeroValue3
 t4 := Tryz.underlying4
 a4 := Tryz.isAgg4
 z4 := Tryz.sizeOf4
 v4 := Tryz.zeroValue4
 t5 := Tryz.underlying5
 a5 := Tryz.isAgg5
 z5 := Tryz.sizeOf5
 v5 := Tryz.zeroValue5
 t9 := Tryz.underlying9
 a9 := Tryz.isAgg9
 z9 := Tryz.sizeOf9
 v9 := Tryz.zeroValue9
 t46 := Tryz.underlying142
 a46 := Tryz.isAgg142
 z46 := Tryz.sizeOf142
 v46 := Tryz.zeroValue142
 t51 := Tryz.underlying193
 a51 := Tryz.isAgg193
 z51 := Tryz.sizeOf193
 v51 := Tryz.zeroValue193
 t146 := Tryz.underlying284
 a146 := Tryz.isAgg284
 z146 := Tryz.sizeOf284
 v146 := Tryz.zeroValue284
 g1 := by kernel_rfl }
def Tryz.lays138_ren : Go.Shelf.Ren := ⟨fun | 138 => 162 | 195 => 186 | 218 => 187 | 143 => 132 | 219 => 160 | 217 => 182 | 225 => 183 | 224 => 184 | 267 => 185 | 266 => 203 | 314 => 204 | n => n, fun | 9 => 9 | 3 => 3 | 4 => 4 | 5 => 5 | 0 => 0 | 46 => 142 | 146 => 284 | 51 => 193 | n => n, fun | 1 => 3 | n => n⟩
theorem Tryz.lays138 : Go.Proofs.Lays.n138 Tryz.prog Tryz.lays138_ren := {
 mixed := by kernel_rfl
 f138 := Tryz.func162.trans (congrArg some (by kernel_rfl))
 f143 := Tryz.func132.trans (congrArg some (by kernel_rfl))
 f195 := Tryz.func186.trans (congrArg some (by kernel_rfl))
 f217 := Tryz.func182.trans (congrArg some (by kernel_rfl))
 f218 := Tryz.func187.trans (congrArg some (by kernel_rfl))
 f219 := Tryz.func160.trans (congrArg some (by kernel_rfl))
 f224 := Tryz.func184.trans (congrArg some (by kernel_rfl))
 f225 := Tryz.func183.trans (congrArg some (by kernel_rfl))
 f266 := Tryz.func203.trans (congrArg some (by kernel_rfl))
 f267 := Tryz.func185.trans (congrArg some (by kernel_rfl))
 f314 := Tryz.func204.trans (congrArg some (by kernel_rfl))
 t0 := Tryz.underlying0
 a0 := Tryz.isAgg0
 z0 := Tryz.sizeOf0
 v0 := Tryz.zeroValue0
 t3 := Tryz.underlying3
 a3 := Tryz.isAgg3
 z3 := Tryz.sizeOf3
 v3 := Tryz.zeroValue3
 t4 := Tryz.underlying4
 a4 := Tryz.isAgg4
 z4 := Tryz.sizeOf4
 v4 := Tryz.zeroValue4
 t5 := Tryz.underlying5
 a5 := Tryz.isAgg5
 z5 := Tryz.sizeOf5
 v5 := Tryz.zeroValue5
 t9 := Tryz.underlying9
 a9 := Tryz.isAgg9
 z9 := Tryz.sizeOf9
 v9 := Tryz.zeroValue9
 t46 := Tryz.underlying142
 a46 := Tryz.isAgg142
 z46 := Tryz.sizeOf142
 v46 := Tryz.zeroValue142
 t51 := Tryz.underlying193
 a51 := Tryz.isAgg193
 z51 := Tryz.sizeOf193
 v51 := Tryz.zeroValue193
 t146 := Tryz.underlying284
 a146 := Tryz.isAgg284
 z146 := Tryz.sizeOf284
 v146 := Tryz.zeroValue284
 g1 := by kernel_rfl }
def Tryz.sortDay_ren : Go.Shelf.Ren := ⟨fun | 6 => 34 | 15 => 62 | 14 => 61 | 28 => 100 | 29 => 101 | 20 => 92 | 21 => 93 | 22 => 94 | 23 => 95 | 24 => 96 | 25 => 97 | 26 => 98 | 27 => 99 | 46 => 124 | 47 => 125 | 48 => 126 | 49 => 127 | 50 => 128 | 57 => 154 | n => n, fun | 22 => 65 | 24 => 69 | 25 => 100 | 3 => 3 | 39 => 142 | 0 => 0 | 53 => 193 | 55 => 195 | 4 => 4 | 46 => 186 | 45 => 185 | 50 => 190 | 5 => 5 | 9 => 9 | 66 => 215 | 70 => 219 | 76 => 248 | 77 => 145 | n => n, fun | n => n⟩
theorem Tryz.sortDay : Go.Proofs.SlLaysF0.n6 Tryz.prog Tryz.sortDay_ren := {
 mixed := by kernel_rfl
 f6 := ⟨Tryz.f34.name, by decide, Tryz.func34.trans (congrArg some (by kernel_rfl))⟩
 f14 := ⟨Tryz.f61.name, by decide, Tryz.func61.trans (congrArg some (by kernel_rfl))⟩
 f15 := Tryz.func62.trans (congrArg some (by kernel_rfl))
 f20 := ⟨Tryz.f92.name, by decide, Tryz.func92.trans (congrArg some (by kernel_rfl))⟩
 f21 := ⟨Tryz.f93.name, by decide, Tryz.func93.trans (congrArg some (by kernel_rfl))⟩
 f22 := ⟨Tryz.f94.name, by decide, Tryz.func94.trans (congrArg some (by kernel_rfl))⟩
 f23 := ⟨Tryz.f95.name, by decide, Tryz.func95.trans (congrArg some (by kernel_rfl))⟩
 f24 := ⟨Tryz.f96.name, by decide, Tryz.func96.trans (congrArg some (by kernel_rfl))⟩
 f25 := ⟨Tryz.f97.name, by decide, Tryz.func97.trans (congrArg some (by kernel_rfl))⟩
 f26 := ⟨Tryz.f98.name, by decide, Tryz.func98.trans (congrArg some (by kernel_rfl))⟩
 f27 := ⟨Tryz.f99.name, by decide, Tryz.func99.trans (congrArg some (by kernel_rfl))⟩
 f28 := Tryz.func100.trans (congrArg some (by kernel_rfl))
 f29 := Tryz.func101.trans (congrArg some (by kernel_rfl))
 f46 := ⟨Tryz.f124.name, by decide, Tryz.func124.trans (congrArg some (by kernel_rfl))⟩
 f47 := Tryz.func125.trans (congrArg some (by kernel_rfl))
 f48 := Tryz.func126.trans (congrArg some (by kernel_rfl))
 f49 := ⟨Tryz.f127.name, by decide, Tryz.func127.trans (congrArg some (by kernel_rfl))⟩
 f50 := ⟨Tryz.f128.name, by decide, Tryz.func128.trans (congrArg some (by kernel_rfl))⟩
 f57 := ⟨Tryz.f154.name, by decide, Tryz.func154.trans (congrArg some (by kernel_rfl))⟩
 t0 := Tryz.underlying0
 a0 := Tryz.isAgg0
 z0 := Tryz.sizeOf0
 v0 := Tryz.zeroValue0
 t3 := Tryz.underlying3
 a3 := Tryz.isAgg3
 z3 := Tryz.sizeOf3
 v3 := Tryz.zeroValue3
 t4 := Tryz.underlying4
 a4 := Tryz.isAgg4
 z4 := Tryz.sizeOf4
 v4 := Tryz.zeroValue4
 t5 := Tryz.underlying5
 a5 := Tryz.isAgg5
 z5 := Tryz.sizeOf5
 v5 := Tryz.zeroValue5
 t9 := Tryz.underlying9
 a9 := Tryz.isAgg9
 z9 := Tryz.sizeOf9
 v9 := Tryz.zeroValue9
 t22 := Tryz.underlying65
 a22 := Tryz.isAgg65
 z22 := Tryz.sizeOf65
 v22 := Tryz.zeroValue65
 t25 := Tryz.underlying100
 a25 := Tryz.isAgg100
 z25 := Tryz.sizeOf100
 v25 := Tryz.zeroValue100
 t39 := Tryz.underlying142
 a39 := Tryz.isAgg142
 z39 := Tryz.sizeOf142
 v39 := Tryz.zeroValue142
 t45 := Tryz.underlying185
 a45 := Tryz.isAgg185
 z45 := Tryz.sizeOf185
 v45 := Tryz.zeroValue185
 t46 := Tryz.underlying186
 a46 := Tryz.isAgg186
 z46 := Tryz.sizeOf186
 v46 := Tryz.zeroValue186
 t50 := Tryz.underlying190
 a50 := Tryz.isAgg190
 z50 := Tryz.sizeOf190
 v50 := Tryz.zeroValue190
 t53 := Tryz.underlying193
 a53 := Tryz.isAgg193
 z53 := Tryz.sizeOf193
 v53 := Tryz.zeroValue193
 t55 := Tryz.underlying195
 a55 := Tryz.isAgg195
 z55 := Tryz.sizeOf195
 v55 := Tryz.zeroValue195
 t66 := Tryz.underlying215
 a66 := Tryz.isAgg215
 z66 := Tryz.sizeOf215
 v66 := Tryz.zeroValue215
 t70 := Tryz.underlying219
 a70 := Tryz.isAgg219
 z70 := Tryz.sizeOf219
 v70 := Tryz.zeroValue219
 t76 := Tryz.underlying248
 a76 := Tryz.isAgg248
 z76 := Tryz.sizeOf248
 v76 := Tryz.zeroValue248
 t77 := Tryz.underlying145
 a77 := Tryz.isAgg145
 z77 := Tryz.sizeOf145
 v77 := Tryz.zeroValue145 }
end Go.Proofs
end
