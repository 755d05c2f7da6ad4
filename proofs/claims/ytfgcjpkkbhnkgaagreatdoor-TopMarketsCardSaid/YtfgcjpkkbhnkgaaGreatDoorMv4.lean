/- A part of the proof of a law of this seat: it adds no condition. By an AI agent. -/
import Derived.Shelf.SlSortCmp.WholeK
import Derived.Shelf.Bits.Mul64
import Derived.Shelf.Strings.Search3
import Derived.Shelf.Strings.Prefix
import Derived.Shelf.Strings.Count
import Derived.Test.YtfgcjpkkbhnkgaaGreatDoorProg
import Derived.Test.YtfgcjpkkbhnkgaaGreatDoorMv2
section
set_option linter.all false
set_option maxRecDepth 100000
set_option maxHeartbeats 8000000
namespace Lg
open Go Go.Proofs

/-! ### what is wrong with moves -/
def firstP (e : Nat → Int) : Nat → Nat → Int × Int
 |_, 0 => (0, 0)
 |i, n + 1 => if e i ≠ 0 then ((i : Int), e i) else firstP e (i + 1) n
theorem firstP_step {e : Nat → Int} {k n : Nat} (h : k < n) : firstP e k (n - k) = if e k ≠ 0 then ((k : Int), e k) else firstP e (k + 1) (n - (k + 1)) := by
 obtain ⟨m, hm⟩ : ∃ m, n - k = m + 1 := ⟨n - k - 1, by omega⟩
 rw [hm, show n - (k + 1) = m by omega]
 rfl
theorem firstP_end {e : Nat → Int} {k n : Nat} (h : ¬ k < n) : firstP e k (n - k) = (0, 0) := by
 rw [show n - k = 0 by omega]
 rfl
theorem firstP_bad {e : Nat → Int} {k n : Nat} {c : Int} (h : k < n) (he : e k = c) (hc : c ≠ 0) : firstP e k (n - k) = ((k : Int), c) := by
 rw [firstP_step h, he, if_pos hc]
theorem firstP_ok {e : Nat → Int} {k n : Nat} (h : k < n) (he : e k = 0) : firstP e k (n - k) = firstP e (k + 1) (n - (k + 1)) := by
 rw [firstP_step h, if_neg (by simp [he])]
theorem firstP_zero {e : Nat → Int} : ∀ {n k : Nat}, (firstP e k n).2 = 0 → ∀ j, k ≤ j → j < k + n → e j = 0
 |0, k, _, j, h1, h2 => by omega
 |n + 1, k, h, j, h1, h2 => by
  unfold firstP at h
  split at h
  ·rename_i h3; exact absurd h h3
  ·rename_i h3
   by_cases hjk : j = k
   ·subst hjk; omega
   ·exact firstP_zero h j (by omega) (by omega)
def ordP : Option Mv → Mv → Bool
 |none, _ => false
 |some y, x => decide (cfM x y ≤ 0)
def bfP : Option Mv → Mv → Int
 |none, _ => 0
 |some y, x => if y.site = x.site then y.no else 0
def mvX (p : Option Mv) (x : Mv) : Int :=
 if isKey x.site = false then 5 else if ordP p x = true then 7 else if x.no ≠ bfP p x + 1 ∨ x.day < 0 ∨ 4000 < x.day then 1
 else if isKey x.ware = false then 5 else if x.many = 0 ∨ x.many < -1000 ∨ 1000 < x.many then 1 else 0
def prvM (l : List Mv) : Nat → Option Mv
 |0 => none
 |j + 1 => l[j]?
def mvE (l : List Mv) (k : Nat) : Int := match l[k]? with
 |none => 0
 |some x => mvX (prvM l k) x
def mvsE (l : List Mv) : Int × Int := if l.length > 2000 then (0, 2) else firstP (mvE l) 0 l.length
theorem mvsE_ok {l : List Mv} (h : (mvsE l).2 = 0) : ∀ x ∈ l, -1000 ≤ x.many ∧ x.many ≤ 1000 := by
 intro x hx
 unfold mvsE at h
 split at h
 ·cases h
 ·obtain ⟨i, hi⟩ := List.getElem?_of_mem hx
  have hlt := (List.getElem?_eq_some_iff.1 hi).1
  have := firstP_zero h i (Nat.zero_le _) (by omega)
  unfold mvE at this
  rw [hi] at this
  simp only [mvX] at this
  repeat (split at this; · cases this)
  omega
def NoBd (l : List Mv) : Prop := ∀ x ∈ l, -1000000 ≤ x.no ∧ x.no ≤ 1000000
theorem byMove_fn (a b : Mv) : PFn Tryz.prog 38 [.agg a.row, .agg b.row] (· = .int (cfM a b)) := by
 have k1 := compareS_fn a.site b.site
 have k2 := compare_fn a.no b.no
 have k3 := cmpOrI_fn [cmpS a.site b.site, cmpI a.no b.no] (by simp)
 unfold cfM
 generalize orI [cmpS a.site b.site, cmpI a.no b.no] = o at *
 obtain ⟨s, n, d, w, m⟩ := a
 obtain ⟨s2, n2, d2, w2, m2⟩ := b
 unfold Mv.row
 simp only at k1 k2 k3 ⊢
 refine PFn.mk (Spec.body Tryz.func38 rfl rfl (Tryz.ntmps38) rfl fun w0 own0 M => ?_)
 repeat' (first | refine goH ?_ | refine goV ?_ | refine goB (fun b => ?_) | refine goI ?_ | (refine Cw.k_cond ?_; first | (refine Cw.cond_dec rfl ?_ ?_ <;> intro hc <;> try omega) | refine Cw.cond_bool rfl ?_ ?_ <;> intro hc) | (refine Ops.k_calla ?_; first | (refine Ops.k_callf 75 ?_; refine Ops.callV k1 (Evs.cons rfl (Evs.cons rfl Evs.nil)) rfl ?_) | (refine Ops.k_callf 31 ?_; refine Ops.callV k2 (Evs.cons rfl (Evs.cons rfl Evs.nil)) rfl ?_) | (refine Ops.k_callf 74 ?_; refine Ops.callV k3 (Evs.cons rfl Evs.nil) rfl ?_)) | (apply OpW.k_call; first | (apply OpW.k_callf 75; exact OpW.callV k1 (Evs.cons rfl (Evs.cons rfl Evs.nil))) | (apply OpW.k_callf 31; exact OpW.callV k2 (Evs.cons rfl (Evs.cons rfl Evs.nil))) | (apply OpW.k_callf 74; exact OpW.callV k3 (Evs.cons rfl Evs.nil))) | refine goR ?_ | refine goP ?_ | apply PSeq.cons | apply PSeq.yes rfl rfl rfl | exact goW | fail)
 exact Fin.ret (Ent.take goTk) (Outs.one rfl rfl) ⟨rfl, rfl⟩
/-- what the k-th move says of the result -/
structure MvF (E : Int × Int) (k : Nat) (x : Mv) (q1 q2 ob : Bool) (bf : Int) (N : Int × Int) : Prop where
 e5 : (!q1) = true → E = ((k : Int), 5)
 e7 : (!q1) = false → ob = true → E = ((k : Int), 7)
 e1 : (!q1) = false → ob = false → ¬ x.no = bf + 1 → E = ((k : Int), 1)
 e1d : (!q1) = false → ob = false → (x.day < 0 ∨ 4000 < x.day) → E = ((k : Int), 1)
 e5w : (!q1) = false → ob = false → x.no = bf + 1 → ¬ (x.day < 0 ∨ 4000 < x.day) → (!q2) = true → E = ((k : Int), 5)
 e1m : (!q1) = false → ob = false → x.no = bf + 1 → ¬ (x.day < 0 ∨ 4000 < x.day) → (!q2) = false → (x.many < -1000 ∨ 1000 < x.many) → E = ((k : Int), 1)
 e1z : (!q1) = false → ob = false → x.no = bf + 1 → ¬ (x.day < 0 ∨ 4000 < x.day) → (!q2) = false → x.many = 0 → E = ((k : Int), 1)
 ok : (!q1) = false → ob = false → x.no = bf + 1 → ¬ (x.day < 0 ∨ 4000 < x.day) → (!q2) = false → ¬ x.many = 0 → ¬ (x.many < -1000 ∨ 1000 < x.many) → E = N
theorem mvF {l : List Mv} {k : Nat} {x : Mv} {p : Option Mv} {E : Int × Int} (hx : l[k]? = some x) (hp : prvM l k = p) (hV : E = firstP (mvE l) k (l.length - k)) (hkl : k < l.length) :
  MvF E k x (isKey x.site) (isKey x.ware) (ordP p x) (bfP p x) (firstP (mvE l) (k + 1) (l.length - (k + 1))) := by
 have he : mvE l k = mvX p x := by unfold mvE; rw [hx, hp]
 have fin : ∀ c : Int, mvX p x = c → c ≠ 0 → E = ((k : Int), c) := fun c h1 h2 => hV.trans (firstP_bad hkl (he.trans h1) h2)
 have nxt : mvX p x = 0 → E = firstP (mvE l) (k + 1) (l.length - (k + 1)) := fun h1 => hV.trans (firstP_ok hkl (he.trans h1))
 clear hV he
 unfold mvX at fin nxt
 generalize bfP p x = bf at *
 generalize ordP p x = ob at *
 generalize isKey x.site = q1 at *
 generalize isKey x.ware = q2 at *
 refine ⟨?_, ?_, ?_, ?_, ?_, ?_, ?_, ?_⟩
 ·intro h; exact fin 5 (by rw [if_pos (by simpa using h)]) (by decide)
 ·intro h h2; exact fin 7 (by rw [if_neg (by simpa using h), if_pos h2]) (by decide)
 ·intro h h2 h3; exact fin 1 (by rw [if_neg (by simpa using h), if_neg (by simp [h2]), if_pos (.inl h3)]) (by decide)
 ·intro h h2 h3; exact fin 1 (by rw [if_neg (by simpa using h), if_neg (by simp [h2]), if_pos (.inr h3)]) (by decide)
 ·intro h h2 h3 h4 h5; exact fin 5 (by rw [if_neg (by simpa using h), if_neg (by simp [h2]), if_neg (by omega), if_pos (by simpa using h5)]) (by decide)
 ·intro h h2 h3 h4 h5 h6; exact fin 1 (by rw [if_neg (by simpa using h), if_neg (by simp [h2]), if_neg (by omega), if_neg (by simpa using h5), if_pos (.inr h6)]) (by decide)
 ·intro h h2 h3 h4 h5 h6; exact fin 1 (by rw [if_neg (by simpa using h), if_neg (by simp [h2]), if_neg (by omega), if_neg (by simpa using h5), if_pos (.inl h6)]) (by decide)
 ·intro h h2 h3 h4 h5 h6 h7; exact nxt (by rw [if_neg (by simpa using h), if_neg (by simp [h2]), if_neg (by omega), if_neg (by simpa using h5), if_neg (by omega)])
structure MvG (x : Mv) (d o : Bool) : Prop where
 d0 : (!d) = true → (x.day < 0 ∨ 4000 < x.day)
 d1 : (!d) = false → ¬ (x.day < 0 ∨ 4000 < x.day)
 m0 : o = true → (x.many < -1000 ∨ 1000 < x.many)
 m1 : o = false → ¬ (x.many < -1000 ∨ 1000 < x.many)
theorem mvG (x : Mv) : MvG x (dayB x.day) (outB x.many (-1000) 1000) := by
 refine ⟨?_, ?_, ?_, ?_⟩ <;> (intro h; simp [dayB, outB] at h; omega)
theorem checkShelf_fn (l : List Mv) (hl : l.length ≤ 1000000) (hno : NoBd l) : PFn Tryz.prog 35 [.mvs l] (· = .tup [.int (mvsE l).1, .int (mvsE l).2]) := by
 refine PFn.mk (Spec.body Tryz.func35 rfl rfl (Tryz.ntmps35) rfl fun w0 own0 M => ?_)
 have hL : (l.map Mv.row).length = l.length := List.length_map _
 by_cases h200 : l.length > 2000
 ·rw [show mvsE l = (0, 2) by unfold mvsE; rw [if_pos h200]]
  repeat' (first | refine goH ?_ | refine goV ?_ | refine goB (fun b => ?_) | refine goG ?_ | (refine Ops.k_guard ?_; first | (refine Ops.guard_dec rfl rfl ?_ ?_ <;> intro hc <;> try omega) | refine Ops.guard_split rfl rfl ?_ ?_ <;> intro hc) | refine goI ?_ | (refine Cw.k_cond ?_; first | (refine Cw.cond_dec rfl ?_ ?_ <;> intro hc <;> try omega) | refine Cw.cond_bool rfl ?_ ?_ <;> intro hc) | refine goR ?_ | refine goP ?_ | apply PSeq.cons | apply PSeq.yes rfl rfl rfl | exact goW | fail)
  exact Fin.ret (Ent.take goTk) (Outs.two rfl rfl rfl) ⟨rfl, rfl⟩
 have hV0 : mvsE l = firstP (mvE l) 0 (l.length - 0) := by unfold mvsE; rw [if_neg h200]; rfl
 generalize mvsE l = E at *
 repeat' (first | refine goH ?_ | refine goV ?_ | refine goB (fun b => ?_) | refine goG ?_ | (refine Ops.k_guard ?_; first | (refine Ops.guard_dec rfl rfl ?_ ?_ <;> intro hc <;> try omega) | refine Ops.guard_split rfl rfl ?_ ?_ <;> intro hc) | refine goI ?_ | (refine Cw.k_cond ?_; first | (refine Cw.cond_dec rfl ?_ ?_ <;> intro hc <;> try omega) | refine Cw.cond_bool rfl ?_ ?_ <;> intro hc) | refine goR ?_ | refine goP ?_ | apply PSeq.cons | apply PSeq.yes rfl rfl rfl | exact goW | fail)
 refine Cw.loopI [(0, _), (10, _), (11, _)] _ (fun n e c => ∃ k : Nat, n = l.length - k ∧ (k ≤ l.length ∧ E = firstP (mvE l) k (l.length - k)) ∧ e = [(12, .int k)] ∧ c = []) ⟨_, _, _, (Ent.mkP goSub goPm), 0, rfl, ⟨by omega, hV0⟩, rfl, rfl⟩ ?_
 clear hV0
 rintro _ _ _ ⟨k, rfl, ⟨hk, hV⟩, rfl, rfl⟩
 by_cases hkl : k < l.length
 rotate_left
 ·rw [firstP_end hkl] at hV
  subst hV
  repeat' (first | refine goH ?_ | refine goV ?_ | refine goB (fun b => ?_) | refine goG ?_ | (refine Ops.k_guard ?_; first | (refine Ops.guard_dec rfl rfl ?_ ?_ <;> intro hc <;> try omega) | refine Ops.guard_split rfl rfl ?_ ?_ <;> intro hc) | refine goI ?_ | (refine Cw.k_cond ?_; first | (refine Cw.cond_dec rfl ?_ ?_ <;> intro hc <;> try omega) | refine Cw.cond_bool rfl ?_ ?_ <;> intro hc) | refine goR ?_ | refine goP ?_ | apply PSeq.cons | apply PSeq.yes rfl rfl rfl | exact goW | fail)
  exact Fin.ret (Ent.take goTk) (Outs.two rfl rfl rfl) ⟨rfl, rfl⟩
 obtain ⟨x, hx⟩ := at_lt hkl
 have hrow : (l.map Mv.row)[k]? = some [.str x.site, .int x.no, .int x.day, .str x.ware, .int x.many] := rows_at hx
 have hxb := hno x (List.mem_of_getElem? hx)
 have k1 := key_fn x.site
 have k2 := key_fn x.ware
 by_cases hk0 : k = 0
 ·have F := mvF (p := none) hx (by rw [hk0]; rfl) hV hkl
  obtain ⟨bf, hbf⟩ : ∃ bf : Int, bf = bfP none x := ⟨_, rfl⟩
  rw [← hbf] at F
  replace hbf : bf = 0 := hbf
  have k3 := out_fn x.many (-1000) 1000
  have k4 := day_fn x.day
  have G : MvG x (dayB x.day) (outB x.many (-1000) 1000) := mvG x
  generalize dayB x.day = dB at *
  generalize outB x.many (-1000) 1000 = oB at *
  rw [show ordP none x = false from rfl] at F
  generalize isKey x.site = q1 at *
  generalize isKey x.ware = q2 at *
  clear hV hno hx
  repeat' (first | refine goH ?_ | refine goV ?_ | refine goB (fun b => ?_) | refine goG ?_ | (refine Ops.k_guard ?_; first | (refine Ops.guard_dec rfl rfl ?_ ?_ <;> intro hc <;> try omega) | refine Ops.guard_split rfl rfl ?_ ?_ <;> intro hc) | refine goI ?_ | (refine Cw.k_cond ?_; first | (refine Cw.cond_dec rfl ?_ ?_ <;> intro hc <;> try omega) | refine Cw.cond_bool rfl ?_ ?_ <;> intro hc) | (refine Ops.k_calla ?_; first | (refine Ops.k_callf 41 ?_; refine Ops.callV k1 (Evs.cons rfl Evs.nil) rfl ?_) | (refine Ops.k_callf 41 ?_; refine Ops.callV k2 (Evs.cons rfl Evs.nil) rfl ?_) | (refine Ops.k_callf 19 ?_; refine Ops.callV k3 (Evs.cons rfl (Evs.cons rfl (Evs.cons rfl Evs.nil))) rfl ?_) | (refine Ops.k_callf 71 ?_; refine Ops.callV k4 (Evs.cons rfl Evs.nil) rfl ?_)) | (apply OpW.k_call; first | (apply OpW.k_callf 41; exact OpW.callV k1 (Evs.cons rfl Evs.nil)) | (apply OpW.k_callf 41; exact OpW.callV k2 (Evs.cons rfl Evs.nil)) | (apply OpW.k_callf 19; exact OpW.callV k3 (Evs.cons rfl (Evs.cons rfl (Evs.cons rfl Evs.nil)))) | (apply OpW.k_callf 71; exact OpW.callV k4 (Evs.cons rfl Evs.nil))) | refine goR ?_ | refine goP ?_ | apply PSeq.cons | apply PSeq.yes rfl rfl rfl | exact goW | fail)
  all_goals first
   |(exfalso; omega)
   |exact ⟨_, _, _, (Ent.mk goSub goTk), ⟨k + 1, rfl, ⟨by omega, F.ok (by assumption) rfl (by omega) (G.d1 (by assumption)) (by assumption) (by omega) (G.m1 (by assumption))⟩, rfl, rfl⟩, by omega⟩
   |(refine Fin.ret (Ent.take goTk) (Outs.two rfl rfl rfl) ⟨rfl, ?_⟩; first | (rw [F.e5 (by assumption)]; done) | (rw [F.e1 (by assumption) rfl (by omega)]; done) | (rw [F.e1d (by assumption) rfl (G.d0 (by assumption))]; done) | (rw [F.e5w (by assumption) rfl (by omega) (G.d1 (by assumption)) (by assumption)]; done) | (rw [F.e1m (by assumption) rfl (by omega) (G.d1 (by assumption)) (by assumption) (G.m0 (by assumption))]; done) | (rw [F.e1z (by assumption) rfl (by omega) (G.d1 (by assumption)) (by assumption) (by omega)]; done))
 obtain ⟨j, hj⟩ : ∃ j, k = j + 1 := ⟨k - 1, by omega⟩
 obtain ⟨y, hy⟩ := at_lt (l := l) (k := j) (by omega)
 have hrow2 : (l.map Mv.row)[((k : Int) - 1).toNat]? = some [.str y.site, .int y.no, .int y.day, .str y.ware, .int y.many] := by rw [show ((k : Int) - 1).toNat = j by omega]; exact rows_at hy
 have hyb := hno y (List.mem_of_getElem? hy)
 by_cases hs : y.site = x.site
 rotate_left
 ·have F := mvF (p := some y) hx (by rw [hj]; exact hy) hV hkl
  obtain ⟨bf, hbf⟩ : ∃ bf : Int, bf = bfP (some y) x := ⟨_, rfl⟩
  rw [← hbf] at F
  replace hbf : bf = 0 := by rw [hbf]; simp [bfP, hs]
  have k5 := byMove_fn x y
  unfold Mv.row at k5
  have k3 := out_fn x.many (-1000) 1000
  have k4 := day_fn x.day
  have G : MvG x (dayB x.day) (outB x.many (-1000) 1000) := mvG x
  generalize dayB x.day = dB at *
  generalize outB x.many (-1000) 1000 = oB at *
  rw [show ordP (some y) x = decide (cfM x y ≤ 0) from rfl] at F
  generalize cfM x y = o at *
  generalize isKey x.site = q1 at *
  generalize isKey x.ware = q2 at *
  clear hV hno hx hy
  repeat' (first | refine goH ?_ | refine goV ?_ | refine goB (fun b => ?_) | refine goG ?_ | (refine Ops.k_guard ?_; first | (refine Ops.guard_dec rfl rfl ?_ ?_ <;> intro hc <;> try omega) | refine Ops.guard_split rfl rfl ?_ ?_ <;> intro hc) | refine goI ?_ | (refine Cw.k_cond ?_; first | (refine Cw.cond_dec rfl ?_ ?_ <;> intro hc <;> try omega) | refine Cw.cond_bool rfl ?_ ?_ <;> intro hc) | (refine Ops.k_calla ?_; first | (refine Ops.k_callf 41 ?_; refine Ops.callV k1 (Evs.cons rfl Evs.nil) rfl ?_) | (refine Ops.k_callf 41 ?_; refine Ops.callV k2 (Evs.cons rfl Evs.nil) rfl ?_) | (refine Ops.k_callf 38 ?_; refine Ops.callV k5 (Evs.cons rfl (Evs.cons rfl Evs.nil)) rfl ?_) | (refine Ops.k_callf 19 ?_; refine Ops.callV k3 (Evs.cons rfl (Evs.cons rfl (Evs.cons rfl Evs.nil))) rfl ?_) | (refine Ops.k_callf 71 ?_; refine Ops.callV k4 (Evs.cons rfl Evs.nil) rfl ?_)) | (apply OpW.k_call; first | (apply OpW.k_callf 41; exact OpW.callV k1 (Evs.cons rfl Evs.nil)) | (apply OpW.k_callf 41; exact OpW.callV k2 (Evs.cons rfl Evs.nil)) | (apply OpW.k_callf 38; exact OpW.callV k5 (Evs.cons rfl (Evs.cons rfl Evs.nil))) | (apply OpW.k_callf 19; exact OpW.callV k3 (Evs.cons rfl (Evs.cons rfl (Evs.cons rfl Evs.nil)))) | (apply OpW.k_callf 71; exact OpW.callV k4 (Evs.cons rfl Evs.nil))) | refine goR ?_ | refine goP ?_ | apply PSeq.cons | apply PSeq.yes rfl rfl rfl | exact goW | fail)
  all_goals first
   |(exfalso; omega)
   |exact ⟨_, _, _, (Ent.mk goSub goTk), ⟨k + 1, rfl, ⟨by omega, F.ok (by assumption) (decide_eq_false (by omega)) (by omega) (G.d1 (by assumption)) (by assumption) (by omega) (G.m1 (by assumption))⟩, rfl, rfl⟩, by omega⟩
   |(refine Fin.ret (Ent.take goTk) (Outs.two rfl rfl rfl) ⟨rfl, ?_⟩; first | (rw [F.e5 (by assumption)]; done) | (rw [F.e7 (by assumption) (decide_eq_true (by omega))]; done) | (rw [F.e1 (by assumption) (decide_eq_false (by omega)) (by omega)]; done) | (rw [F.e1d (by assumption) (decide_eq_false (by omega)) (G.d0 (by assumption))]; done) | (rw [F.e5w (by assumption) (decide_eq_false (by omega)) (by omega) (G.d1 (by assumption)) (by assumption)]; done) | (rw [F.e1m (by assumption) (decide_eq_false (by omega)) (by omega) (G.d1 (by assumption)) (by assumption) (G.m0 (by assumption))]; done) | (rw [F.e1z (by assumption) (decide_eq_false (by omega)) (by omega) (G.d1 (by assumption)) (by assumption) (by omega)]; done))
 ·have F := mvF (p := some y) hx (by rw [hj]; exact hy) hV hkl
  obtain ⟨bf, hbf⟩ : ∃ bf : Int, bf = bfP (some y) x := ⟨_, rfl⟩
  rw [← hbf] at F
  replace hbf : bf = y.no := by rw [hbf]; simp [bfP, hs]
  have k5 := byMove_fn x y
  unfold Mv.row at k5
  have k3 := out_fn x.many (-1000) 1000
  have k4 := day_fn x.day
  have G : MvG x (dayB x.day) (outB x.many (-1000) 1000) := mvG x
  generalize dayB x.day = dB at *
  generalize outB x.many (-1000) 1000 = oB at *
  rw [show ordP (some y) x = decide (cfM x y ≤ 0) from rfl] at F
  generalize cfM x y = o at *
  generalize isKey x.site = q1 at *
  generalize isKey x.ware = q2 at *
  clear hV hno hx hy
  repeat' (first | refine goH ?_ | refine goV ?_ | refine goB (fun b => ?_) | refine goG ?_ | (refine Ops.k_guard ?_; first | (refine Ops.guard_dec rfl rfl ?_ ?_ <;> intro hc <;> try omega) | refine Ops.guard_split rfl rfl ?_ ?_ <;> intro hc) | refine goI ?_ | (refine Cw.k_cond ?_; first | (refine Cw.cond_dec rfl ?_ ?_ <;> intro hc <;> try omega) | refine Cw.cond_bool rfl ?_ ?_ <;> intro hc) | (refine Ops.k_calla ?_; first | (refine Ops.k_callf 41 ?_; refine Ops.callV k1 (Evs.cons rfl Evs.nil) rfl ?_) | (refine Ops.k_callf 41 ?_; refine Ops.callV k2 (Evs.cons rfl Evs.nil) rfl ?_) | (refine Ops.k_callf 38 ?_; refine Ops.callV k5 (Evs.cons rfl (Evs.cons rfl Evs.nil)) rfl ?_) | (refine Ops.k_callf 19 ?_; refine Ops.callV k3 (Evs.cons rfl (Evs.cons rfl (Evs.cons rfl Evs.nil))) rfl ?_) | (refine Ops.k_callf 71 ?_; refine Ops.callV k4 (Evs.cons rfl Evs.nil) rfl ?_)) | (apply OpW.k_call; first | (apply OpW.k_callf 41; exact OpW.callV k1 (Evs.cons rfl Evs.nil)) | (apply OpW.k_callf 41; exact OpW.callV k2 (Evs.cons rfl Evs.nil)) | (apply OpW.k_callf 38; exact OpW.callV k5 (Evs.cons rfl (Evs.cons rfl Evs.nil))) | (apply OpW.k_callf 19; exact OpW.callV k3 (Evs.cons rfl (Evs.cons rfl (Evs.cons rfl Evs.nil)))) | (apply OpW.k_callf 71; exact OpW.callV k4 (Evs.cons rfl Evs.nil))) | refine goR ?_ | refine goP ?_ | apply PSeq.cons | apply PSeq.yes rfl rfl rfl | exact goW | fail)
  all_goals first
   |(exfalso; omega)
   |exact ⟨_, _, _, (Ent.mk goSub goTk), ⟨k + 1, rfl, ⟨by omega, F.ok (by assumption) (decide_eq_false (by omega)) (by omega) (G.d1 (by assumption)) (by assumption) (by omega) (G.m1 (by assumption))⟩, rfl, rfl⟩, by omega⟩
   |(refine Fin.ret (Ent.take goTk) (Outs.two rfl rfl rfl) ⟨rfl, ?_⟩; first | (rw [F.e5 (by assumption)]; done) | (rw [F.e7 (by assumption) (decide_eq_true (by omega))]; done) | (rw [F.e1 (by assumption) (decide_eq_false (by omega)) (by omega)]; done) | (rw [F.e1d (by assumption) (decide_eq_false (by omega)) (G.d0 (by assumption))]; done) | (rw [F.e5w (by assumption) (decide_eq_false (by omega)) (by omega) (G.d1 (by assumption)) (by assumption)]; done) | (rw [F.e1m (by assumption) (decide_eq_false (by omega)) (by omega) (G.d1 (by assumption)) (by assumption) (G.m0 (by assumption))]; done) | (rw [F.e1z (by assumption) (decide_eq_false (by omega)) (by omega) (G.d1 (by assumption)) (by assumption) (by omega)]; done))
end Lg
end
section
/-
 DERIVED: THE SHELF's CONTRACTS AT THIS DUMP, IN PLAIN WORDS (tools/lay-plain.mjs out of 'YtfgcjpkkbhnkgaaGreatDoorShelf2Raw.lean', which tools/lay-shelf.mjs wrote): THE SAME DECLARATIONS UNDER THE SAME NAMES: 'import', 'namespace', 'open', 'def', 'theorem' AND NOTHING ELSE: no command of the shelf's: FOR A HAND-IN. Each laying: the table of numbers ('.._ren') and one theorem, a field a fact of the dump's own or the kernel's comparison; each contract: ONE APPLICATION.
-/
namespace Go.Proofs
open Go.Shelf
def Tryz.sortInt_ren : Go.Shelf.Ren := ⟨fun | 6 => 29 | 15 => 63 | 14 => 62 | 28 => 110 | 29 => 111 | 20 => 102 | 21 => 103 | 22 => 104 | 23 => 105 | 24 => 106 | 25 => 107 | 26 => 108 | 27 => 109 | 46 => 137 | 47 => 138 | 48 => 139 | 49 => 140 | 50 => 141 | 57 => 174 | n => n, fun | 22 => 22 | 24 => 3 | 25 => 46 | 3 => 3 | 39 => 125 | 0 => 0 | 53 => 178 | 55 => 181 | 4 => 4 | 46 => 186 | 45 => 185 | 50 => 190 | 5 => 5 | 9 => 9 | 66 => 210 | 70 => 70 | 76 => 253 | 77 => 146 | n => n, fun | n => n⟩
theorem Tryz.sortInt : Go.Proofs.SlLaysF.n6 Tryz.prog Tryz.sortInt_ren := {
 mixed := by kernel_rfl
 f6 := ⟨Tryz.f29.name, by decide, Tryz.func29.trans (congrArg some (by kernel_rfl))⟩
 f14 := ⟨Tryz.f62.name, by decide, Tryz.func62.trans (congrArg some (by kernel_rfl))⟩
 f15 := Tryz.func63.trans (congrArg some (by kernel_rfl))
 f20 := ⟨Tryz.f102.name, by decide, Tryz.func102.trans (congrArg some (by kernel_rfl))⟩
 f21 := ⟨Tryz.f103.name, by decide, Tryz.func103.trans (congrArg some (by kernel_rfl))⟩
 f22 := ⟨Tryz.f104.name, by decide, Tryz.func104.trans (congrArg some (by kernel_rfl))⟩
 f23 := ⟨Tryz.f105.name, by decide, Tryz.func105.trans (congrArg some (by kernel_rfl))⟩
 f24 := ⟨Tryz.f106.name, by decide, Tryz.func106.trans (congrArg some (by kernel_rfl))⟩
 f25 := ⟨Tryz.f107.name, by decide, Tryz.func107.trans (congrArg some (by kernel_rfl))⟩
 f26 := ⟨Tryz.f108.name, by decide, Tryz.func108.trans (congrArg some (by kernel_rfl))⟩
 f27 := ⟨Tryz.f109.name, by decide, Tryz.func109.trans (congrArg some (by kernel_rfl))⟩
 f28 := Tryz.func110.trans (congrArg some (by kernel_rfl))
 f29 := Tryz.func111.trans (congrArg some (by kernel_rfl))
 f46 := ⟨Tryz.f137.name, by decide, Tryz.func137.trans (congrArg some (by kernel_rfl))⟩
 f47 := Tryz.func138.trans (congrArg some (by kernel_rfl))
 f48 := Tryz.func139.trans (congrArg some (by kernel_rfl))
 f49 := ⟨Tryz.f140.name, by decide, Tryz.func140.trans (congrArg some (by kernel_rfl))⟩
 f50 := ⟨Tryz.f141.name, by decide, Tryz.func141.trans (congrArg some (by kernel_rfl))⟩
 f57 := ⟨Tryz.f174.name, by decide, Tryz.func174.trans (congrArg some (by kernel_rfl))⟩
 t0 := Tryz.underlying0
 a0 := Tryz.isAgg0
 z0 := Tryz.sizeOf0
 v0 := Tryz.zeroValue0
 t3 := Tryz.underlying3
 a3 := Tryz.isAgg3
 z3 := Tryz.sizeOf3
 v3 := Tryz.zeroValue3
 t4 := Tryz.underlying4
 a4 := Tryz.isAgg4
 z4 := Tryz.sizeOf4
 v4 := Tryz.zeroValue4
 t5 := Tryz.underlying5
 a5 := Tryz.isAgg5
 z5 := Tryz.sizeOf5
 v5 := Tryz.zeroValue5
 t9 := Tryz.underlying9
 a9 := Tryz.isAgg9
 z9 := Tryz.sizeOf9
 v9 := Tryz.zeroValue9
 t22 := Tryz.underlying22
 a22 := Tryz.isAgg22
 z22 := Tryz.sizeOf22
 v22 := Tryz.zeroValue22
 a24 := Tryz.isAgg3
 z24 := Tryz.sizeOf3
 t25 := Tryz.underlying46
 a25 := Tryz.isAgg46
 z25 := Tryz.sizeOf46
 v25 := Tryz.zeroValue46
 t39 := Tryz.underlying125
 a39 := Tryz.isAgg125
 z39 := Tryz.sizeOf125
 v39 := Tryz.zeroValue125
 t45 := Tryz.underlying185
 a45 := Tryz.isAgg185
 z45 := Tryz.sizeOf185
 v45 := Tryz.zeroValue185
 t46 := Tryz.underlying186
 a46 := Tryz.isAgg186
 z46 := Tryz.sizeOf186
 v46 := Tryz.zeroValue186
 t50 := Tryz.underlying190
 a50 := Tryz.isAgg190
 z50 := Tryz.sizeOf190
 v50 := Tryz.zeroValue190
 t53 := Tryz.underlying178
 a53 := Tryz.isAgg178
 z53 := Tryz.sizeOf178
 v53 := Tryz.zeroValue178
 t55 := Tryz.underlying181
 a55 := Tryz.isAgg181
 z55 := Tryz.sizeOf181
 v55 := Tryz.zeroValue181
 t66 := Tryz.underlying210
 a66 := Tryz.isAgg210
 z66 := Tryz.sizeOf210
 v66 := Tryz.zeroValue210
 t70 := Tryz.underlying70
 a70 := Tryz.isAgg70
 z70 := Tryz.sizeOf70
 v70 := Tryz.zeroValue70
 t76 := Tryz.underlying253
 a76 := Tryz.isAgg253
 z76 := Tryz.sizeOf253
 v76 := Tryz.zeroValue253
 t77 := Tryz.underlying146
 a77 := Tryz.isAgg146
 z77 := Tryz.sizeOf146
 v77 := Tryz.zeroValue146 }
def Tryz.sortNm_ren : Go.Shelf.Ren := ⟨fun | 6 => 77 | 15 => 63 | 14 => 118 | 28 => 110 | 29 => 111 | 20 => 144 | 21 => 145 | 22 => 146 | 23 => 147 | 24 => 148 | 25 => 149 | 26 => 150 | 27 => 151 | 46 => 176 | 47 => 138 | 48 => 139 | 49 => 177 | 50 => 178 | 57 => 200 | n => n, fun | 22 => 51 | 24 => 50 | 25 => 141 | 3 => 3 | 39 => 125 | 0 => 0 | 53 => 178 | 55 => 181 | 4 => 4 | 46 => 186 | 45 => 185 | 50 => 190 | 5 => 5 | 9 => 9 | 66 => 210 | 70 => 70 | 76 => 253 | 77 => 146 | n => n, fun | n => n⟩
theorem Tryz.sortNm : Go.Proofs.SlLaysF0.n6 Tryz.prog Tryz.sortNm_ren := {
 mixed := by kernel_rfl
 f6 := ⟨Tryz.f77.name, by decide, Tryz.func77.trans (congrArg some (by kernel_rfl))⟩
 f14 := ⟨Tryz.f118.name, by decide, Tryz.func118.trans (congrArg some (by kernel_rfl))⟩
 f15 := Tryz.func63.trans (congrArg some (by kernel_rfl))
 f20 := ⟨Tryz.f144.name, by decide, Tryz.func144.trans (congrArg some (by kernel_rfl))⟩
 f21 := ⟨Tryz.f145.name, by decide, Tryz.func145.trans (congrArg some (by kernel_rfl))⟩
 f22 := ⟨Tryz.f146.name, by decide, Tryz.func146.trans (congrArg some (by kernel_rfl))⟩
 f23 := ⟨Tryz.f147.name, by decide, Tryz.func147.trans (congrArg some (by kernel_rfl))⟩
 f24 := ⟨Tryz.f148.name, by decide, Tryz.func148.trans (congrArg some (by kernel_rfl))⟩
 f25 := ⟨Tryz.f149.name, by decide, Tryz.func149.trans (congrArg some (by kernel_rfl))⟩
 f26 := ⟨Tryz.f150.name, by decide, Tryz.func150.trans (congrArg some (by kernel_rfl))⟩
 f27 := ⟨Tryz.f151.name, by decide, Tryz.func151.trans (congrArg some (by kernel_rfl))⟩
 f28 := Tryz.func110.trans (congrArg some (by kernel_rfl))
 f29 := Tryz.func111.trans (congrArg some (by kernel_rfl))
 f46 := ⟨Tryz.f176.name, by decide, Tryz.func176.trans (congrArg some (by kernel_rfl))⟩
 f47 := Tryz.func138.trans (congrArg some (by kernel_rfl))
 f48 := Tryz.func139.trans (congrArg some (by kernel_rfl))
 f49 := ⟨Tryz.f177.name, by decide, Tryz.func177.trans (congrArg some (by kernel_rfl))⟩
 f50 := ⟨Tryz.f178.name, by decide, Tryz.func178.trans (congrArg some (by kernel_rfl))⟩
 f57 := ⟨Tryz.f200.name, by decide, Tryz.func200.trans (congrArg some (by kernel_rfl))⟩
 t0 := Tryz.underlying0
 a0 := Tryz.isAgg0
 z0 := Tryz.sizeOf0
 v0 := Tryz.zeroValue0
 t3 := Tryz.underlying3
 a3 := Tryz.isAgg3
 z3 := Tryz.sizeOf3
 v3 := Tryz.zeroValue3
 t4 := Tryz.underlying4
 a4 := Tryz.isAgg4
 z4 := Tryz.sizeOf4
 v4 := Tryz.zeroValue4
 t5 := Tryz.underlying5
 a5 := Tryz.isAgg5
 z5 := Tryz.sizeOf5
 v5 := Tryz.zeroValue5
 t9 := Tryz.underlying9
 a9 := Tryz.isAgg9
 z9 := Tryz.sizeOf9
 v9 := Tryz.zeroValue9
 t22 := Tryz.underlying51
 a22 := Tryz.isAgg51
 z22 := Tryz.sizeOf51
 v22 := Tryz.zeroValue51
 t25 := Tryz.underlying141
 a25 := Tryz.isAgg141
 z25 := Tryz.sizeOf141
 v25 := Tryz.zeroValue141
 t39 := Tryz.underlying125
 a39 := Tryz.isAgg125
 z39 := Tryz.sizeOf125
 v39 := Tryz.zeroValue125
 t45 := Tryz.underlying185
 a45 := Tryz.isAgg185
 z45 := Tryz.sizeOf185
 v45 := Tryz.zeroValue185
 t46 := Tryz.underlying186
 a46 := Tryz.isAgg186
 z46 := Tryz.sizeOf186
 v46 := Tryz.zeroValue186
 t50 := Tryz.underlying190
 a50 := Tryz.isAgg190
 z50 := Tryz.sizeOf190
 v50 := Tryz.zeroValue190
 t53 := Tryz.underlying178
 a53 := Tryz.isAgg178
 z53 := Tryz.sizeOf178
 v53 := Tryz.zeroValue178
 t55 := Tryz.underlying181
 a55 := Tryz.isAgg181
 z55 := Tryz.sizeOf181
 v55 := Tryz.zeroValue181
 t66 := Tryz.underlying210
 a66 := Tryz.isAgg210
 z66 := Tryz.sizeOf210
 v66 := Tryz.zeroValue210
 t70 := Tryz.underlying70
 a70 := Tryz.isAgg70
 z70 := Tryz.sizeOf70
 v70 := Tryz.zeroValue70
 t76 := Tryz.underlying253
 a76 := Tryz.isAgg253
 z76 := Tryz.sizeOf253
 v76 := Tryz.zeroValue253
 t77 := Tryz.underlying146
 a77 := Tryz.isAgg146
 z77 := Tryz.sizeOf146
 v77 := Tryz.zeroValue146 }
def Tryz.lays143_ren : Go.Shelf.Ren := ⟨fun | 143 => 156 | 219 => 185 | 217 => 206 | 225 => 207 | 224 => 208 | 267 => 209 | 266 => 230 | 314 => 231 | n => n, fun | 9 => 9 | 3 => 3 | 4 => 4 | 5 => 5 | 46 => 125 | 146 => 179 | 51 => 178 | n => n, fun | 1 => 0 | n => n⟩
theorem Tryz.lays143 : Go.Proofs.Lays.n143 Tryz.prog Tryz.lays143_ren := {
 mixed := by kernel_rfl
 f143 := Tryz.func156.trans (congrArg some (by kernel_rfl))
 f217 := Tryz.func206.trans (congrArg some (by kernel_rfl))
 f219 := Tryz.func185.trans (congrArg some (by kernel_rfl))
 f224 := Tryz.func208.trans (congrArg some (by kernel_rfl))
 f225 := Tryz.func207.trans (congrArg some (by kernel_rfl))
 f266 := Tryz.func230.trans (congrArg some (by kernel_rfl))
 f267 := Tryz.func209.trans (congrArg some (by kernel_rfl))
 f314 := Tryz.func231.trans (congrArg some (by kernel_rfl))
 t3 := Tryz.underlying3
 a3 := Tryz.isAgg3
 z3 := Tryz.sizeOf3
 v3 := Tryz.zeroValue3
 t4 := Tryz.underlying4
 a4 := Tryz.isAgg4
 z4 := Tryz.sizeOf4
 v4 := Tryz.zeroValue4
 t5 := Tryz.underlying5
 a5 := Tryz.isAgg5
 z5 := Tryz.sizeOf5
 v5 := Tryz.zeroValue5
 t9 := Tryz.underlying9
 a9 := Tryz.isAgg9
 z9 := Tryz.sizeOf9
 v9 := Tryz.zeroValue9
 t46 := Tryz.underlying125
 a46 := Tryz.isAgg125
 z46 := Tryz.sizeOf125
 v46 := Tryz.zeroValue125
 t51 := Tryz.underlying178
 a51 := Tryz.isAgg178
 z51 := Tryz.sizeOf178
 v51 := Tryz.zeroValue178
 t146 := Tryz.underlying179
 a146 := Tryz.isAgg179
 z146 := Tryz.sizeOf179
 v146 := Tryz.zeroValue179
 g1 := by kernel_rfl }
def Tryz.lays138_ren : Go.Shelf.Ren := ⟨fun | 138 => 187 | 195 => 210 | 218 => 211 | 143 => 156 | 219 => 185 | 217 => 206 | 225 => 207 | 224 => 208 | 267 => 209 | 266 => 230 | 314 => 231 | n => n, fun | 9 => 9 | 3 => 3 | 4 => 4 | 5 => 5 | 0 => 0 | 46 => 125 | 146 => 179 | 51 => 178 | n => n, fun | 1 => 0 | n => n⟩
theorem Tryz.lays138 : Go.Proofs.Lays.n138 Tryz.prog Tryz.lays138_ren := {
 mixed := by kernel_rfl
 f138 := Tryz.func187.trans (congrArg some (by kernel_rfl))
 f143 := Tryz.func156.trans (congrArg some (by kernel_rfl))
 f195 := Tryz.func210.trans (congrArg some (by kernel_rfl))
 f217 := Tryz.func206.trans (congrArg some (by kernel_rfl))
 f218 := Tryz.func211.trans (congrArg some (by kernel_rfl))
 f219 := Tryz.func185.trans (congrArg some (by kernel_rfl))
 f224 := Tryz.func208.trans (congrArg some (by kernel_rfl))
 f225 := Tryz.func207.trans (congrArg some (by kernel_rfl))
 f266 := Tryz.func230.trans (congrArg some (by kernel_rfl))
 f267 := Tryz.func209.trans (congrArg some (by kernel_rfl))
 f314 := Tryz.func231.trans (congrArg some (by kernel_rfl))
 t0 := Tryz.underlying0
 a0 := Tryz.isAgg0
 z0 := Tryz.sizeOf0
 v0 := Tryz.zeroValue0
 t3 := Tryz.underlying3
 a3 := Tryz.isAgg3
 z3 := Tryz.sizeOf3
 v3 := Tryz.zeroValue3
 t4 := Tryz.underlying4
 a4 := Tryz.isAgg4
 z4 := Tryz.sizeOf4
 v4 := Tryz.zeroValue4
 t5 := Tryz.underlying5
 a5 := Tryz.isAgg5
 z5 := Tryz.sizeOf5
 v5 := Tryz.zeroValue5
 t9 := Tryz.underlying9
 a9 := Tryz.isAgg9
 z9 := Tryz.sizeOf9
 v9 := Tryz.zeroValue9
 t46 := Tryz.underlying125
 a46 := Tryz.isAgg125
 z46 := Tryz.sizeOf125
 v46 := Tryz.zeroValue125
 t51 := Tryz.underlying178
 a51 := Tryz.isAgg178
 z51 := Tryz.sizeOf178
 v51 := Tryz.zeroValue178
 t146 := Tryz.underlying179
 a146 := Tryz.isAgg179
 z146 := Tryz.sizeOf179
 v146 := Tryz.zeroValue179
 g1 := by kernel_rfl }
def Tryz.lays212_ren : Go.Shelf.Ren := ⟨fun | 212 => 61 | 263 => 100 | 264 => 101 | n => n, fun | 46 => 125 | 51 => 178 | 146 => 179 | 53 => 181 | 148 => 182 | n => n, fun | n => n⟩
theorem Tryz.lays212 : Go.Proofs.Lays.n212 Tryz.prog Tryz.lays212_ren := {
 mixed := by kernel_rfl
 f212 := Tryz.func61.trans (congrArg some (by kernel_rfl))
 f263 := Tryz.func100.trans (congrArg some (by kernel_rfl))
 f264 := Tryz.func101.trans (congrArg some (by kernel_rfl))
 t46 := Tryz.underlying125
 a46 := Tryz.isAgg125
 z46 := Tryz.sizeOf125
 v46 := Tryz.zeroValue125
 t51 := Tryz.underlying178
 a51 := Tryz.isAgg178
 z51 := Tryz.sizeOf178
 v51 := Tryz.zeroValue178
 t53 := Tryz.underlying181
 a53 := Tryz.isAgg181
 z53 := Tryz.sizeOf181
 v53 := Tryz.zeroValue181
 t146 := Tryz.underlying179
 a146 := Tryz.isAgg179
 z146 := Tryz.sizeOf179
 v146 := Tryz.zeroValue179
 t148 := Tryz.underlying182
 a148 := Tryz.isAgg182
 z148 := Tryz.sizeOf182
 v148 := Tryz.zeroValue182 }
end Go.Proofs
end
section
set_option linter.all false
set_option maxRecDepth 100000
set_option maxHeartbeats 8000000
namespace Lg
open Go Go.Proofs Go.Sort Go.Shelf

/-! ### sorting names, at whatever length -/
instance : TyMap Tryz.prog 85 9 3 (.int .i64 0) := ⟨Tryz.underlying85, ⟨_, rfl, rfl⟩⟩
instance : KeyTy Tryz.prog 9 Value.string := KeyTy.str Tryz.underlying9
theorem Imp.aggV {vs : List Value} (h : ∀ v ∈ vs, v.oneCell' = true) : Imp (Tr.raw (.agg vs.toArray)) (.agg (vs.map Tr.raw)) := by
 intro w A v hv
 have := rd_raw hv
 subst this
 unfold Tr.agg
 exact ⟨vs, rfl, rdc_raw h⟩
theorem PFn.impA {P : Program} {f : FuncId} {ts ts' : List Tr} {R : Tr → Prop} (hi : ImpL ts ts') (h : PFn P f ts' R) : PFn P f ts R := by
 unfold PFn Spec at h ⊢
 exact ⟨h.1, fun M w vs hv => h.2 M w vs (hi.rdl hv)⟩
def cfN (a b : Nm) : Int := cmpS a.key b.key
theorem ltN_iff (a b : Nm) : ltOf cfN a b = true ↔ a.lt b := by
 unfold ltOf cfN Nm.lt
 rw [decide_eq_true_iff, cmpS_lt]
theorem ltN_nf (a b : Nm) : ltOf cfN a b = false ↔ ¬ a.lt b := by
 rw [← ltN_iff, Bool.not_eq_true]
theorem swo_N : SWO (ltOf cfN) := by
 refine ⟨fun x => ?_, fun x y z h1 h2 => ?_, fun x y z h1 h2 => ?_⟩
 ·rw [ltN_nf]; unfold Nm.lt; rw [strLt_irrefl]; simp
 ·rw [ltN_iff] at *; exact strLt_trans h1 h2
 ·rw [ltN_nf] at *
  unfold Nm.lt at *
  intro h
  have h1' : strLt x.key y.key = false := by simpa using h1
  have h2' : strLt y.key z.key = false := by simpa using h2
  cases h3 : strLt y.key x.key with
  |true => rw [strLt_trans h3 h] at h2'; cases h2'
  |false => rw [strLt_tri h3 h1'] at h2'; rw [h] at h2'; cases h2'
abbrev encN (x : Nm) : List Value := [.string x.key, .int .i64 x.many]
theorem encN_one (x : Nm) : ∀ v ∈ encN x, v.oneCell' = true := by
 intro v hv
 rcases List.mem_cons.1 hv with rfl | hv
 ·rfl
 ·rcases List.mem_cons.1 hv with rfl | hv
  ·rfl
  ·cases hv
instance : Inhabited Nm := ⟨nm0⟩
theorem sortNmK {g : Nat} (hg : ∀ x y : Nm, PFn Tryz.prog g [.agg x.row, .agg y.row] (· = .int (cmpS x.key y.key))) (us : List Nm) (hu : us.length ≤ 1000000) (hn : (us.map Nm.key).Nodup) (ad : Option Addr) (cap : Nat) : Spec Tryz.prog 77 [Tr.raw (.slice ad us.length cap), Tr.raw (.func (.func g) #[] #[])] [Chunk.own ad cap 2 50 (us.map Nm.row)]
  (fun r cs => r = Tr.tup [] ∧ cs = [Chunk.own ad cap 2 50 ((isort nmLt us).map Nm.row)]) := by
 by_cases h0 : us = []
 ·subst h0
  exact sortFunc_nm (ad := ad) (cap := cap) (n := 0) (xs := []) (g := g) (caps := []) (cin := []) (lt := nmLt) (cf := fun a b => cmpS a.key b.key) nmLt_c (by simp) rfl (fun a b ha hb => by cases ha)
 ·have hp : 1 ≤ us.length := by
   cases us with
   |nil => exact absurd rfl h0
   |cons a rest => simp
  have h := sortFuncK Tryz.sortNm (k := 2) (by omega) Tryz.isAgg50 Tryz.sizeOf50 encN (fun _ => rfl) encN_one cfN swo_N (g := g) (bx := []) (fun x y => (hg x y).impA (.cons (Imp.aggV (encN_one x)) (.cons (Imp.aggV (encN_one y)) .nil))) (ad := ad) (cap := cap) (E := 50) (xs := us) (n := us.length) rfl hp (by omega)
  refine Spec.mono h ?_
  rintro r cs ⟨ys, rfl, rfl, hperm, hsort⟩
  have e := nm_sorted_uniq hperm (hsort.imp fun h => (ltN_nf _ _).1 h) hn
  subst e
  exact ⟨rfl, rfl⟩
theorem nmLtD_fn (x y : Nm) : PFn Tryz.prog 78 [.agg x.row, .agg y.row] (· = .int (cmpS x.key y.key)) := by
 have k1 := compareS_fn x.key y.key
 unfold Nm.row
 refine PFn.mk (Spec.body Tryz.func78 rfl rfl (Tryz.ntmps78) rfl fun w0 own0 M => ?_)
 repeat' (first | refine goH ?_ | refine goV ?_ | refine goB (fun b => ?_) | refine goI ?_ | (refine Cw.k_cond ?_; first | (refine Cw.cond_dec rfl ?_ ?_ <;> intro hc <;> try omega) | refine Cw.cond_bool rfl ?_ ?_ <;> intro hc) | (refine Ops.k_calla ?_; first | (refine Ops.k_callf 75 ?_; refine Ops.callV k1 (Evs.cons rfl (Evs.cons rfl Evs.nil)) rfl ?_)) | fail)
 exact Fin.ret (Ent.take goTk) (Outs.one rfl rfl) ⟨rfl, rfl⟩
/-! ### sums and names -/
theorem smF_step {l : List Mv} {k : Nat} {x : Mv} {m : PS} (hx : l[k]? = some x) (hV : smV l = sumM m ((l.drop k).map mvP)) : smV l = sumM (mUp x.ware (mI x.ware m + x.many) m) ((l.drop (k + 1)).map mvP) := by
 rw [hV, drop_at hx]
 rfl
theorem sums_fn (l : List Mv) (hl : l.length ≤ 1000000) (hb : ∀ x ∈ l, -1000 ≤ x.many ∧ x.many ≤ 1000) : Spec Tryz.prog 40 [.mvs l] [] (fun r cs => ∃ b, r = .raw (.map (some b)) ∧ cs = [Chunk.mp Value.string b (tkv (smV l))]) := by
 have hL : (l.map Mv.row).length = l.length := List.length_map _
 refine Spec.body Tryz.func40 rfl rfl (Tryz.ntmps40) rfl fun w0 own0 M => ?_
 repeat' (first | refine goH ?_ | (refine Ops.k_makeMap ?_; first | (refine Ops.makeMap Value.string rfl (fun b => ?_))) | refine goV ?_ | refine goB (fun b => ?_) | refine goI ?_ | (refine Cw.k_cond ?_; first | (refine Cw.cond_dec rfl ?_ ?_ <;> intro hc <;> try omega) | refine Cw.cond_bool rfl ?_ ?_ <;> intro hc) | fail)
 refine Cw.loopI [(3, _), (7, _), (8, _)] _ (fun q e c => ∃ (k : Nat) (m : List (ByteArray × Int)), q = l.length - k ∧ (k ≤ l.length ∧ smV l = sumM m ((l.drop k).map mvP) ∧ mBd ((k : Int) * 1000) m) ∧ e = [(9, .int k)] ∧ c = [Chunk.mp Value.string b (tkv m)])
  ⟨_, _, _, (Ent.mkP goSub goPm), 0, [], rfl, ⟨by omega, rfl, fun q hq => by cases hq⟩, rfl, rfl⟩ ?_
 rintro _ _ _ ⟨k, m, rfl, ⟨hk, hV, hm⟩, rfl, rfl⟩
 by_cases hkl : k < l.length
 ·obtain ⟨x, hx⟩ := at_lt hkl
  have hrow : (l.map Mv.row)[k]? = some [.str x.site, .int x.no, .int x.day, .str x.ware, .int x.many] := rows_at hx
  have hxm := hb x (List.mem_of_getElem? hx)
  have hV2 := smF_step hx hV
  have hvv := hm.val (by omega) x.ware
  have hadd : mBd (((k + 1 : Nat) : Int) * 1000) (mUp x.ware (mI x.ware m + x.many) m) := by
   have := hm.add (by omega) x.ware hxm
   unfold mAdd at this
   rwa [show ((k + 1 : Nat) : Int) * 1000 = (k : Int) * 1000 + 1000 by omega]
  clear hm hx hV
  repeat' (first | refine goH ?_ | (refine Ops.k_lookup ?_; first | (refine Ops.lookup rfl rfl goPk rfl ?_; rw [tkv_read])) | (refine Ops.k_mapUpdate ?_; first | (refine Ops.mapUpdate rfl rfl rfl goPk ?_; rw [tkv_set])) | refine goV ?_ | refine goB (fun b => ?_) | refine goI ?_ | (refine Cw.k_cond ?_; first | (refine Cw.cond_dec rfl ?_ ?_ <;> intro hc <;> try omega) | refine Cw.cond_bool rfl ?_ ?_ <;> intro hc) | fail)
  exact ⟨_, _, _, (Ent.mk goSub goTk), ⟨k + 1, _, rfl, ⟨by omega, hV2, hadd⟩, rfl, rfl⟩, by omega⟩
 ·rw [List.drop_of_length_le (by omega), List.map_nil, sumM] at hV
  rw [hV]
  repeat' (first | refine goH ?_ | refine goV ?_ | refine goB (fun b => ?_) | refine goI ?_ | (refine Cw.k_cond ?_; first | (refine Cw.cond_dec rfl ?_ ?_ <;> intro hc <;> try omega) | refine Cw.cond_bool rfl ?_ ?_ <;> intro hc) | fail)
  exact Fin.ret (Ent.take goTk) (Outs.one rfl rfl) ⟨_, rfl, rfl⟩
theorem snoc_N (g : PS) (p : ByteArray × Int) : (g.map mkN).map Nm.row ++ [[Tr.str p.1, Tr.int p.2]] = ((g ++ [p]).map mkN).map Nm.row := by simp [mkN, Nm.row]
theorem isortN_perm {g m : PS} (hg : m.Perm g) (hn : (m.map Prod.fst).Nodup) : isort nmLt (g.map mkN) = isort nmLt (m.map mkN) :=
 named_uniq (isort_perm nmLt _) (isortN_sorted _) hg hn
theorem named_fn (m : PS) (hl : m.length ≤ 100000) (hn : (m.map Prod.fst).Nodup) (b : Nat) : Spec Tryz.prog 43 [.raw (.map (some b))] [Chunk.mp Value.string b (tkv m)] (fun r cs => ∃ ad cap, r = Tr.raw (.slice ad (isort nmLt (m.map mkN)).length cap) ∧ cs = [Chunk.own ad cap 2 50 ((isort nmLt (m.map mkN)).map Nm.row)]) := by
 refine Spec.body Tryz.func43 rfl rfl (Tryz.ntmps43) rfl fun w0 own0 M => ?_
 repeat' (first | refine goH ?_ | (refine Ops.k_range ?_; first | (refine Ops.range rfl goPk rfl (fun r => ?_))) | refine goV ?_ | refine goC (fun ad cap => ?_) | refine goI ?_ | (refine Cw.k_cond ?_; first | (refine Cw.cond_dec rfl ?_ ?_ <;> intro hc <;> try omega) | refine Cw.cond_bool rfl ?_ ?_ <;> intro hc) | fail)
 refine Cw.loopI [(7, _)] _ (fun q e c => ∃ (g left : PS) (ad : Option Addr) (cap : Nat) (rows : List (List Tr)), q = left.length ∧ (m.Perm (g ++ left) ∧ rows = (g.map mkN).map Nm.row ∧ rows.length = g.length) ∧ e = [(3, Tr.raw (.slice ad rows.length cap))] ∧ c = [Chunk.rg Value.string b r (tkv m) (tkv left), Chunk.own ad cap 2 50 rows])
  ⟨_, _, _, Ent.trans (Ent.nil 2 50) (Ent.mkP goSub goPm), [], m, none, 0, [], rfl, ⟨List.Perm.refl _, rfl, rfl⟩, rfl, rfl⟩ ?_
 rintro _ _ _ ⟨g, left, ad, cap, rows, rfl, ⟨hp, hrows, hrl⟩, rfl, rfl⟩
 have hgl : g.length ≤ 100000 := by have := hp.length_eq; simp at this; omega
 repeat' (first | refine goH ?_ | ((fail_if_success refine Ops.k_next ?_); refine goV ?_) | ((fail_if_success refine Ops.k_next ?_); refine goC (fun ad cap => ?_)) | refine goI ?_ | (refine Cw.k_cond ?_; first | (refine Cw.cond_dec rfl ?_ ?_ <;> intro hc <;> try omega) | refine Cw.cond_bool rfl ?_ ?_ <;> intro hc) | fail)
 refine Ops.k_next ?_
 refine Ops.nextC rfl goPk rfl (fun hl0 => ?_) (fun j a t hj => ?_)
 ·have hl0 := tkv_nil hl0
  subst hl0
  rw [List.append_nil] at hp
  have hng : ((g.map mkN).map Nm.key).Nodup := by rw [key_mkN]; exact (hp.map Prod.fst).nodup_iff.1 hn
  have hrl2 : rows.length = (g.map mkN).length := by rw [hrl, List.length_map]
  have kS := fun ad cap => sortNmK nmLtD_fn (g.map mkN) (by rw [List.length_map]; omega) hng ad cap
  rw [isortN_perm hp hn] at kS
  have hlen : (g.map mkN).length = (isort nmLt (m.map mkN)).length := by rw [← isortN_perm hp hn, isort_len]
  rw [hrl2]
  subst hrows
  repeat' (first | refine goH ?_ | refine goV ?_ | refine goC (fun ad cap => ?_) | refine goI ?_ | (refine Cw.k_cond ?_; first | (refine Cw.cond_dec rfl ?_ ?_ <;> intro hc <;> try omega) | refine Cw.cond_bool rfl ?_ ?_ <;> intro hc) | (refine Ops.k_calla ?_; first | (refine Ops.k_callf 77 ?_; (refine Ops.call (kS _ _) (Evs.cons rfl (Evs.cons rfl Evs.nil)) goPm rfl ?_; rintro r cs' ⟨rfl, rfl⟩))) | fail)
  rw [hlen]
  exact Fin.ret (Ent.take goTk) (Outs.one rfl rfl) ⟨_, _, rfl, rfl⟩
 ·obtain ⟨v, hjv, rfl⟩ := tkv_at hj
  rw [tkv_erase]
  have hp2 := eraseIdx_snoc hp hjv
  have hlen := eraseIdx_len hjv
  have hrow := snoc_N g (a, v)
  rw [← hrows] at hrow
  simp only at hrow
  repeat' (first | refine goH ?_ | (refine Ops.k_entry ?_; first | (refine Ops.entry rfl goPk rfl ?_)) | refine goV ?_ | refine goC (fun ad cap => ?_) | refine goI ?_ | (refine Cw.k_cond ?_; first | (refine Cw.cond_dec rfl ?_ ?_ <;> intro hc <;> try omega) | refine Cw.cond_bool rfl ?_ ?_ <;> intro hc) | fail)
  exact ⟨_, _, _, (Ent.mk goSub goTk), ⟨g ++ [(a, v)], _, _, _, _, rfl, ⟨hp2, hrow, by simp [hrl]⟩, rfl, rfl⟩, by omega⟩
end Lg
end
