/- A part of the proof of a law of this seat: it adds no condition. By an AI agent. -/
import Derived.Shelf.SlSortCmp.WholeK
import Derived.Test.YtmfjjdodehimjaaGreatDoorProg
import Derived.Test.YtmfjjdodehimjaaGreatDoorBitsLen
import Derived.Test.YtmfjjdodehimjaaGreatDoorPrevN
section
set_option linter.all false
set_option maxRecDepth 100000
set_option maxHeartbeats 8000000
namespace Lg
open Go Go.Proofs

/-! ### what is wrong with moves -/
def firstP (e : Nat → Int) : Nat → Nat → Int × Int
  | _, 0 => (0, 0)
  | i, n + 1 => if e i ≠ 0 then ((i : Int), e i) else firstP e (i + 1) n
theorem firstP_step {e : Nat → Int} {k n : Nat} (h : k < n) : firstP e k (n - k) = if e k ≠ 0 then ((k : Int), e k) else firstP e (k + 1) (n - (k + 1)) := by
  obtain ⟨m, hm⟩ : ∃ m, n - k = m + 1 := ⟨n - k - 1, by omega⟩
  rw [hm, show n - (k + 1) = m by omega]
  rfl
theorem firstP_end {e : Nat → Int} {k n : Nat} (h : ¬ k < n) : firstP e k (n - k) = (0, 0) := by
  rw [show n - k = 0 by omega]
  rfl
theorem firstP_bad {e : Nat → Int} {k n : Nat} {c : Int} (h : k < n) (he : e k = c) (hc : c ≠ 0) : firstP e k (n - k) = ((k : Int), c) := by
  rw [firstP_step h, he, if_pos hc]
theorem firstP_ok {e : Nat → Int} {k n : Nat} (h : k < n) (he : e k = 0) : firstP e k (n - k) = firstP e (k + 1) (n - (k + 1)) := by
  rw [firstP_step h, if_neg (by simp [he])]
theorem firstP_zero {e : Nat → Int} : ∀ {n k : Nat}, (firstP e k n).2 = 0 → ∀ j, k ≤ j → j < k + n → e j = 0
  | 0, k, _, j, h1, h2 => by omega
  | n + 1, k, h, j, h1, h2 => by
    unfold firstP at h
    split at h
    · rename_i h3; exact absurd h h3
    · rename_i h3
      by_cases hjk : j = k
      · subst hjk; omega
      · exact firstP_zero h j (by omega) (by omega)
def ordP : Option Mv → Mv → Bool
  | none, _ => false
  | some y, x => decide (cfM x y ≤ 0)
def bfP : Option Mv → Mv → Int
  | none, _ => 0
  | some y, x => if y.site = x.site then y.no else 0
def mvX (p : Option Mv) (x : Mv) : Int :=
  if isKey x.site = false then 5 else if ordP p x = true then 7 else if x.no ≠ bfP p x + 1 ∨ x.day < 0 ∨ 4000 < x.day then 1
  else if isKey x.ware = false then 5 else if x.many = 0 ∨ x.many < -1000 ∨ 1000 < x.many then 1 else 0
def prvM (l : List Mv) : Nat → Option Mv
  | 0 => none
  | j + 1 => l[j]?
def mvE (l : List Mv) (k : Nat) : Int := match l[k]? with
  | none => 0
  | some x => mvX (prvM l k) x
def mvsE (l : List Mv) : Int × Int := if l.length > 2000 then (0, 2) else firstP (mvE l) 0 l.length
theorem mvsE_ok {l : List Mv} (h : (mvsE l).2 = 0) : ∀ x ∈ l, -1000 ≤ x.many ∧ x.many ≤ 1000 := by
  intro x hx
  unfold mvsE at h
  split at h
  · cases h
  · obtain ⟨i, hi⟩ := List.getElem?_of_mem hx
    have hlt := (List.getElem?_eq_some_iff.1 hi).1
    have := firstP_zero h i (Nat.zero_le _) (by omega)
    unfold mvE at this
    rw [hi] at this
    simp only [mvX] at this
    repeat (split at this; · cases this)
    omega
def NoBd (l : List Mv) : Prop := ∀ x ∈ l, -1000000 ≤ x.no ∧ x.no ≤ 1000000
theorem byMove_fn (a b : Mv) : PFn Tryz.prog 37 [.agg a.row, .agg b.row] (· = .int (cfM a b)) := by
  have k1 := compareS_fn a.site b.site
  have k2 := compare_fn a.no b.no
  have k3 := cmpOrI_fn [cmpS a.site b.site, cmpI a.no b.no] (by simp)
  unfold cfM
  generalize orI [cmpS a.site b.site, cmpI a.no b.no] = o at *
  obtain ⟨s, n, d, w, m⟩ := a
  obtain ⟨s2, n2, d2, w2, m2⟩ := b
  unfold Mv.row
  simp only at k1 k2 k3 ⊢
  refine PFn.mk (Spec.body Tryz.func37 rfl rfl (Tryz.ntmps37) rfl fun w0 own0 M => ?_)
  repeat' (first | refine goH ?_ | refine goV ?_ | refine goB (fun b => ?_) | refine goI ?_ | (refine Cw.k_cond ?_; first | (refine Cw.cond_dec rfl (fun hc => ?_) (fun hc => ?_) <;> try (exfalso; omega)) | refine Cw.cond_bool rfl (fun hc => ?_) (fun hc => ?_)) | (refine Ops.k_calla ?_; first | (refine Ops.k_callf 73 ?_; refine Ops.callV k1 (Evs.cons rfl (Evs.cons rfl Evs.nil)) rfl ?_) | (refine Ops.k_callf 67 ?_; refine Ops.callV k2 (Evs.cons rfl (Evs.cons rfl Evs.nil)) rfl ?_) | (refine Ops.k_callf 72 ?_; refine Ops.callV k3 (Evs.cons rfl Evs.nil) rfl ?_)) | (apply OpW.k_call; first | (apply OpW.k_callf 73; exact OpW.callV k1 (Evs.cons rfl (Evs.cons rfl Evs.nil))) | (apply OpW.k_callf 67; exact OpW.callV k2 (Evs.cons rfl (Evs.cons rfl Evs.nil))) | (apply OpW.k_callf 72; exact OpW.callV k3 (Evs.cons rfl Evs.nil))) | refine goR ?_ | refine goP ?_ | apply PSeq.cons | apply PSeq.yes rfl rfl rfl | exact goW | fail)
  exact Fin.ret (Ent.take goTk) (Outs.one rfl rfl) ⟨rfl, rfl⟩
theorem moveOrder_fn (a b : Mv) : PFn Tryz.prog 41 [.agg a.row, .agg b.row] (· = .int (cfM a b)) := by
  have k1 := compareS_fn a.site b.site
  have k2 := compare_fn a.no b.no
  have k3 := cmpOrI_fn [cmpS a.site b.site, cmpI a.no b.no] (by simp)
  unfold cfM
  generalize orI [cmpS a.site b.site, cmpI a.no b.no] = o at *
  obtain ⟨s, n, d, w, m⟩ := a
  obtain ⟨s2, n2, d2, w2, m2⟩ := b
  unfold Mv.row
  simp only at k1 k2 k3 ⊢
  refine PFn.mk (Spec.body Tryz.func41 rfl rfl (Tryz.ntmps41) rfl fun w0 own0 M => ?_)
  repeat' (first | refine goH ?_ | refine goV ?_ | refine goB (fun b => ?_) | refine goI ?_ | (refine Cw.k_cond ?_; first | (refine Cw.cond_dec rfl (fun hc => ?_) (fun hc => ?_) <;> try (exfalso; omega)) | refine Cw.cond_bool rfl (fun hc => ?_) (fun hc => ?_)) | (refine Ops.k_calla ?_; first | (refine Ops.k_callf 73 ?_; refine Ops.callV k1 (Evs.cons rfl (Evs.cons rfl Evs.nil)) rfl ?_) | (refine Ops.k_callf 67 ?_; refine Ops.callV k2 (Evs.cons rfl (Evs.cons rfl Evs.nil)) rfl ?_) | (refine Ops.k_callf 72 ?_; refine Ops.callV k3 (Evs.cons rfl Evs.nil) rfl ?_)) | (apply OpW.k_call; first | (apply OpW.k_callf 73; exact OpW.callV k1 (Evs.cons rfl (Evs.cons rfl Evs.nil))) | (apply OpW.k_callf 67; exact OpW.callV k2 (Evs.cons rfl (Evs.cons rfl Evs.nil))) | (apply OpW.k_callf 72; exact OpW.callV k3 (Evs.cons rfl Evs.nil))) | refine goR ?_ | refine goP ?_ | apply PSeq.cons | apply PSeq.yes rfl rfl rfl | exact goW | fail)
  exact Fin.ret (Ent.take goTk) (Outs.one rfl rfl) ⟨rfl, rfl⟩
/-- what the k-th move says of the result -/
structure MvF (E : Int × Int) (k : Nat) (x : Mv) (q1 q2 ob : Bool) (bf : Int) (N : Int × Int) : Prop where
  e5 : (!q1) = true → E = ((k : Int), 5)
  e7 : (!q1) = false → ob = true → E = ((k : Int), 7)
  e1 : (!q1) = false → ob = false → ¬ x.no = bf + 1 → E = ((k : Int), 1)
  e1d : (!q1) = false → ob = false → (x.day < 0 ∨ 4000 < x.day) → E = ((k : Int), 1)
  e5w : (!q1) = false → ob = false → x.no = bf + 1 → ¬ (x.day < 0 ∨ 4000 < x.day) → (!q2) = true → E = ((k : Int), 5)
  e1m : (!q1) = false → ob = false → x.no = bf + 1 → ¬ (x.day < 0 ∨ 4000 < x.day) → (!q2) = false → (x.many < -1000 ∨ 1000 < x.many) → E = ((k : Int), 1)
  e1z : (!q1) = false → ob = false → x.no = bf + 1 → ¬ (x.day < 0 ∨ 4000 < x.day) → (!q2) = false → x.many = 0 → E = ((k : Int), 1)
  ok : (!q1) = false → ob = false → x.no = bf + 1 → ¬ (x.day < 0 ∨ 4000 < x.day) → (!q2) = false → ¬ x.many = 0 → ¬ (x.many < -1000 ∨ 1000 < x.many) → E = N
theorem mvF {l : List Mv} {k : Nat} {x : Mv} {p : Option Mv} {E : Int × Int} (hx : l[k]? = some x) (hp : prvM l k = p) (hV : E = firstP (mvE l) k (l.length - k)) (hkl : k < l.length) :
    MvF E k x (isKey x.site) (isKey x.ware) (ordP p x) (bfP p x) (firstP (mvE l) (k + 1) (l.length - (k + 1))) := by
  have he : mvE l k = mvX p x := by unfold mvE; rw [hx, hp]
  have fin : ∀ c : Int, mvX p x = c → c ≠ 0 → E = ((k : Int), c) := fun c h1 h2 => hV.trans (firstP_bad hkl (he.trans h1) h2)
  have nxt : mvX p x = 0 → E = firstP (mvE l) (k + 1) (l.length - (k + 1)) := fun h1 => hV.trans (firstP_ok hkl (he.trans h1))
  clear hV he
  unfold mvX at fin nxt
  generalize bfP p x = bf at *
  generalize ordP p x = ob at *
  generalize isKey x.site = q1 at *
  generalize isKey x.ware = q2 at *
  refine ⟨?_, ?_, ?_, ?_, ?_, ?_, ?_, ?_⟩
  · intro h; exact fin 5 (by rw [if_pos (by simpa using h)]) (by decide)
  · intro h h2; exact fin 7 (by rw [if_neg (by simpa using h), if_pos h2]) (by decide)
  · intro h h2 h3; exact fin 1 (by rw [if_neg (by simpa using h), if_neg (by simp [h2]), if_pos (.inl h3)]) (by decide)
  · intro h h2 h3; exact fin 1 (by rw [if_neg (by simpa using h), if_neg (by simp [h2]), if_pos (.inr h3)]) (by decide)
  · intro h h2 h3 h4 h5; exact fin 5 (by rw [if_neg (by simpa using h), if_neg (by simp [h2]), if_neg (by omega), if_pos (by simpa using h5)]) (by decide)
  · intro h h2 h3 h4 h5 h6; exact fin 1 (by rw [if_neg (by simpa using h), if_neg (by simp [h2]), if_neg (by omega), if_neg (by simpa using h5), if_pos (.inr h6)]) (by decide)
  · intro h h2 h3 h4 h5 h6; exact fin 1 (by rw [if_neg (by simpa using h), if_neg (by simp [h2]), if_neg (by omega), if_neg (by simpa using h5), if_pos (.inl h6)]) (by decide)
  · intro h h2 h3 h4 h5 h6 h7; exact nxt (by rw [if_neg (by simpa using h), if_neg (by simp [h2]), if_neg (by omega), if_neg (by simpa using h5), if_neg (by omega)])
structure MvG (x : Mv) (d o : Bool) : Prop where
  d0 : (!d) = true → (x.day < 0 ∨ 4000 < x.day)
  d1 : (!d) = false → ¬ (x.day < 0 ∨ 4000 < x.day)
  m0 : o = true → (x.many < -1000 ∨ 1000 < x.many)
  m1 : o = false → ¬ (x.many < -1000 ∨ 1000 < x.many)
theorem mvG (x : Mv) : MvG x (dayB x.day) (outB x.many (-1000) 1000) := by
  refine ⟨?_, ?_, ?_, ?_⟩ <;> (intro h; simp [dayB, outB] at h; omega)
theorem checkShelf_fn (l : List Mv) (hl : l.length ≤ 1000000) (hno : NoBd l) : PFn Tryz.prog 9 [.mvs l] (· = .tup [.int (mvsE l).1, .int (mvsE l).2]) := by
  refine PFn.mk (Spec.body Tryz.func9 rfl rfl (Tryz.ntmps9) rfl fun w0 own0 M => ?_)
  have hL : (l.map Mv.row).length = l.length := List.length_map _
  by_cases h200 : l.length > 2000
  · rw [show mvsE l = (0, 2) by unfold mvsE; rw [if_pos h200]]
    repeat' (first | refine goH ?_ | refine goV ?_ | refine goB (fun b => ?_) | refine goG ?_ | (refine Ops.k_guard ?_; first | (refine Ops.guard_dec rfl rfl (fun hc => ?_) (fun hc => ?_) <;> try (exfalso; omega)) | refine Ops.guard_split rfl rfl (fun hc => ?_) (fun hc => ?_)) | refine goI ?_ | (refine Cw.k_cond ?_; first | (refine Cw.cond_dec rfl (fun hc => ?_) (fun hc => ?_) <;> try (exfalso; omega)) | refine Cw.cond_bool rfl (fun hc => ?_) (fun hc => ?_)) | refine goR ?_ | refine goP ?_ | apply PSeq.cons | apply PSeq.yes rfl rfl rfl | exact goW | fail)
    exact Fin.ret (Ent.take goTk) (Outs.two rfl rfl rfl) ⟨rfl, rfl⟩
  have hV0 : mvsE l = firstP (mvE l) 0 (l.length - 0) := by unfold mvsE; rw [if_neg h200]; rfl
  generalize mvsE l = E at *
  repeat' (first | refine goH ?_ | refine goV ?_ | refine goB (fun b => ?_) | refine goG ?_ | (refine Ops.k_guard ?_; first | (refine Ops.guard_dec rfl rfl (fun hc => ?_) (fun hc => ?_) <;> try (exfalso; omega)) | refine Ops.guard_split rfl rfl (fun hc => ?_) (fun hc => ?_)) | refine goI ?_ | (refine Cw.k_cond ?_; first | (refine Cw.cond_dec rfl (fun hc => ?_) (fun hc => ?_) <;> try (exfalso; omega)) | refine Cw.cond_bool rfl (fun hc => ?_) (fun hc => ?_)) | refine goR ?_ | refine goP ?_ | apply PSeq.cons | apply PSeq.yes rfl rfl rfl | exact goW | fail)
  refine Cw.loopI [(0, _), (10, _), (11, _)] _ (fun n e c => ∃ k : Nat, n = l.length - k ∧ (k ≤ l.length ∧ E = firstP (mvE l) k (l.length - k)) ∧ e = [(12, .int k)] ∧ c = []) ⟨_, _, _, (Ent.mkP goSub goPm), 0, rfl, ⟨by omega, hV0⟩, rfl, rfl⟩ ?_
  clear hV0
  rintro _ _ _ ⟨k, rfl, ⟨hk, hV⟩, rfl, rfl⟩
  by_cases hkl : k < l.length
  rotate_left
  · rw [firstP_end hkl] at hV
    subst hV
    repeat' (first | refine goH ?_ | refine goV ?_ | refine goB (fun b => ?_) | refine goG ?_ | (refine Ops.k_guard ?_; first | (refine Ops.guard_dec rfl rfl (fun hc => ?_) (fun hc => ?_) <;> try (exfalso; omega)) | refine Ops.guard_split rfl rfl (fun hc => ?_) (fun hc => ?_)) | refine goI ?_ | (refine Cw.k_cond ?_; first | (refine Cw.cond_dec rfl (fun hc => ?_) (fun hc => ?_) <;> try (exfalso; omega)) | refine Cw.cond_bool rfl (fun hc => ?_) (fun hc => ?_)) | refine goR ?_ | refine goP ?_ | apply PSeq.cons | apply PSeq.yes rfl rfl rfl | exact goW | fail)
    exact Fin.ret (Ent.take goTk) (Outs.two rfl rfl rfl) ⟨rfl, rfl⟩
  obtain ⟨x, hx⟩ := at_lt hkl
  have hrow : (l.map Mv.row)[k]? = some [.str x.site, .int x.no, .int x.day, .str x.ware, .int x.many] := rows_at hx
  have hxb := hno x (List.mem_of_getElem? hx)
  have k1 := key_fn x.site
  have k2 := key_fn x.ware
  by_cases hk0 : k = 0
  · have F := mvF (p := none) hx (by rw [hk0]; rfl) hV hkl
    obtain ⟨bf, hbf⟩ : ∃ bf : Int, bf = bfP none x := ⟨_, rfl⟩
    rw [← hbf] at F
    replace hbf : bf = 0 := hbf
    have k3 := out_fn x.many (-1000) 1000
    have k4 := day_fn x.day
    have G : MvG x (dayB x.day) (outB x.many (-1000) 1000) := mvG x
    generalize dayB x.day = dB at *
    generalize outB x.many (-1000) 1000 = oB at *
    rw [show ordP none x = false from rfl] at F
    generalize isKey x.site = q1 at *
    generalize isKey x.ware = q2 at *
    clear hV hno hx
    repeat' (first | refine goH ?_ | refine goV ?_ | refine goB (fun b => ?_) | refine goG ?_ | (refine Ops.k_guard ?_; first | (refine Ops.guard_dec rfl rfl (fun hc => ?_) (fun hc => ?_) <;> try (exfalso; omega)) | refine Ops.guard_split rfl rfl (fun hc => ?_) (fun hc => ?_)) | refine goI ?_ | (refine Cw.k_cond ?_; first | (refine Cw.cond_dec rfl (fun hc => ?_) (fun hc => ?_) <;> try (exfalso; omega)) | refine Cw.cond_bool rfl (fun hc => ?_) (fun hc => ?_)) | (refine Ops.k_calla ?_; first | (refine Ops.k_callf 36 ?_; refine Ops.callV k1 (Evs.cons rfl Evs.nil) rfl ?_) | (refine Ops.k_callf 36 ?_; refine Ops.callV k2 (Evs.cons rfl Evs.nil) rfl ?_) | (refine Ops.k_callf 39 ?_; refine Ops.callV k3 (Evs.cons rfl (Evs.cons rfl (Evs.cons rfl Evs.nil))) rfl ?_) | (refine Ops.k_callf 38 ?_; refine Ops.callV k4 (Evs.cons rfl Evs.nil) rfl ?_)) | (apply OpW.k_call; first | (apply OpW.k_callf 36; exact OpW.callV k1 (Evs.cons rfl Evs.nil)) | (apply OpW.k_callf 36; exact OpW.callV k2 (Evs.cons rfl Evs.nil)) | (apply OpW.k_callf 39; exact OpW.callV k3 (Evs.cons rfl (Evs.cons rfl (Evs.cons rfl Evs.nil)))) | (apply OpW.k_callf 38; exact OpW.callV k4 (Evs.cons rfl Evs.nil))) | refine goR ?_ | refine goP ?_ | apply PSeq.cons | apply PSeq.yes rfl rfl rfl | exact goW | fail)
    all_goals first
      | (exfalso; omega)
      | exact ⟨_, _, _, (Ent.mk goSub goTk), ⟨k + 1, rfl, ⟨by omega, F.ok (by assumption) rfl (by omega) (G.d1 (by assumption)) (by assumption) (by omega) (G.m1 (by assumption))⟩, rfl, rfl⟩, by omega⟩
      | (refine Fin.ret (Ent.take goTk) (Outs.two rfl rfl rfl) ⟨rfl, ?_⟩; first | (rw [F.e5 (by assumption)]; done) | (rw [F.e1 (by assumption) rfl (by omega)]; done) | (rw [F.e1d (by assumption) rfl (G.d0 (by assumption))]; done) | (rw [F.e5w (by assumption) rfl (by omega) (G.d1 (by assumption)) (by assumption)]; done) | (rw [F.e1m (by assumption) rfl (by omega) (G.d1 (by assumption)) (by assumption) (G.m0 (by assumption))]; done) | (rw [F.e1z (by assumption) rfl (by omega) (G.d1 (by assumption)) (by assumption) (by omega)]; done))
  obtain ⟨j, hj⟩ : ∃ j, k = j + 1 := ⟨k - 1, by omega⟩
  obtain ⟨y, hy⟩ := at_lt (l := l) (k := j) (by omega)
  have hrow2 : (l.map Mv.row)[((k : Int) - 1).toNat]? = some [.str y.site, .int y.no, .int y.day, .str y.ware, .int y.many] := by rw [show ((k : Int) - 1).toNat = j by omega]; exact rows_at hy
  have hyb := hno y (List.mem_of_getElem? hy)
  by_cases hs : y.site = x.site
  rotate_left
  · have F := mvF (p := some y) hx (by rw [hj]; exact hy) hV hkl
    obtain ⟨bf, hbf⟩ : ∃ bf : Int, bf = bfP (some y) x := ⟨_, rfl⟩
    rw [← hbf] at F
    replace hbf : bf = 0 := by rw [hbf]; simp [bfP, hs]
    have k5 := byMove_fn x y
    unfold Mv.row at k5
    have k3 := out_fn x.many (-1000) 1000
    have k4 := day_fn x.day
    have G : MvG x (dayB x.day) (outB x.many (-1000) 1000) := mvG x
    generalize dayB x.day = dB at *
    generalize outB x.many (-1000) 1000 = oB at *
    rw [show ordP (some y) x = decide (cfM x y ≤ 0) from rfl] at F
    generalize cfM x y = o at *
    generalize isKey x.site = q1 at *
    generalize isKey x.ware = q2 at *
    clear hV hno hx hy
    repeat' (first | refine goH ?_ | refine goV ?_ | refine goB (fun b => ?_) | refine goG ?_ | (refine Ops.k_guard ?_; first | (refine Ops.guard_dec rfl rfl (fun hc => ?_) (fun hc => ?_) <;> try (exfalso; omega)) | refine Ops.guard_split rfl rfl (fun hc => ?_) (fun hc => ?_)) | refine goI ?_ | (refine Cw.k_cond ?_; first | (refine Cw.cond_dec rfl (fun hc => ?_) (fun hc => ?_) <;> try (exfalso; omega)) | refine Cw.cond_bool rfl (fun hc => ?_) (fun hc => ?_)) | (refine Ops.k_calla ?_; first | (refine Ops.k_callf 36 ?_; refine Ops.callV k1 (Evs.cons rfl Evs.nil) rfl ?_) | (refine Ops.k_callf 36 ?_; refine Ops.callV k2 (Evs.cons rfl Evs.nil) rfl ?_) | (refine Ops.k_callf 37 ?_; refine Ops.callV k5 (Evs.cons rfl (Evs.cons rfl Evs.nil)) rfl ?_) | (refine Ops.k_callf 39 ?_; refine Ops.callV k3 (Evs.cons rfl (Evs.cons rfl (Evs.cons rfl Evs.nil))) rfl ?_) | (refine Ops.k_callf 38 ?_; refine Ops.callV k4 (Evs.cons rfl Evs.nil) rfl ?_)) | (apply OpW.k_call; first | (apply OpW.k_callf 36; exact OpW.callV k1 (Evs.cons rfl Evs.nil)) | (apply OpW.k_callf 36; exact OpW.callV k2 (Evs.cons rfl Evs.nil)) | (apply OpW.k_callf 37; exact OpW.callV k5 (Evs.cons rfl (Evs.cons rfl Evs.nil))) | (apply OpW.k_callf 39; exact OpW.callV k3 (Evs.cons rfl (Evs.cons rfl (Evs.cons rfl Evs.nil)))) | (apply OpW.k_callf 38; exact OpW.callV k4 (Evs.cons rfl Evs.nil))) | refine goR ?_ | refine goP ?_ | apply PSeq.cons | apply PSeq.yes rfl rfl rfl | exact goW | fail)
    all_goals first
      | (exfalso; omega)
      | exact ⟨_, _, _, (Ent.mk goSub goTk), ⟨k + 1, rfl, ⟨by omega, F.ok (by assumption) (decide_eq_false (by omega)) (by omega) (G.d1 (by assumption)) (by assumption) (by omega) (G.m1 (by assumption))⟩, rfl, rfl⟩, by omega⟩
      | (refine Fin.ret (Ent.take goTk) (Outs.two rfl rfl rfl) ⟨rfl, ?_⟩; first | (rw [F.e5 (by assumption)]; done) | (rw [F.e7 (by assumption) (decide_eq_true (by omega))]; done) | (rw [F.e1 (by assumption) (decide_eq_false (by omega)) (by omega)]; done) | (rw [F.e1d (by assumption) (decide_eq_false (by omega)) (G.d0 (by assumption))]; done) | (rw [F.e5w (by assumption) (decide_eq_false (by omega)) (by omega) (G.d1 (by assumption)) (by assumption)]; done) | (rw [F.e1m (by assumption) (decide_eq_false (by omega)) (by omega) (G.d1 (by assumption)) (by assumption) (G.m0 (by assumption))]; done) | (rw [F.e1z (by assumption) (decide_eq_false (by omega)) (by omega) (G.d1 (by assumption)) (by assumption) (by omega)]; done))
  · have F := mvF (p := some y) hx (by rw [hj]; exact hy) hV hkl
    obtain ⟨bf, hbf⟩ : ∃ bf : Int, bf = bfP (some y) x := ⟨_, rfl⟩
    rw [← hbf] at F
    replace hbf : bf = y.no := by rw [hbf]; simp [bfP, hs]
    have k5 := byMove_fn x y
    unfold Mv.row at k5
    have k3 := out_fn x.many (-1000) 1000
    have k4 := day_fn x.day
    have G : MvG x (dayB x.day) (outB x.many (-1000) 1000) := mvG x
    generalize dayB x.day = dB at *
    generalize outB x.many (-1000) 1000 = oB at *
    rw [show ordP (some y) x = decide (cfM x y ≤ 0) from rfl] at F
    generalize cfM x y = o at *
    generalize isKey x.site = q1 at *
    generalize isKey x.ware = q2 at *
    clear hV hno hx hy
    repeat' (first | refine goH ?_ | refine goV ?_ | refine goB (fun b => ?_) | refine goG ?_ | (refine Ops.k_guard ?_; first | (refine Ops.guard_dec rfl rfl (fun hc => ?_) (fun hc => ?_) <;> try (exfalso; omega)) | refine Ops.guard_split rfl rfl (fun hc => ?_) (fun hc => ?_)) | refine goI ?_ | (refine Cw.k_cond ?_; first | (refine Cw.cond_dec rfl (fun hc => ?_) (fun hc => ?_) <;> try (exfalso; omega)) | refine Cw.cond_bool rfl (fun hc => ?_) (fun hc => ?_)) | (refine Ops.k_calla ?_; first | (refine Ops.k_callf 36 ?_; refine Ops.callV k1 (Evs.cons rfl Evs.nil) rfl ?_) | (refine Ops.k_callf 36 ?_; refine Ops.callV k2 (Evs.cons rfl Evs.nil) rfl ?_) | (refine Ops.k_callf 37 ?_; refine Ops.callV k5 (Evs.cons rfl (Evs.cons rfl Evs.nil)) rfl ?_) | (refine Ops.k_callf 39 ?_; refine Ops.callV k3 (Evs.cons rfl (Evs.cons rfl (Evs.cons rfl Evs.nil))) rfl ?_) | (refine Ops.k_callf 38 ?_; refine Ops.callV k4 (Evs.cons rfl Evs.nil) rfl ?_)) | (apply OpW.k_call; first | (apply OpW.k_callf 36; exact OpW.callV k1 (Evs.cons rfl Evs.nil)) | (apply OpW.k_callf 36; exact OpW.callV k2 (Evs.cons rfl Evs.nil)) | (apply OpW.k_callf 37; exact OpW.callV k5 (Evs.cons rfl (Evs.cons rfl Evs.nil))) | (apply OpW.k_callf 39; exact OpW.callV k3 (Evs.cons rfl (Evs.cons rfl (Evs.cons rfl Evs.nil)))) | (apply OpW.k_callf 38; exact OpW.callV k4 (Evs.cons rfl Evs.nil))) | refine goR ?_ | refine goP ?_ | apply PSeq.cons | apply PSeq.yes rfl rfl rfl | exact goW | fail)
    all_goals first
      | (exfalso; omega)
      | exact ⟨_, _, _, (Ent.mk goSub goTk), ⟨k + 1, rfl, ⟨by omega, F.ok (by assumption) (decide_eq_false (by omega)) (by omega) (G.d1 (by assumption)) (by assumption) (by omega) (G.m1 (by assumption))⟩, rfl, rfl⟩, by omega⟩
      | (refine Fin.ret (Ent.take goTk) (Outs.two rfl rfl rfl) ⟨rfl, ?_⟩; first | (rw [F.e5 (by assumption)]; done) | (rw [F.e7 (by assumption) (decide_eq_true (by omega))]; done) | (rw [F.e1 (by assumption) (decide_eq_false (by omega)) (by omega)]; done) | (rw [F.e1d (by assumption) (decide_eq_false (by omega)) (G.d0 (by assumption))]; done) | (rw [F.e5w (by assumption) (decide_eq_false (by omega)) (by omega) (G.d1 (by assumption)) (by assumption)]; done) | (rw [F.e1m (by assumption) (decide_eq_false (by omega)) (by omega) (G.d1 (by assumption)) (by assumption) (G.m0 (by assumption))]; done) | (rw [F.e1z (by assumption) (decide_eq_false (by omega)) (by omega) (G.d1 (by assumption)) (by assumption) (by omega)]; done))
theorem shelfFault_fn (l : List Mv) (hl : l.length ≤ 1000000) (hno : NoBd l) : PFn Tryz.prog 10 [.mvs l] (· = .tup [.int (mvsE l).1, .int (mvsE l).2]) := by
  refine PFn.mk (Spec.body Tryz.func10 rfl rfl (Tryz.ntmps10) rfl fun w0 own0 M => ?_)
  have hL : (l.map Mv.row).length = l.length := List.length_map _
  by_cases h200 : l.length > 2000
  · rw [show mvsE l = (0, 2) by unfold mvsE; rw [if_pos h200]]
    repeat' (first | refine goH ?_ | refine goV ?_ | refine goB (fun b => ?_) | refine goG ?_ | (refine Ops.k_guard ?_; first | (refine Ops.guard_dec rfl rfl (fun hc => ?_) (fun hc => ?_) <;> try (exfalso; omega)) | refine Ops.guard_split rfl rfl (fun hc => ?_) (fun hc => ?_)) | refine goI ?_ | (refine Cw.k_cond ?_; first | (refine Cw.cond_dec rfl (fun hc => ?_) (fun hc => ?_) <;> try (exfalso; omega)) | refine Cw.cond_bool rfl (fun hc => ?_) (fun hc => ?_)) | refine goR ?_ | refine goP ?_ | apply PSeq.cons | apply PSeq.yes rfl rfl rfl | exact goW | fail)
    exact Fin.ret (Ent.take goTk) (Outs.two rfl rfl rfl) ⟨rfl, rfl⟩
  have hV0 : mvsE l = firstP (mvE l) 0 (l.length - 0) := by unfold mvsE; rw [if_neg h200]; rfl
  generalize mvsE l = E at *
  repeat' (first | refine goH ?_ | refine goV ?_ | refine goB (fun b => ?_) | refine goG ?_ | (refine Ops.k_guard ?_; first | (refine Ops.guard_dec rfl rfl (fun hc => ?_) (fun hc => ?_) <;> try (exfalso; omega)) | refine Ops.guard_split rfl rfl (fun hc => ?_) (fun hc => ?_)) | refine goI ?_ | (refine Cw.k_cond ?_; first | (refine Cw.cond_dec rfl (fun hc => ?_) (fun hc => ?_) <;> try (exfalso; omega)) | refine Cw.cond_bool rfl (fun hc => ?_) (fun hc => ?_)) | refine goR ?_ | refine goP ?_ | apply PSeq.cons | apply PSeq.yes rfl rfl rfl | exact goW | fail)
  refine Cw.loopI [(0, _), (11, _), (12, _)] _ (fun n e c => ∃ k : Nat, n = l.length - k ∧ (k ≤ l.length ∧ E = firstP (mvE l) k (l.length - k)) ∧ e = [(13, .int k)] ∧ c = []) ⟨_, _, _, (Ent.mkP goSub goPm), 0, rfl, ⟨by omega, hV0⟩, rfl, rfl⟩ ?_
  clear hV0
  rintro _ _ _ ⟨k, rfl, ⟨hk, hV⟩, rfl, rfl⟩
  by_cases hkl : k < l.length
  rotate_left
  · rw [firstP_end hkl] at hV
    subst hV
    repeat' (first | refine goH ?_ | refine goV ?_ | refine goB (fun b => ?_) | refine goG ?_ | (refine Ops.k_guard ?_; first | (refine Ops.guard_dec rfl rfl (fun hc => ?_) (fun hc => ?_) <;> try (exfalso; omega)) | refine Ops.guard_split rfl rfl (fun hc => ?_) (fun hc => ?_)) | refine goI ?_ | (refine Cw.k_cond ?_; first | (refine Cw.cond_dec rfl (fun hc => ?_) (fun hc => ?_) <;> try (exfalso; omega)) | refine Cw.cond_bool rfl (fun hc => ?_) (fun hc => ?_)) | refine goR ?_ | refine goP ?_ | apply PSeq.cons | apply PSeq.yes rfl rfl rfl | exact goW | fail)
    exact Fin.ret (Ent.take goTk) (Outs.two rfl rfl rfl) ⟨rfl, rfl⟩
  obtain ⟨x, hx⟩ := at_lt hkl
  have hrow : (l.map Mv.row)[k]? = some [.str x.site, .int x.no, .int x.day, .str x.ware, .int x.many] := rows_at hx
  have hxb := hno x (List.mem_of_getElem? hx)
  have k1 := keyOf_fn x.site
  have k2 := keyOf_fn x.ware
  by_cases hk0 : k = 0
  · have F := mvF (p := none) hx (by rw [hk0]; rfl) hV hkl
    obtain ⟨bf, hbf⟩ : ∃ bf : Int, bf = bfP none x := ⟨_, rfl⟩
    rw [← hbf] at F
    replace hbf : bf = 0 := hbf
    rw [show ordP none x = false from rfl] at F
    generalize isKey x.site = q1 at *
    generalize isKey x.ware = q2 at *
    clear hV hno hx
    repeat' (first | refine goH ?_ | refine goV ?_ | refine goB (fun b => ?_) | refine goG ?_ | (refine Ops.k_guard ?_; first | (refine Ops.guard_dec rfl rfl (fun hc => ?_) (fun hc => ?_) <;> try (exfalso; omega)) | refine Ops.guard_split rfl rfl (fun hc => ?_) (fun hc => ?_)) | refine goI ?_ | (refine Cw.k_cond ?_; first | (refine Cw.cond_dec rfl (fun hc => ?_) (fun hc => ?_) <;> try (exfalso; omega)) | refine Cw.cond_bool rfl (fun hc => ?_) (fun hc => ?_)) | (refine Ops.k_calla ?_; first | (refine Ops.k_callf 40 ?_; refine Ops.callV k1 (Evs.cons rfl Evs.nil) rfl ?_) | (refine Ops.k_callf 40 ?_; refine Ops.callV k2 (Evs.cons rfl Evs.nil) rfl ?_)) | (apply OpW.k_call; first | (apply OpW.k_callf 40; exact OpW.callV k1 (Evs.cons rfl Evs.nil)) | (apply OpW.k_callf 40; exact OpW.callV k2 (Evs.cons rfl Evs.nil))) | refine goR ?_ | refine goP ?_ | apply PSeq.cons | apply PSeq.yes rfl rfl rfl | exact goW | fail)
    all_goals first
      | (exfalso; omega)
      | exact ⟨_, _, _, (Ent.mk goSub goTk), ⟨k + 1, rfl, ⟨by omega, F.ok (by assumption) rfl (by omega) (by omega) (by assumption) (by omega) (by omega)⟩, rfl, rfl⟩, by omega⟩
      | (refine Fin.ret (Ent.take goTk) (Outs.two rfl rfl rfl) ⟨rfl, ?_⟩; first | (rw [F.e5 (by assumption)]; done) | (rw [F.e1 (by assumption) rfl (by omega)]; done) | (rw [F.e1d (by assumption) rfl (by omega)]; done) | (rw [F.e5w (by assumption) rfl (by omega) (by omega) (by assumption)]; done) | (rw [F.e1m (by assumption) rfl (by omega) (by omega) (by assumption) (by omega)]; done) | (rw [F.e1z (by assumption) rfl (by omega) (by omega) (by assumption) (by omega)]; done))
  obtain ⟨j, hj⟩ : ∃ j, k = j + 1 := ⟨k - 1, by omega⟩
  obtain ⟨y, hy⟩ := at_lt (l := l) (k := j) (by omega)
  have hrow2 : (l.map Mv.row)[((k : Int) - 1).toNat]? = some [.str y.site, .int y.no, .int y.day, .str y.ware, .int y.many] := by rw [show ((k : Int) - 1).toNat = j by omega]; exact rows_at hy
  have hyb := hno y (List.mem_of_getElem? hy)
  by_cases hs : y.site = x.site
  rotate_left
  · have F := mvF (p := some y) hx (by rw [hj]; exact hy) hV hkl
    obtain ⟨bf, hbf⟩ : ∃ bf : Int, bf = bfP (some y) x := ⟨_, rfl⟩
    rw [← hbf] at F
    replace hbf : bf = 0 := by rw [hbf]; simp [bfP, hs]
    have k5 := moveOrder_fn y x
    rw [cfM_neg x y] at k5
    unfold Mv.row at k5
    rw [show ordP (some y) x = decide (cfM x y ≤ 0) from rfl] at F
    generalize cfM x y = o at *
    generalize isKey x.site = q1 at *
    generalize isKey x.ware = q2 at *
    clear hV hno hx hy
    repeat' (first | refine goH ?_ | refine goV ?_ | refine goB (fun b => ?_) | refine goG ?_ | (refine Ops.k_guard ?_; first | (refine Ops.guard_dec rfl rfl (fun hc => ?_) (fun hc => ?_) <;> try (exfalso; omega)) | refine Ops.guard_split rfl rfl (fun hc => ?_) (fun hc => ?_)) | refine goI ?_ | (refine Cw.k_cond ?_; first | (refine Cw.cond_dec rfl (fun hc => ?_) (fun hc => ?_) <;> try (exfalso; omega)) | refine Cw.cond_bool rfl (fun hc => ?_) (fun hc => ?_)) | (refine Ops.k_calla ?_; first | (refine Ops.k_callf 40 ?_; refine Ops.callV k1 (Evs.cons rfl Evs.nil) rfl ?_) | (refine Ops.k_callf 40 ?_; refine Ops.callV k2 (Evs.cons rfl Evs.nil) rfl ?_) | (refine Ops.k_callf 41 ?_; refine Ops.callV k5 (Evs.cons rfl (Evs.cons rfl Evs.nil)) rfl ?_)) | (apply OpW.k_call; first | (apply OpW.k_callf 40; exact OpW.callV k1 (Evs.cons rfl Evs.nil)) | (apply OpW.k_callf 40; exact OpW.callV k2 (Evs.cons rfl Evs.nil)) | (apply OpW.k_callf 41; exact OpW.callV k5 (Evs.cons rfl (Evs.cons rfl Evs.nil)))) | refine goR ?_ | refine goP ?_ | apply PSeq.cons | apply PSeq.yes rfl rfl rfl | exact goW | fail)
    all_goals first
      | (exfalso; omega)
      | exact ⟨_, _, _, (Ent.mk goSub goTk), ⟨k + 1, rfl, ⟨by omega, F.ok (by assumption) (decide_eq_false (by omega)) (by omega) (by omega) (by assumption) (by omega) (by omega)⟩, rfl, rfl⟩, by omega⟩
      | (refine Fin.ret (Ent.take goTk) (Outs.two rfl rfl rfl) ⟨rfl, ?_⟩; first | (rw [F.e5 (by assumption)]; done) | (rw [F.e7 (by assumption) (decide_eq_true (by omega))]; done) | (rw [F.e1 (by assumption) (decide_eq_false (by omega)) (by omega)]; done) | (rw [F.e1d (by assumption) (decide_eq_false (by omega)) (by omega)]; done) | (rw [F.e5w (by assumption) (decide_eq_false (by omega)) (by omega) (by omega) (by assumption)]; done) | (rw [F.e1m (by assumption) (decide_eq_false (by omega)) (by omega) (by omega) (by assumption) (by omega)]; done) | (rw [F.e1z (by assumption) (decide_eq_false (by omega)) (by omega) (by omega) (by assumption) (by omega)]; done))
  · have F := mvF (p := some y) hx (by rw [hj]; exact hy) hV hkl
    obtain ⟨bf, hbf⟩ : ∃ bf : Int, bf = bfP (some y) x := ⟨_, rfl⟩
    rw [← hbf] at F
    replace hbf : bf = y.no := by rw [hbf]; simp [bfP, hs]
    have k5 := moveOrder_fn y x
    rw [cfM_neg x y] at k5
    unfold Mv.row at k5
    rw [show ordP (some y) x = decide (cfM x y ≤ 0) from rfl] at F
    generalize cfM x y = o at *
    generalize isKey x.site = q1 at *
    generalize isKey x.ware = q2 at *
    clear hV hno hx hy
    repeat' (first | refine goH ?_ | refine goV ?_ | refine goB (fun b => ?_) | refine goG ?_ | (refine Ops.k_guard ?_; first | (refine Ops.guard_dec rfl rfl (fun hc => ?_) (fun hc => ?_) <;> try (exfalso; omega)) | refine Ops.guard_split rfl rfl (fun hc => ?_) (fun hc => ?_)) | refine goI ?_ | (refine Cw.k_cond ?_; first | (refine Cw.cond_dec rfl (fun hc => ?_) (fun hc => ?_) <;> try (exfalso; omega)) | refine Cw.cond_bool rfl (fun hc => ?_) (fun hc => ?_)) | (refine Ops.k_calla ?_; first | (refine Ops.k_callf 40 ?_; refine Ops.callV k1 (Evs.cons rfl Evs.nil) rfl ?_) | (refine Ops.k_callf 40 ?_; refine Ops.callV k2 (Evs.cons rfl Evs.nil) rfl ?_) | (refine Ops.k_callf 41 ?_; refine Ops.callV k5 (Evs.cons rfl (Evs.cons rfl Evs.nil)) rfl ?_)) | (apply OpW.k_call; first | (apply OpW.k_callf 40; exact OpW.callV k1 (Evs.cons rfl Evs.nil)) | (apply OpW.k_callf 40; exact OpW.callV k2 (Evs.cons rfl Evs.nil)) | (apply OpW.k_callf 41; exact OpW.callV k5 (Evs.cons rfl (Evs.cons rfl Evs.nil)))) | refine goR ?_ | refine goP ?_ | apply PSeq.cons | apply PSeq.yes rfl rfl rfl | exact goW | fail)
    all_goals first
      | (exfalso; omega)
      | exact ⟨_, _, _, (Ent.mk goSub goTk), ⟨k + 1, rfl, ⟨by omega, F.ok (by assumption) (decide_eq_false (by omega)) (by omega) (by omega) (by assumption) (by omega) (by omega)⟩, rfl, rfl⟩, by omega⟩
      | (refine Fin.ret (Ent.take goTk) (Outs.two rfl rfl rfl) ⟨rfl, ?_⟩; first | (rw [F.e5 (by assumption)]; done) | (rw [F.e7 (by assumption) (decide_eq_true (by omega))]; done) | (rw [F.e1 (by assumption) (decide_eq_false (by omega)) (by omega)]; done) | (rw [F.e1d (by assumption) (decide_eq_false (by omega)) (by omega)]; done) | (rw [F.e5w (by assumption) (decide_eq_false (by omega)) (by omega) (by omega) (by assumption)]; done) | (rw [F.e1m (by assumption) (decide_eq_false (by omega)) (by omega) (by omega) (by assumption) (by omega)]; done) | (rw [F.e1z (by assumption) (decide_eq_false (by omega)) (by omega) (by omega) (by assumption) (by omega)]; done))
end Lg
end
section
/-
  DERIVED: THE SHELF's CONTRACTS AT THIS DUMP, IN PLAIN WORDS (tools/lay-plain.mjs out of 'YtmfjjdodehimjaaGreatDoorShelf2Raw.lean', which tools/lay-shelf.mjs wrote): THE SAME DECLARATIONS UNDER THE SAME NAMES: 'import', 'namespace', 'open', 'def', 'theorem' AND NOTHING ELSE: no command of the shelf's: FOR A HAND-IN. Each laying: the table of numbers ('.._ren') and one theorem, a field a fact of the dump's own or the kernel's comparison; each contract: ONE APPLICATION.
-/
namespace Go.Proofs
open Go.Shelf
def Tryz.sortNm_ren : Go.Shelf.Ren := ⟨fun | 6 => 75 | 15 => 82 | 14 => 93 | 28 => 103 | 29 => 104 | 20 => 132 | 21 => 133 | 22 => 134 | 23 => 135 | 24 => 136 | 25 => 137 | 26 => 138 | 27 => 139 | 46 => 156 | 47 => 142 | 48 => 143 | 49 => 157 | 50 => 158 | 57 => 166 | n => n, fun | 22 => 30 | 24 => 44 | 25 => 107 | 3 => 3 | 39 => 115 | 0 => 0 | 53 => 135 | 55 => 137 | 4 => 4 | 46 => 128 | 45 => 127 | 50 => 132 | 5 => 5 | 9 => 9 | 66 => 165 | 70 => 169 | 76 => 181 | 77 => 182 | n => n, fun | n => n⟩
theorem Tryz.sortNm : Go.Proofs.SlLaysF0.n6 Tryz.prog Tryz.sortNm_ren := {
  mixed := by kernel_rfl
  f6 := ⟨Tryz.f75.name, by decide, Tryz.func75.trans (congrArg some (by kernel_rfl))⟩
  f14 := ⟨Tryz.f93.name, by decide, Tryz.func93.trans (congrArg some (by kernel_rfl))⟩
  f15 := Tryz.func82.trans (congrArg some (by kernel_rfl))
  f20 := ⟨Tryz.f132.name, by decide, Tryz.func132.trans (congrArg some (by kernel_rfl))⟩
  f21 := ⟨Tryz.f133.name, by decide, Tryz.func133.trans (congrArg some (by kernel_rfl))⟩
  f22 := ⟨Tryz.f134.name, by decide, Tryz.func134.trans (congrArg some (by kernel_rfl))⟩
  f23 := ⟨Tryz.f135.name, by decide, Tryz.func135.trans (congrArg some (by kernel_rfl))⟩
  f24 := ⟨Tryz.f136.name, by decide, Tryz.func136.trans (congrArg some (by kernel_rfl))⟩
  f25 := ⟨Tryz.f137.name, by decide, Tryz.func137.trans (congrArg some (by kernel_rfl))⟩
  f26 := ⟨Tryz.f138.name, by decide, Tryz.func138.trans (congrArg some (by kernel_rfl))⟩
  f27 := ⟨Tryz.f139.name, by decide, Tryz.func139.trans (congrArg some (by kernel_rfl))⟩
  f28 := Tryz.func103.trans (congrArg some (by kernel_rfl))
  f29 := Tryz.func104.trans (congrArg some (by kernel_rfl))
  f46 := ⟨Tryz.f156.name, by decide, Tryz.func156.trans (congrArg some (by kernel_rfl))⟩
  f47 := Tryz.func142.trans (congrArg some (by kernel_rfl))
  f48 := Tryz.func143.trans (congrArg some (by kernel_rfl))
  f49 := ⟨Tryz.f157.name, by decide, Tryz.func157.trans (congrArg some (by kernel_rfl))⟩
  f50 := ⟨Tryz.f158.name, by decide, Tryz.func158.trans (congrArg some (by kernel_rfl))⟩
  f57 := ⟨Tryz.f166.name, by decide, Tryz.func166.trans (congrArg some (by kernel_rfl))⟩
  t0 := Tryz.underlying0
  a0 := Tryz.isAgg0
  z0 := Tryz.sizeOf0
  v0 := Tryz.zeroValue0
  t3 := Tryz.underlying3
  a3 := Tryz.isAgg3
  z3 := Tryz.sizeOf3
  v3 := Tryz.zeroValue3
  t4 := Tryz.underlying4
  a4 := Tryz.isAgg4
  z4 := Tryz.sizeOf4
  v4 := Tryz.zeroValue4
  t5 := Tryz.underlying5
  a5 := Tryz.isAgg5
  z5 := Tryz.sizeOf5
  v5 := Tryz.zeroValue5
  t9 := Tryz.underlying9
  a9 := Tryz.isAgg9
  z9 := Tryz.sizeOf9
  v9 := Tryz.zeroValue9
  t22 := Tryz.underlying30
  a22 := Tryz.isAgg30
  z22 := Tryz.sizeOf30
  v22 := Tryz.zeroValue30
  t25 := Tryz.underlying107
  a25 := Tryz.isAgg107
  z25 := Tryz.sizeOf107
  v25 := Tryz.zeroValue107
  t39 := Tryz.underlying115
  a39 := Tryz.isAgg115
  z39 := Tryz.sizeOf115
  v39 := Tryz.zeroValue115
  t45 := Tryz.underlying127
  a45 := Tryz.isAgg127
  z45 := Tryz.sizeOf127
  v45 := Tryz.zeroValue127
  t46 := Tryz.underlying128
  a46 := Tryz.isAgg128
  z46 := Tryz.sizeOf128
  v46 := Tryz.zeroValue128
  t50 := Tryz.underlying132
  a50 := Tryz.isAgg132
  z50 := Tryz.sizeOf132
  v50 := Tryz.zeroValue132
  t53 := Tryz.underlying135
  a53 := Tryz.isAgg135
  z53 := Tryz.sizeOf135
  v53 := Tryz.zeroValue135
  t55 := Tryz.underlying137
  a55 := Tryz.isAgg137
  z55 := Tryz.sizeOf137
  v55 := Tryz.zeroValue137
  t66 := Tryz.underlying165
  a66 := Tryz.isAgg165
  z66 := Tryz.sizeOf165
  v66 := Tryz.zeroValue165
  t70 := Tryz.underlying169
  a70 := Tryz.isAgg169
  z70 := Tryz.sizeOf169
  v70 := Tryz.zeroValue169
  t76 := Tryz.underlying181
  a76 := Tryz.isAgg181
  z76 := Tryz.sizeOf181
  v76 := Tryz.zeroValue181
  t77 := Tryz.underlying182
  a77 := Tryz.isAgg182
  z77 := Tryz.sizeOf182
  v77 := Tryz.zeroValue182 }
def Tryz.sortMv_ren : Go.Shelf.Ren := ⟨fun | 6 => 52 | 15 => 82 | 14 => 81 | 28 => 103 | 29 => 104 | 20 => 94 | 21 => 96 | 22 => 97 | 23 => 98 | 24 => 99 | 25 => 100 | 26 => 101 | 27 => 102 | 46 => 141 | 47 => 142 | 48 => 143 | 49 => 144 | 50 => 145 | 57 => 160 | n => n, fun | 22 => 26 | 24 => 48 | 25 => 71 | 3 => 3 | 39 => 115 | 0 => 0 | 53 => 135 | 55 => 137 | 4 => 4 | 46 => 128 | 45 => 127 | 50 => 132 | 5 => 5 | 9 => 9 | 66 => 165 | 70 => 169 | 76 => 181 | 77 => 182 | n => n, fun | n => n⟩
theorem Tryz.sortMv : Go.Proofs.SlLaysF0.n6 Tryz.prog Tryz.sortMv_ren := {
  mixed := by kernel_rfl
  f6 := ⟨Tryz.f52.name, by decide, Tryz.func52.trans (congrArg some (by kernel_rfl))⟩
  f14 := ⟨Tryz.f81.name, by decide, Tryz.func81.trans (congrArg some (by kernel_rfl))⟩
  f15 := Tryz.func82.trans (congrArg some (by kernel_rfl))
  f20 := ⟨Tryz.f94.name, by decide, Tryz.func94.trans (congrArg some (by kernel_rfl))⟩
  f21 := ⟨Tryz.f96.name, by decide, Tryz.func96.trans (congrArg some (by kernel_rfl))⟩
  f22 := ⟨Tryz.f97.name, by decide, Tryz.func97.trans (congrArg some (by kernel_rfl))⟩
  f23 := ⟨Tryz.f98.name, by decide, Tryz.func98.trans (congrArg some (by kernel_rfl))⟩
  f24 := ⟨Tryz.f99.name, by decide, Tryz.func99.trans (congrArg some (by kernel_rfl))⟩
  f25 := ⟨Tryz.f100.name, by decide, Tryz.func100.trans (congrArg some (by kernel_rfl))⟩
  f26 := ⟨Tryz.f101.name, by decide, Tryz.func101.trans (congrArg some (by kernel_rfl))⟩
  f27 := ⟨Tryz.f102.name, by decide, Tryz.func102.trans (congrArg some (by kernel_rfl))⟩
  f28 := Tryz.func103.trans (congrArg some (by kernel_rfl))
  f29 := Tryz.func104.trans (congrArg some (by kernel_rfl))
  f46 := ⟨Tryz.f141.name, by decide, Tryz.func141.trans (congrArg some (by kernel_rfl))⟩
  f47 := Tryz.func142.trans (congrArg some (by kernel_rfl))
  f48 := Tryz.func143.trans (congrArg some (by kernel_rfl))
  f49 := ⟨Tryz.f144.name, by decide, Tryz.func144.trans (congrArg some (by kernel_rfl))⟩
  f50 := ⟨Tryz.f145.name, by decide, Tryz.func145.trans (congrArg some (by kernel_rfl))⟩
  f57 := ⟨Tryz.f160.name, by decide, Tryz.func160.trans (congrArg some (by kernel_rfl))⟩
  t0 := Tryz.underlying0
  a0 := Tryz.isAgg0
  z0 := Tryz.sizeOf0
  v0 := Tryz.zeroValue0
  t3 := Tryz.underlying3
  a3 := Tryz.isAgg3
  z3 := Tryz.sizeOf3
  v3 := Tryz.zeroValue3
  t4 := Tryz.underlying4
  a4 := Tryz.isAgg4
  z4 := Tryz.sizeOf4
  v4 := Tryz.zeroValue4
  t5 := Tryz.underlying5
  a5 := Tryz.isAgg5
  z5 := Tryz.sizeOf5
  v5 := Tryz.zeroValue5
  t9 := Tryz.underlying9
  a9 := Tryz.isAgg9
  z9 := Tryz.sizeOf9
  v9 := Tryz.zeroValue9
  t22 := Tryz.underlying26
  a22 := Tryz.isAgg26
  z22 := Tryz.sizeOf26
  v22 := Tryz.zeroValue26
  t25 := Tryz.underlying71
  a25 := Tryz.isAgg71
  z25 := Tryz.sizeOf71
  v25 := Tryz.zeroValue71
  t39 := Tryz.underlying115
  a39 := Tryz.isAgg115
  z39 := Tryz.sizeOf115
  v39 := Tryz.zeroValue115
  t45 := Tryz.underlying127
  a45 := Tryz.isAgg127
  z45 := Tryz.sizeOf127
  v45 := Tryz.zeroValue127
  t46 := Tryz.underlying128
  a46 := Tryz.isAgg128
  z46 := Tryz.sizeOf128
  v46 := Tryz.zeroValue128
  t50 := Tryz.underlying132
  a50 := Tryz.isAgg132
  z50 := Tryz.sizeOf132
  v50 := Tryz.zeroValue132
  t53 := Tryz.underlying135
  a53 := Tryz.isAgg135
  z53 := Tryz.sizeOf135
  v53 := Tryz.zeroValue135
  t55 := Tryz.underlying137
  a55 := Tryz.isAgg137
  z55 := Tryz.sizeOf137
  v55 := Tryz.zeroValue137
  t66 := Tryz.underlying165
  a66 := Tryz.isAgg165
  z66 := Tryz.sizeOf165
  v66 := Tryz.zeroValue165
  t70 := Tryz.underlying169
  a70 := Tryz.isAgg169
  z70 := Tryz.sizeOf169
  v70 := Tryz.zeroValue169
  t76 := Tryz.underlying181
  a76 := Tryz.isAgg181
  z76 := Tryz.sizeOf181
  v76 := Tryz.zeroValue181
  t77 := Tryz.underlying182
  a77 := Tryz.isAgg182
  z77 := Tryz.sizeOf182
  v77 := Tryz.zeroValue182 }
end Go.Proofs
end
