/- A part of the proof of a law of this seat: it adds no condition. By an AI agent. -/
import Derived.Test.YtfgcjpkkbhnkgaaGreatDoorMv8
section
set_option linter.all false
set_option maxRecDepth 100000
set_option maxHeartbeats 1000000
namespace Lg
open Go Go.Proofs

/-! ### TopMarkets in plain terms: the moves -/
abbrev kBar : ByteArray := ⟨#[98, 97, 114]⟩
abbrev kA_ : ByteArray := ⟨#[97]⟩
abbrev kB_ : ByteArray := ⟨#[98]⟩
abbrev kC_ : ByteArray := ⟨#[99]⟩
theorem isKey_bar : isKey kBar = true := by decide +kernel
theorem isKey_a : isKey kA_ = true := by decide +kernel
theorem isKey_b : isKey kB_ = true := by decide +kernel
theorem isKey_c : isKey kC_ = true := by decide +kernel
theorem lt_ab : strLt kA_ kB_ = true := by decide +kernel
theorem lt_bc : strLt kB_ kC_ = true := by decide +kernel
theorem lt_ac : strLt kA_ kC_ = true := by decide +kernel
def blkM (s : ByteArray) : Nat → List Int → List Mv
 |_, [] => []
 |j, n :: l => ⟨s, (j : Int) + 1, 0, kBar, n⟩ :: blkM s (j + 1) l
theorem blkM_len (s : ByteArray) : ∀ (l : List Int) (j : Nat), (blkM s j l).length = l.length
 |[], j => rfl
 |n :: l, j => by rw [blkM, List.length_cons, List.length_cons, blkM_len s l]
theorem blkM_snoc (s : ByteArray) (n : Int) : ∀ (l : List Int) (j : Nat), blkM s j (l ++ [n]) = blkM s j l ++ [⟨s, ((j + l.length : Nat) : Int) + 1, 0, kBar, n⟩]
 |[], j => by simp [blkM]
 |m :: l, j => by
  rw [List.cons_append, blkM, blkM_snoc s n l, blkM, List.cons_append, List.length_cons, show j + 1 + l.length = j + (l.length + 1) by omega]
theorem blkM_mem {s : ByteArray} {x : Mv} : ∀ {l : List Int} {j : Nat}, x ∈ blkM s j l → x.site = s ∧ x.ware = kBar ∧ (j : Int) < x.no ∧ x.no ≤ j + l.length
 |[], j, h => by cases h
 |n :: l, j, h => by
  rw [blkM] at h
  rcases List.mem_cons.1 h with rfl | h
  ·refine ⟨rfl, rfl, ?_, ?_⟩
   ·show (j : Int) < (j : Int) + 1; omega
   ·show (j : Int) + 1 ≤ _; rw [List.length_cons]; omega
  ·have := blkM_mem h
   rw [List.length_cons]
   exact ⟨this.1, this.2.1, by omega, by omega⟩
theorem cfM_same {x y : Mv} (h : x.site = y.site) (h2 : x.no < y.no) : cfM x y < 0 := (cfM_lt x y).2 (.inr ⟨h, h2⟩)
theorem cfM_site {x y : Mv} (h : strLt x.site y.site = true) : cfM x y < 0 := (cfM_lt x y).2 (.inl h)
theorem blkM_pw (s : ByteArray) : ∀ (l : List Int) (j : Nat), (blkM s j l).Pairwise Mv.lt
 |[], j => List.Pairwise.nil
 |n :: l, j => by
  rw [blkM, List.pairwise_cons]
  refine ⟨fun y hy => ?_, blkM_pw s l (j + 1)⟩
  have := blkM_mem hy
  refine cfM_same this.1.symm ?_
  show (j : Int) + 1 < y.no
  omega
/-! #### CheckShelf along a list -/
def chM : Option Mv → List Mv → Prop
 |_, [] => True
 |p, x :: l => mvX p x = 0 ∧ chM (some x) l
theorem chM_at : ∀ {l : List Mv} {p : Option Mv}, chM p l → ∀ k x, l[k]? = some x → mvX (match k with | 0 => p | j + 1 => l[j]?) x = 0
 |[], p, _, k, x, hx => by simp at hx
 |y :: l, p, h, k, x, hx => by
  cases k with
  |zero => simp at hx; subst hx; exact h.1
  |succ k =>
   have h2 := chM_at h.2 k x (by simpa using hx)
   cases k with
   |zero => exact h2
   |succ j => exact h2
theorem firstP_all {e : Nat → Int} : ∀ (n k : Nat), (∀ j, k ≤ j → j < k + n → e j = 0) → firstP e k n = (0, 0)
 |0, k, _ => rfl
 |n + 1, k, h => by
  rw [firstP, if_neg (by rw [h k (by omega) (by omega)]; decide)]
  exact firstP_all n (k + 1) fun j h1 h2 => h j (by omega) (by omega)
theorem chM_E {l : List Mv} (h : chM none l) (hl : l.length ≤ 2000) : mvsE l = (0, 0) := by
 unfold mvsE
 rw [if_neg (by omega)]
 refine firstP_all _ _ fun j _ hj => ?_
 obtain ⟨x, hx⟩ := at_lt (l := l) (k := j) (by omega)
 have := chM_at h j x hx
 unfold mvE
 rw [hx]
 simp only
 unfold prvM
 cases j <;> exact this
theorem mvX_ok {p : Option Mv} {x : Mv} (h1 : isKey x.site = true) (h2 : ordP p x = false) (h3 : x.no = bfP p x + 1) (h4 : x.day = 0) (h5 : x.ware = kBar) (h6 : x.many ≠ 0 ∧ -1000 ≤ x.many ∧ x.many ≤ 1000) : mvX p x = 0 := by
 unfold mvX
 rw [if_neg (by rw [h1]; decide), if_neg (by rw [h2]; decide), if_neg (by omega), if_neg (by rw [h5, isKey_bar]; decide), if_neg (by omega)]
def lstM : Option Mv → List Mv → Option Mv
 |p, [] => p
 |_, x :: l => lstM (some x) l
theorem chM_app : ∀ {A B : List Mv} {p : Option Mv}, chM p A → chM (lstM p A) B → chM p (A ++ B)
 |[], B, p, _, h => h
 |x :: A, B, p, h, h2 => ⟨h.1, chM_app h.2 h2⟩
/-- what stands before a block: nothing, a move of the same site, or one of an earlier site -/
def befM (s : ByteArray) (j : Nat) : Option Mv → Prop
 |none => j = 0
 |some y => (y.site = s ∧ y.no = j) ∨ (strLt y.site s = true ∧ j = 0)
theorem chM_blk {s : ByteArray} (hk : isKey s = true) : ∀ {l : List Int} {j : Nat} {p : Option Mv}, befM s j p → (∀ n ∈ l, n ≠ 0 ∧ -1000 ≤ n ∧ n ≤ 1000) → chM p (blkM s j l)
 |[], j, p, _, _ => trivial
 |n :: l, j, p, hb, hv => by
  rw [blkM]
  refine ⟨?_, chM_blk hk (j := j + 1) (p := some ⟨s, (j : Int) + 1, 0, kBar, n⟩) (.inl ⟨rfl, by show (j : Int) + 1 = ((j + 1 : Nat) : Int); omega⟩) (fun m hm => hv m (by simp [hm]))⟩
  have hn := hv n (by simp)
  refine mvX_ok hk ?_ ?_ rfl rfl hn
  ·cases p with
   |none => rfl
   |some y =>
    unfold ordP
    rw [decide_eq_false_iff_not, cfM_neg y]
    have : cfM y ⟨s, (j : Int) + 1, 0, kBar, n⟩ < 0 := by
     rcases hb with ⟨h1, h2⟩ | ⟨h1, h2⟩
     ·exact cfM_same h1 (by show y.no < (j : Int) + 1; omega)
     ·exact cfM_site h1
    omega
  ·cases p with
   |none =>
    have hj : j = 0 := hb
    subst hj
    rfl
   |some y =>
    show (j : Int) + 1 = (if y.site = s then y.no else 0) + 1
    rcases hb with ⟨h1, h2⟩ | ⟨h1, h2⟩
    ·rw [if_pos h1]
     omega
    ·rw [if_neg (fun e => by rw [e, strLt_irrefl] at h1; cases h1), h2]
     rfl
theorem lstM_site {s : ByteArray} : ∀ (l : List Int) (j : Nat) (p : Option Mv), lstM p (blkM s j l) = p ∨ ∃ y, lstM p (blkM s j l) = some y ∧ y.site = s
 |[], j, p => .inl rfl
 |n :: l, j, p => by
  rw [blkM]
  refine .inr ?_
  show ∃ y, lstM (some ⟨s, (j : Int) + 1, 0, kBar, n⟩) (blkM s (j + 1) l) = some y ∧ y.site = s
  rcases lstM_site l (j + 1) (some ⟨s, (j : Int) + 1, 0, kBar, n⟩) with h | h
  ·exact ⟨_, h, rfl⟩
  ·exact h
/-! #### the shelves -/
def nvM (n : List Int) : Prop := n.length ≤ 5 ∧ ∀ x ∈ n, x ≠ 0 ∧ -1000 ≤ x ∧ x ≤ 1000
def shS (F : Nat → List Int) : List Mv := blkM kA_ 0 (F 0) ++ (blkM kB_ 0 (F 1) ++ blkM kC_ 0 (F 2))
def keyM : Nat → ByteArray
 |0 => kA_
 |1 => kB_
 |_ => kC_
theorem shS_len (F : Nat → List Int) (h : ∀ k, nvM (F k)) : (shS F).length ≤ 15 := by
 have h0 := (h 0).1
 have h1 := (h 1).1
 have h2 := (h 2).1
 unfold shS
 rw [List.length_append, List.length_append, blkM_len, blkM_len, blkM_len]
 omega
theorem shS_mem {F : Nat → List Int} {x : Mv} : x ∈ shS F ↔ x ∈ blkM kA_ 0 (F 0) ∨ x ∈ blkM kB_ 0 (F 1) ∨ x ∈ blkM kC_ 0 (F 2) := by
 unfold shS
 rw [List.mem_append, List.mem_append]
theorem shS_ch {F : Nat → List Int} (h : ∀ k, nvM (F k)) : chM none (shS F) := by
 have a1 : chM none (blkM kA_ 0 (F 0)) := chM_blk isKey_a rfl (h 0).2
 have l1 := lstM_site (s := kA_) (F 0) 0 none
 unfold shS
 refine chM_app a1 (chM_app ?_ ?_)
 ·refine chM_blk isKey_b ?_ (h 1).2
  rcases l1 with e | ⟨y, e, hy⟩
  ·rw [e]; exact rfl
  ·rw [e]; exact .inr ⟨by rw [hy]; exact lt_ab, rfl⟩
 ·refine chM_blk isKey_c ?_ (h 2).2
  rcases lstM_site (s := kB_) (F 1) 0 (lstM none (blkM kA_ 0 (F 0))) with e | ⟨y, e, hy⟩
  ·rw [e]
   rcases l1 with e | ⟨y, e, hy⟩
   ·rw [e]; exact rfl
   ·rw [e]; exact .inr ⟨by rw [hy]; exact lt_ac, rfl⟩
  ·rw [e]; exact .inr ⟨by rw [hy]; exact lt_bc, rfl⟩
theorem shS_pw (F : Nat → List Int) : (shS F).Pairwise Mv.lt := by
 unfold shS
 rw [List.pairwise_append, List.pairwise_append]
 refine ⟨blkM_pw _ _ _, ⟨blkM_pw _ _ _, blkM_pw _ _ _, fun x hx y hy => ?_⟩, fun x hx y hy => ?_⟩
 ·refine cfM_site ?_
  rw [(blkM_mem hx).1, (blkM_mem hy).1]
  exact lt_bc
 ·refine cfM_site ?_
  rw [(blkM_mem hx).1]
  rcases List.mem_append.1 hy with h | h
  ·rw [(blkM_mem h).1]; exact lt_ab
  ·rw [(blkM_mem h).1]; exact lt_ac
theorem shS_E {F : Nat → List Int} (h : ∀ k, nvM (F k)) : mvsE (shS F) = (0, 0) := chM_E (shS_ch h) (by have := shS_len F h; omega)
theorem shS_no {F : Nat → List Int} (h : ∀ k, nvM (F k)) : NoBd (shS F) := fun x hx => by
 have h0 := (h 0).1
 have h1 := (h 1).1
 have h2 := (h 2).1
 rcases shS_mem.1 hx with hx | hx | hx
 ·have := blkM_mem hx; omega
 ·have := blkM_mem hx; omega
 ·have := blkM_mem hx; omega
theorem blkM_no {s : ByteArray} {n : List Int} (h : nvM n) : NoBd (blkM s 0 n) := fun x hx => by
 have := blkM_mem hx
 have := h.1
 omega
/-! #### what is put together -/
theorem adjC_dd : ∀ {l : List Mv}, (∀ x ∈ l, ∀ y ∈ l, cfM x y = 0 → x = y) → adjC (dd l) = false
 |[], _ => rfl
 |[a], _ => rfl
 |a :: b :: l, h => by
  have ih := adjC_dd (l := b :: l) fun x hx y hy => h x (by simp [List.mem_cons.1 hx]) y (by simp [List.mem_cons.1 hy])
  unfold dd
  split
  ·exact ih
  ·rename_i hne
   obtain ⟨r, hr⟩ := dd_head b l
   rw [hr] at ih ⊢
   rw [adjC, ih, Bool.or_false, decide_eq_false_iff_not]
   exact fun e => hne (h a (by simp) b (by simp) e)
theorem tog_union {c S : List Mv} (hS : S.Pairwise Mv.lt) (hm : ∀ x, x ∈ c ↔ x ∈ S) : adjC (tgD c) = false ∧ tgD c = S := by
 have hu : ∀ x ∈ isort ltM c, ∀ y ∈ isort ltM c, cfM x y = 0 → x = y := fun x hx y hy e => by
  have hx2 := (hm x).1 ((isort_perm ltM c).mem_iff.1 hx)
  have hy2 := (hm y).1 ((isort_perm ltM c).mem_iff.1 hy)
  rcases pw_mem hS x hx2 y hy2 with h | h | h
  ·exact h
  ·unfold Mv.lt at h; omega
  ·unfold Mv.lt at h; rw [cfM_neg] at h; omega
 have ha := adjC_dd hu
 refine ⟨ha, ?_⟩
 refine strict_uniq (lt := Mv.lt) Mv.lt_irrefl Mv.lt_trans (strict_of (ddM_sorted c) ha) hS fun x => ?_
 rw [ddM_mem]
 exact hm x
theorem tog_step {F N : Nat → List Int} {k : Nat} (hN : ∀ k, nvM (N k)) (hF : ∀ j, F j = [] ∨ F j = N j) (hk : k < 3) : togR (shS F) (blkM (keyM k) 0 (N k)) = (shS (fun j => if j = k then N k else F j), 0) := by
 have hFv : ∀ k, nvM (F k) := fun j => by
  rcases hF j with h | h
  ·rw [h]; exact ⟨by simp, fun x hx => by cases hx⟩
  ·rw [h]; exact hN j
 have hGv : ∀ j, nvM ((fun j => if j = k then N k else F j) j) := fun j => by
  by_cases h : j = k
  ·simp only [if_pos h]; exact hN k
  ·simp only [if_neg h]; exact hFv j
 have hE := shS_E hFv
 have hG := shS_E hGv
 have hm : ∀ x, x ∈ shS F ++ blkM (keyM k) 0 (N k) ↔ x ∈ shS (fun j => if j = k then N k else F j) := fun x => by
  rw [List.mem_append, shS_mem, shS_mem]
  have hFx : ∀ (s : ByteArray) (j : Nat), x ∈ blkM s 0 (F j) → x ∈ blkM s 0 (N j) := fun s j h => by
   rcases hF j with e | e
   ·rw [e] at h; cases h
   ·rw [e] at h; exact h
  rcases (show k = 0 ∨ k = 1 ∨ k = 2 by omega) with rfl | rfl | rfl
  ·simp only [keyM, if_pos, if_neg, Nat.reduceEqDiff, ↓reduceIte]
   constructor
   ·rintro ((h | h | h) | h)
    ·exact .inl (hFx _ _ h)
    ·exact .inr (.inl h)
    ·exact .inr (.inr h)
    ·exact .inl h
   ·rintro (h | h | h)
    ·exact .inr h
    ·exact .inl (.inr (.inl h))
    ·exact .inl (.inr (.inr h))
  ·simp only [keyM, Nat.reduceEqDiff, ↓reduceIte]
   constructor
   ·rintro ((h | h | h) | h)
    ·exact .inl h
    ·exact .inr (.inl (hFx _ _ h))
    ·exact .inr (.inr h)
    ·exact .inr (.inl h)
   ·rintro (h | h | h)
    ·exact .inl (.inl h)
    ·exact .inr h
    ·exact .inl (.inr (.inr h))
  ·simp only [keyM, Nat.reduceEqDiff, ↓reduceIte]
   constructor
   ·rintro ((h | h | h) | h)
    ·exact .inl h
    ·exact .inr (.inl h)
    ·exact .inr (.inr (hFx _ _ h))
    ·exact .inr (.inr h)
   ·rintro (h | h | h)
    ·exact .inl (.inl h)
    ·exact .inl (.inr (.inl h))
    ·exact .inr h
 obtain ⟨h1, h2⟩ := tog_union (shS_pw _) hm
 unfold togR togX
 rw [hE, if_neg (by decide), if_neg (by rw [h1]; decide), h2, hG, if_neg (by decide)]
/-! #### nothing is missing -/
def totM (l : List Int) : Int := l.foldr (· + ·) 0
theorem totM_snoc (l : List Int) (x : Int) : totM (l ++ [x]) = totM l + x := by
 induction l with
 |nil => show x + 0 = 0 + x; omega
 |cons y l ih => show y + totM (l ++ [x]) = y + totM l + x; omega
theorem mS_app (k : ByteArray) : ∀ a b : PS, mS k (a ++ b) = mS k a + mS k b
 |[], b => by rw [List.nil_append, mS]; omega
 |p :: a, b => by rw [List.cons_append, mS, mS, mS_app k a]; omega
theorem mS_blk (s k : ByteArray) : ∀ (l : List Int) (j : Nat), mS k ((blkM s j l).map mvP) = if k = kBar then totM l else 0
 |[], j => by rw [blkM, List.map_nil, mS]; split <;> rfl
 |n :: l, j => by
  rw [blkM, List.map_cons, mS, mS_blk s k l]
  show (if k = kBar then n else 0) + _ = _
  split
  ·rfl
  ·rfl
theorem thefts_none {F : Nat → List Int} {v : Int} (hv : totM (F 0) + totM (F 1) + totM (F 2) = v) : thV (shS F) [⟨kBar, v⟩] = [] := by
 cases h : thV (shS F) [⟨kBar, v⟩] with
 |nil => rfl
 |cons x r =>
  exfalso
  have hx : x ∈ thV (shS F) [⟨kBar, v⟩] := by rw [h]; simp
  unfold thV at hx
  obtain ⟨h1, h2⟩ := List.mem_filter.1 hx
  have hz : x.many ≠ 0 := by unfold nz at h2; simpa using h2
  rw [(isort_perm nmLt _).mem_iff, mem_nz (th_nodup _ _) x hz] at h1
  unfold thM at h1
  rw [mI_sum] at h1
  unfold smV at h1
  rw [mI_sum] at h1
  unfold shS at h1
  rw [List.map_append, List.map_append, mS_app, mS_app, mS_blk, mS_blk, mS_blk] at h1
  simp only [List.map_cons, List.map_nil, mS, mI] at h1
  split at h1 <;> omega
theorem cnt_ok {v : Int} (hv : 0 ≤ v ∧ v ≤ 1000000) : cntErr [⟨kBar, v⟩] = 0 := by
 unfold cntErr
 rw [if_neg (by simp)]
 have : cnE [⟨kBar, v⟩] 0 = 0 := by
  show cnX none ⟨kBar, v⟩ = 0
  unfold cnX
  rw [if_neg (by rw [isKey_bar]; decide), if_neg (by show ¬ false = true; decide), if_neg (by show ¬ (v < 0 ∨ 1000000 < v); omega)]
 show (if cnE [⟨kBar, v⟩] 0 ≠ 0 then cnE [⟨kBar, v⟩] 0 else 0) = 0
 rw [this]
 rfl
end Lg
end
section
set_option linter.all false
set_option maxRecDepth 100000
set_option maxHeartbeats 4000000
namespace Lg
open Go Go.Proofs

theorem grow_fn (n : Nat) (hn : n ≤ 1000000) : PFnO Tryz.prog 114 [Tr.raw (.slice none 0 0), .int n] 1 3 (· = []) := by
 unfold PFnO
 refine Spec.body Tryz.func114 rfl rfl (Tryz.ntmps114) rfl fun w0 own0 M => ?_
 refine Cw.ent (Ent.nil 1 3) ?_
 by_cases h0 : 0 < n
 ·repeat' (first | refine goH ?_ | refine goV ?_ | refine goC (fun ad cap => ?_) | refine goI ?_ | (refine Cw.k_cond ?_; first | (refine Cw.cond_dec rfl ?_ ?_ <;> intro hc <;> try omega) | refine Cw.cond_bool rfl ?_ ?_ <;> intro hc) | (refine Ops.val' rfl (OpV.cap Tryz.underlying22 rfl) ?_) | (refine Ops.append_zeros (n := n) Tryz.underlying3 rfl ?_ h0 (by omega) (by omega) rfl (fun ad cap => ?_)) | fail)
  ·show some (Tr.int ((n : Int) - (((0 : Nat) : Int) - ((0 : Nat) : Int)))) = some (Tr.int (n : Int))
   rw [show (n : Int) - (((0 : Nat) : Int) - ((0 : Nat) : Int)) = (n : Int) by omega]
  ·exact Fin.ret (Ent.take goTk) (Outs.one rfl rfl) ⟨_, _, [], rfl, rfl, rfl⟩
 ·repeat' (first | refine goH ?_ | refine goV ?_ | refine goC (fun ad cap => ?_) | refine goI ?_ | (refine Cw.k_cond ?_; first | (refine Cw.cond_dec rfl ?_ ?_ <;> intro hc <;> try omega) | refine Cw.cond_bool rfl ?_ ?_ <;> intro hc) | (refine Ops.val' rfl (OpV.cap Tryz.underlying22 rfl) ?_) | fail)
  exact Fin.ret (Ent.take goTk) (Outs.one rfl rfl) ⟨none, 0, [], rfl, rfl, rfl⟩

def intsR (L : List (List Int)) : List (List Tr) := L.map fun l => [.ints l]
theorem intsR_len (L : List (List Int)) : (intsR L).length = L.length := by simp [intsR]
theorem intsR_at {L : List (List Int)} {k : Nat} {l : List Int} (h : L[k]? = some l) : (intsR L)[k]? = some [.ints l] := rows_at h
theorem flat_take {L : List (List Int)} {k : Nat} {l : List Int} (h : L[k]? = some l) : (L.take (k + 1)).flatten = (L.take k).flatten ++ l := by rw [take_at h, List.flatten_append]; simp
theorem flat_le (L : List (List Int)) (k : Nat) : (L.take k).flatten.length ≤ L.flatten.length := by
 have h := List.take_append_drop k L
 have h2 := congrArg (fun l => l.flatten.length) h
 simp only [List.flatten_append, List.length_append] at h2
 omega
theorem concat_fn (L : List (List Int)) (h1 : L.length ≤ 1000) (h2 : L.flatten.length ≤ 1000000) : PFnO Tryz.prog 69 [.sl 1 (intsR L)] 1 3 (· = intRows L.flatten) := by
 have hL := intsR_len L
 unfold PFnO
 refine Spec.body Tryz.func69 rfl rfl (Tryz.ntmps69) rfl fun w0 own0 M => ?_
 repeat' (first | refine goH ?_ | refine goV ?_ | refine goC (fun ad cap => ?_) | refine goI ?_ | (refine Cw.k_cond ?_; first | (refine Cw.cond_dec rfl ?_ ?_ <;> intro hc <;> try omega) | refine Cw.cond_bool rfl ?_ ?_ <;> intro hc) | fail)
 refine Cw.loopI [(0, _), (9, _), (10, _)] _ (fun q e cc => ∃ (k : Nat), q = L.length - k ∧ (k ≤ L.length) ∧ e = [(3, .int ((L.take k).flatten.length : Nat)), (11, .int k)] ∧ cc = []) ⟨_, _, _, (Ent.mkP goSub goPm), 0, rfl, by omega, rfl, rfl⟩ ?_
 rintro _ _ _ ⟨k, rfl, hk, rfl, rfl⟩
 by_cases hkl : k < L.length
 ·obtain ⟨l, hl⟩ := at_lt hkl
  have hrow := intsR_at hl
  have hst := congrArg List.length (flat_take hl)
  rw [List.length_append] at hst
  have hb := flat_le L (k + 1)
  have hlr := intRows_len l
  repeat' (first | refine goH ?_ | refine goV ?_ | refine goC (fun ad cap => ?_) | refine goI ?_ | (refine Cw.k_cond ?_; first | (refine Cw.cond_dec rfl ?_ ?_ <;> intro hc <;> try omega) | refine Cw.cond_bool rfl ?_ ?_ <;> intro hc) | fail)
  exact ⟨_, _, _, Ent.mk (by first | (refine Sub.cons (by show some (Tr.int _) = some (Tr.int _); congr 2; omega) ?_; repeat' (first | exact Sub.nil | refine Sub.cons rfl ?_))) goTk, ⟨k + 1, rfl, by omega, rfl, rfl⟩, by omega⟩
 ·have hkk : k = L.length := by omega
  subst hkk
  have hg := grow_fn L.flatten.length h2
  rw [List.take_of_length_le (Nat.le_refl _)]
  generalize hN : L.flatten.length = N at *
  repeat' (first | refine goH ?_ | refine goV ?_ | refine goC (fun ad cap => ?_) | refine goI ?_ | (refine Cw.k_cond ?_; first | (refine Cw.cond_dec rfl ?_ ?_ <;> intro hc <;> try omega) | refine Cw.cond_bool rfl ?_ ?_ <;> intro hc) | (refine Ops.k_calla ?_; first | (refine Ops.k_callf 114 ?_; (refine Ops.callO hg (Evs.cons rfl (Evs.cons rfl Evs.nil)) rfl (fun ad cap rows hr => ?_); subst hr))) | fail)
  refine Cw.loopI [(25, _), (26, _)] _ (fun q e cc => ∃ (k : Nat) (ad : Option Addr) (cap : Nat) (rows : List (List Tr)), q = L.length - k ∧ (k ≤ L.length ∧ rows = intRows (L.take k).flatten ∧ rows.length ≤ N) ∧ e = [(6, Tr.raw (.slice ad rows.length cap)), (27, .int k)] ∧ cc = [Chunk.own ad cap 1 3 rows])
   ⟨_, _, _, (Ent.mkP goSub goPm), 0, ad, cap, [], rfl, ⟨by omega, rfl, by simp⟩, rfl, rfl⟩ ?_
  clear ad cap
  rintro _ _ _ ⟨k, ad, cap, rows, rfl, ⟨hk, hrows, hrl⟩, rfl, rfl⟩
  by_cases hkl : k < L.length
  ·obtain ⟨l, hl⟩ := at_lt hkl
   have hrow := intsR_at hl
   have hst := flat_take hl
   have hb := flat_le L (k + 1)
   have hlr := intRows_len l
   have key : rows ++ intRows l = intRows (L.take (k + 1)).flatten := by rw [hst, intRows_app, hrows]
   have hkl2 := congrArg List.length key
   rw [List.length_append, intRows_len, intRows_len] at hkl2
   repeat' (first | refine goH ?_ | refine goV ?_ | refine goC (fun ad cap => ?_) | refine goI ?_ | (refine Cw.k_cond ?_; first | (refine Cw.cond_dec rfl ?_ ?_ <;> intro hc <;> try omega) | refine Cw.cond_bool rfl ?_ ?_ <;> intro hc) | fail)
   exact ⟨_, _, _, (Ent.mk goSub goTk), ⟨k + 1, _, _, _, rfl, ⟨by omega, key, by rw [List.length_append, intRows_len]; omega⟩, rfl, rfl⟩, by omega⟩
  ·rw [List.take_of_length_le (by omega)] at hrows
   repeat' (first | refine goH ?_ | refine goV ?_ | refine goC (fun ad cap => ?_) | refine goI ?_ | (refine Cw.k_cond ?_; first | (refine Cw.cond_dec rfl ?_ ?_ <;> intro hc <;> try omega) | refine Cw.cond_bool rfl ?_ ?_ <;> intro hc) | fail)
   exact Fin.ret (Ent.take goTk) (Outs.one rfl rfl) ⟨ad, cap, rows, rfl, rfl, hrows⟩
end Lg
end
section
set_option linter.all false
set_option maxRecDepth 100000
set_option maxHeartbeats 4000000
namespace Lg
open Go Go.Proofs

def strRows (l : List ByteArray) : List (List Tr) := l.map fun x => [Tr.str x]
abbrev Tr.strs (l : List ByteArray) : Tr := Tr.sl 1 (strRows l)
theorem strRows_len (l : List ByteArray) : (strRows l).length = l.length := by simp [strRows]
theorem strRows_at {l : List ByteArray} {j : Nat} {x : ByteArray} (h : l[j]? = some x) : (strRows l)[j]? = some [Tr.str x] := rows_at h
theorem strRows_app (a b : List ByteArray) : strRows (a ++ b) = strRows a ++ strRows b := by simp [strRows]
end Lg
end
