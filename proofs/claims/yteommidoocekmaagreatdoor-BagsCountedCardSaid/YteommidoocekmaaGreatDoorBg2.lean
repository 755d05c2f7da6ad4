/- A part of the proof of a law of this seat: it adds no condition. By an AI agent. -/
import Derived.Test.YteommidoocekmaaGreatDoorLgClr
import Derived.Test.YteommidoocekmaaGreatDoorDelF
section
set_option linter.all false
set_option maxRecDepth 100000
set_option maxHeartbeats 1000000
namespace Lg
open Go Go.Proofs

def sumQ : List Int → Int
  | [] => 0
  | x :: l => x + sumQ l
theorem sumQ_app (a b : List Int) : sumQ (a ++ b) = sumQ a + sumQ b := by
  induction a with
  | nil => simp [sumQ]
  | cons x a ih => rw [List.cons_append, sumQ, sumQ, ih]; omega
theorem sumQ_take {l : List Int} {k : Nat} {x : Int} (h : l[k]? = some x) : sumQ (l.take (k + 1)) = sumQ (l.take k) + x := by
  rw [List.take_succ, h, sumQ_app]
  simp [sumQ]
theorem sumQ_nn {l : List Int} (h : ∀ x ∈ l, 0 ≤ x) : 0 ≤ sumQ l := by
  induction l with
  | nil => simp [sumQ]
  | cons x l ih =>
    have h1 := h x (by simp)
    have h2 := ih (fun y hy => h y (by simp [hy]))
    rw [sumQ]
    omega
theorem sumQ_abs {l : List Int} {B : Int} (h : ∀ x ∈ l, -B ≤ x ∧ x ≤ B) : -((l.length : Int) * B) ≤ sumQ l ∧ sumQ l ≤ (l.length : Int) * B := by
  induction l with
  | nil => simp [sumQ]
  | cons x l ih =>
    have h1 := h x (by simp)
    have h2 := ih (fun y hy => h y (by simp [hy]))
    rw [sumQ, List.length_cons, show ((l.length + 1 : Nat) : Int) * B = (l.length : Int) * B + B by rw [Int.natCast_add, Int.add_mul]; simp]
    omega
/-! ### Pascal's rows -/
def bin : Nat → Nat → Nat
  | _, 0 => 1
  | 0, _ + 1 => 0
  | n + 1, i + 1 => bin n i + bin n (i + 1)
theorem bin_zero (n : Nat) : bin n 0 = 1 := by cases n <;> rfl
theorem bin_big : ∀ (n i : Nat), n < i → bin n i = 0
  | 0, i + 1, _ => rfl
  | n + 1, i + 1, h => by rw [bin, bin_big n i (by omega), bin_big n (i + 1) (by omega)]
theorem bin_self : ∀ n, bin n n = 1
  | 0 => rfl
  | n + 1 => by rw [bin, bin_self n, bin_big n (n + 1) (by omega)]
def rowP (n : Nat) : List Int := (List.range (n + 1)).map fun i => (bin n i : Int)
theorem rowP_len (n : Nat) : (rowP n).length = n + 1 := by simp [rowP]
theorem rowP_at {n i : Nat} (h : i ≤ n) : (rowP n)[i]? = some (bin n i : Int) := by
  unfold rowP
  rw [List.getElem?_map, List.getElem?_range (by omega)]
  rfl
def sumB (n : Nat) : Nat → Nat
  | 0 => 0
  | i + 1 => sumB n i + bin n i
theorem sumB_step (n : Nat) : ∀ i, sumB (n + 1) (i + 1) = sumB n i + sumB n (i + 1)
  | 0 => by simp [sumB, bin_zero]
  | i + 1 => by
    rw [sumB, sumB_step n i, bin]
    simp only [sumB]
    omega
theorem sumB_all : ∀ n, sumB n (n + 1) = 2 ^ n
  | 0 => rfl
  | n + 1 => by
    have h := bin_big n (n + 1) (by omega)
    rw [sumB_step, sumB_all n, sumB, sumB_all n, h, Nat.pow_succ]
    omega
theorem bin_le (n i : Nat) : bin n i ≤ 2 ^ n := by
  by_cases h : n < i
  · rw [bin_big n i h]; exact Nat.zero_le _
  · have mono : ∀ a b, a ≤ b → sumB n a ≤ sumB n b := by
      intro a b hab
      induction hab with
      | refl => exact Nat.le_refl _
      | step _ ih => exact Nat.le_trans ih (Nat.le_add_right _ _)
    have h1 := mono (i + 1) (n + 1) (by omega)
    rw [sumB_all, sumB] at h1
    omega
theorem sumQ_row (n : Nat) : ∀ i, i ≤ n + 1 → sumQ ((rowP n).take i) = (sumB n i : Int)
  | 0, _ => rfl
  | i + 1, h => by
    rw [sumQ_take (rowP_at (by omega)), sumQ_row n i (by omega), sumB]
    omega
theorem row_tail (n k : Nat) (h : k ≤ n + 1) : sumQ ((rowP n).drop k) = ((2 ^ n - sumB n k : Nat) : Int) ∧ sumB n k ≤ 2 ^ n := by
  have h1 := sumQ_app ((rowP n).take k) ((rowP n).drop k)
  rw [List.take_append_drop, sumQ_row n k h] at h1
  have h2 := sumQ_row n (n + 1) (Nat.le_refl _)
  rw [List.take_of_length_le (by rw [rowP_len]; exact Nat.le_refl _), sumB_all] at h2
  have h3 : 0 ≤ sumQ ((rowP n).drop k) := sumQ_nn fun x hx => by
    have := List.mem_of_mem_drop hx
    unfold rowP at this
    obtain ⟨i, _, rfl⟩ := List.mem_map.1 this
    omega
  generalize 2 ^ n = Q at *
  omega
/-- in how many ways at least k of n coins show heads -/
def headsP (n k : Nat) : Int := sumQ ((rowP n).drop k)
theorem headsP_bd {n k : Nat} (h : k ≤ n + 1) : 0 ≤ headsP n k ∧ headsP n k ≤ ((2 ^ n : Nat) : Int) := by
  have := (row_tail n k h).1
  unfold headsP
  generalize 2 ^ n = Q at *
  omega
/-- how the program makes the next row -/
theorem row_next {n i : Nat} (h1 : 1 ≤ i) (h2 : i ≤ n) : ((bin n (i - 1) : Nat) : Int) + (bin n i : Nat) = (bin (n + 1) i : Nat) := by
  obtain ⟨j, rfl⟩ : ∃ j, i = j + 1 := ⟨i - 1, by omega⟩
  rw [bin]
  simp
end Lg
end
section
set_option linter.all false
set_option maxRecDepth 100000
set_option maxHeartbeats 8000000
namespace Lg
open Go Go.Proofs

/-! ### bags -/
structure Bag where
  day : Int
  who : ByteArray
  mtr : Int
  fnd : Int
def Bag.row (x : Bag) : List Tr := [.int x.day, .str x.who, .int x.mtr, .int x.fnd]
abbrev Tr.bags (l : List Bag) : Tr := Tr.sl 4 (l.map Bag.row)
def bgX (x : Bag) : Int := if x.day < 0 ∨ 4000 < x.day then 1 else if isKey x.who = false then 5 else if x.mtr < 0 ∨ 10000000 < x.mtr then 1 else if x.fnd < 0 ∨ 10000000 < x.fnd then 1 else 0
def bgE (l : List Bag) (k : Nat) : Int := match l[k]? with
  | none => 0
  | some x => bgX x
def bagsE (l : List Bag) : Int := if l.length > 500 then 2 else firstE (bgE l) 0 l.length
structure BgF (E : Int) (x : Bag) (q ob : Bool) (N : Int) : Prop where
  e1 : (!ob) = true → E = 1
  e5 : (!ob) = false → (!q) = true → E = 5
  e2 : (!ob) = false → (!q) = false → (x.mtr < 0 ∨ 10000000 < x.mtr) → E = 1
  e3 : (!ob) = false → (!q) = false → ¬ (x.mtr < 0 ∨ 10000000 < x.mtr) → (x.fnd < 0 ∨ 10000000 < x.fnd) → E = 1
  ok : (!ob) = false → (!q) = false → ¬ (x.mtr < 0 ∨ 10000000 < x.mtr) → ¬ (x.fnd < 0 ∨ 10000000 < x.fnd) → E = N
theorem dayB_t {n : Int} : dayB n = true ↔ ¬ (n < 0 ∨ 4000 < n) := by
  unfold dayB outB
  rw [Bool.not_eq_true', decide_eq_false_iff_not]
theorem bgF {l : List Bag} {k : Nat} {x : Bag} {E : Int} (hx : l[k]? = some x) (hV : E = firstE (bgE l) k (l.length - k)) (hkl : k < l.length) : BgF E x (isKey x.who) (dayB x.day) (firstE (bgE l) (k + 1) (l.length - (k + 1))) := by
  have he : bgE l k = bgX x := by unfold bgE; rw [hx]
  have fin : ∀ c : Int, bgX x = c → c ≠ 0 → E = c := fun c h1 h2 => hV.trans (firstE_bad hkl (he.trans h1) h2)
  have nxt : bgX x = 0 → E = firstE (bgE l) (k + 1) (l.length - (k + 1)) := fun h1 => hV.trans (firstE_ok hkl (he.trans h1))
  clear hV he
  have hd := @dayB_t x.day
  unfold bgX at fin nxt
  generalize dayB x.day = ob at *
  generalize isKey x.who = q1 at *
  have hf : (!ob) = true → (x.day < 0 ∨ 4000 < x.day) := fun h => by
    cases ob
    · exact Classical.byContradiction fun h2 => by simpa using hd.2 h2
    · simp at h
  have ht : (!ob) = false → ¬ (x.day < 0 ∨ 4000 < x.day) := fun h => hd.1 (by simpa using h)
  refine ⟨?_, ?_, ?_, ?_, ?_⟩
  · intro h; exact fin 1 (by rw [if_pos (hf h)]) (by decide)
  · intro h h2; exact fin 5 (by rw [if_neg (ht h), if_pos (by simpa using h2)]) (by decide)
  · intro h h2 h3; exact fin 1 (by rw [if_neg (ht h), if_neg (by simpa using h2), if_pos h3]) (by decide)
  · intro h h2 h3 h4; exact fin 1 (by rw [if_neg (ht h), if_neg (by simpa using h2), if_neg h3, if_pos h4]) (by decide)
  · intro h h2 h3 h4; exact nxt (by rw [if_neg (ht h), if_neg (by simpa using h2), if_neg h3, if_neg h4])
theorem bags_ok {l : List Bag} (h : bagsE l = 0) : l.length ≤ 500 ∧ ∀ x ∈ l, isKey x.who = true ∧ 0 ≤ x.mtr ∧ x.mtr ≤ 10000000 ∧ 0 ≤ x.fnd ∧ x.fnd ≤ 10000000 := by
  unfold bagsE at h
  split at h
  · cases h
  refine ⟨by omega, fun x hx => ?_⟩
  obtain ⟨i, hi⟩ := List.getElem?_of_mem hx
  have hlt := (List.getElem?_eq_some_iff.1 hi).1
  have := firstE_zero h i (Nat.zero_le _) (by omega)
  unfold bgE at this
  rw [hi] at this
  simp only at this
  unfold bgX at this
  split at this
  · cases this
  split at this
  · cases this
  split at this
  · cases this
  split at this
  · cases this
  rename_i h1 h2 h3 h4
  exact ⟨by simpa using h2, by omega⟩
theorem checkBags_fn (l : List Bag) (hl : l.length ≤ 1000000) : PFn Tryz.prog 11 [.bags l] (· = .int (bagsE l)) := by
  refine PFn.mk (Spec.body Tryz.func11 rfl rfl (Tryz.ntmps11) rfl fun w0 own0 M => ?_)
  have hL : (l.map Bag.row).length = l.length := List.length_map _
  by_cases h500 : l.length > 500
  · rw [show bagsE l = 2 by unfold bagsE; rw [if_pos h500]]
    repeat' (first | refine goH ?_ | refine goV ?_ | refine goB (fun b => ?_) | refine goG ?_ | (refine Ops.k_guard ?_; first | (refine Ops.guard_dec rfl rfl (fun hc => ?_) (fun hc => ?_) <;> try (exfalso; omega)) | refine Ops.guard_split rfl rfl (fun hc => ?_) (fun hc => ?_)) | refine goI ?_ | (refine Cw.k_cond ?_; first | (refine Cw.cond_dec rfl (fun hc => ?_) (fun hc => ?_) <;> try (exfalso; omega)) | refine Cw.cond_bool rfl (fun hc => ?_) (fun hc => ?_)) | fail)
    exact Fin.ret (Ent.take goTk) (Outs.one rfl rfl) ⟨rfl, rfl⟩
  have hV0 : bagsE l = firstE (bgE l) 0 (l.length - 0) := by unfold bagsE; rw [if_neg h500]; rfl
  generalize bagsE l = E at *
  repeat' (first | refine goH ?_ | refine goV ?_ | refine goB (fun b => ?_) | refine goG ?_ | (refine Ops.k_guard ?_; first | (refine Ops.guard_dec rfl rfl (fun hc => ?_) (fun hc => ?_) <;> try (exfalso; omega)) | refine Ops.guard_split rfl rfl (fun hc => ?_) (fun hc => ?_)) | refine goI ?_ | (refine Cw.k_cond ?_; first | (refine Cw.cond_dec rfl (fun hc => ?_) (fun hc => ?_) <;> try (exfalso; omega)) | refine Cw.cond_bool rfl (fun hc => ?_) (fun hc => ?_)) | fail)
  refine Cw.loopI [(8, _), (9, _)] _ (fun n e c => ∃ k : Nat, n = l.length - k ∧ (k ≤ l.length ∧ E = firstE (bgE l) k (l.length - k)) ∧ e = [(10, .int k)] ∧ c = []) ⟨_, _, _, (Ent.mkP goSub goPm), 0, rfl, ⟨by omega, hV0⟩, rfl, rfl⟩ ?_
  clear hV0
  rintro _ _ _ ⟨k, rfl, ⟨hk, hV⟩, rfl, rfl⟩
  by_cases hkl : k < l.length
  rotate_left
  · rw [firstE_end hkl] at hV
    subst hV
    repeat' (first | refine goH ?_ | refine goV ?_ | refine goB (fun b => ?_) | refine goG ?_ | (refine Ops.k_guard ?_; first | (refine Ops.guard_dec rfl rfl (fun hc => ?_) (fun hc => ?_) <;> try (exfalso; omega)) | refine Ops.guard_split rfl rfl (fun hc => ?_) (fun hc => ?_)) | refine goI ?_ | (refine Cw.k_cond ?_; first | (refine Cw.cond_dec rfl (fun hc => ?_) (fun hc => ?_) <;> try (exfalso; omega)) | refine Cw.cond_bool rfl (fun hc => ?_) (fun hc => ?_)) | fail)
    exact Fin.ret (Ent.take goTk) (Outs.one rfl rfl) ⟨rfl, rfl⟩
  obtain ⟨x, hx⟩ := at_lt hkl
  have hrow : (l.map Bag.row)[k]? = some [.int x.day, .str x.who, .int x.mtr, .int x.fnd] := rows_at hx
  have k1 := key_fn x.who
  have k2 := day_fn x.day
  have k3 := out_fn x.mtr 0 10000000
  have k4 := out_fn x.fnd 0 10000000
  have F := bgF hx hV hkl
  generalize isKey x.who = q1 at *
  generalize dayB x.day = q2 at *
  clear hV hx
  repeat' (first | refine goH ?_ | refine goV ?_ | refine goB (fun b => ?_) | refine goG ?_ | (refine Ops.k_guard ?_; first | (refine Ops.guard_dec rfl rfl (fun hc => ?_) (fun hc => ?_) <;> try (exfalso; omega)) | refine Ops.guard_split rfl rfl (fun hc => ?_) (fun hc => ?_)) | refine goI ?_ | (refine Cw.k_cond ?_; first | (refine Cw.cond_dec rfl (fun hc => ?_) (fun hc => ?_) <;> try (exfalso; omega)) | refine Cw.cond_bool rfl (fun hc => ?_) (fun hc => ?_)) | (refine Ops.k_calla ?_; first | (refine Ops.k_callf 31 ?_; refine Ops.callV k1 (Evs.cons rfl Evs.nil) rfl ?_) | (refine Ops.k_callf 30 ?_; refine Ops.callV k2 (Evs.cons rfl Evs.nil) rfl ?_) | (refine Ops.k_callf 24 ?_; refine Ops.callV k3 (Evs.cons rfl (Evs.cons rfl (Evs.cons rfl Evs.nil))) rfl ?_) | (refine Ops.k_callf 24 ?_; refine Ops.callV k4 (Evs.cons rfl (Evs.cons rfl (Evs.cons rfl Evs.nil))) rfl ?_)) | fail)
  all_goals first
    | (exfalso; omega)
    | exact ⟨_, _, _, (Ent.mk goSub goTk), ⟨k + 1, rfl, ⟨by omega, F.ok (by assumption) (by assumption) (by omega) (by omega)⟩, rfl, rfl⟩, by omega⟩
    | (refine Fin.ret (Ent.take goTk) (Outs.one rfl rfl) ⟨rfl, ?_⟩; first | (rw [F.e1 (by assumption)]; done) | (rw [F.e5 (by assumption) (by assumption)]; done) | (rw [F.e2 (by assumption) (by assumption) (by omega)]; done) | (rw [F.e3 (by assumption) (by assumption) (by omega) (by omega)]; done))
theorem bagsFault_fn (l : List Bag) (hl : l.length ≤ 1000000) : PFn Tryz.prog 10 [.bags l] (· = .int (bagsE l)) := by
  refine PFn.mk (Spec.body Tryz.func10 rfl rfl (Tryz.ntmps10) rfl fun w0 own0 M => ?_)
  have hL : (l.map Bag.row).length = l.length := List.length_map _
  by_cases h500 : l.length > 500
  · rw [show bagsE l = 2 by unfold bagsE; rw [if_pos h500]]
    repeat' (first | refine goH ?_ | refine goV ?_ | refine goB (fun b => ?_) | refine goG ?_ | (refine Ops.k_guard ?_; first | (refine Ops.guard_dec rfl rfl (fun hc => ?_) (fun hc => ?_) <;> try (exfalso; omega)) | refine Ops.guard_split rfl rfl (fun hc => ?_) (fun hc => ?_)) | refine goI ?_ | (refine Cw.k_cond ?_; first | (refine Cw.cond_dec rfl (fun hc => ?_) (fun hc => ?_) <;> try (exfalso; omega)) | refine Cw.cond_bool rfl (fun hc => ?_) (fun hc => ?_)) | fail)
    exact Fin.ret (Ent.take goTk) (Outs.one rfl rfl) ⟨rfl, rfl⟩
  have hV0 : bagsE l = firstE (bgE l) 0 (l.length - 0) := by unfold bagsE; rw [if_neg h500]; rfl
  generalize bagsE l = E at *
  repeat' (first | refine goH ?_ | refine goV ?_ | refine goB (fun b => ?_) | refine goG ?_ | (refine Ops.k_guard ?_; first | (refine Ops.guard_dec rfl rfl (fun hc => ?_) (fun hc => ?_) <;> try (exfalso; omega)) | refine Ops.guard_split rfl rfl (fun hc => ?_) (fun hc => ?_)) | refine goI ?_ | (refine Cw.k_cond ?_; first | (refine Cw.cond_dec rfl (fun hc => ?_) (fun hc => ?_) <;> try (exfalso; omega)) | refine Cw.cond_bool rfl (fun hc => ?_) (fun hc => ?_)) | fail)
  refine Cw.loopI [(8, _), (9, _)] _ (fun n e c => ∃ k : Nat, n = l.length - k ∧ (k ≤ l.length ∧ E = firstE (bgE l) k (l.length - k)) ∧ e = [(10, .int k)] ∧ c = []) ⟨_, _, _, (Ent.mkP goSub goPm), 0, rfl, ⟨by omega, hV0⟩, rfl, rfl⟩ ?_
  clear hV0
  rintro _ _ _ ⟨k, rfl, ⟨hk, hV⟩, rfl, rfl⟩
  by_cases hkl : k < l.length
  rotate_left
  · rw [firstE_end hkl] at hV
    subst hV
    repeat' (first | refine goH ?_ | refine goV ?_ | refine goB (fun b => ?_) | refine goG ?_ | (refine Ops.k_guard ?_; first | (refine Ops.guard_dec rfl rfl (fun hc => ?_) (fun hc => ?_) <;> try (exfalso; omega)) | refine Ops.guard_split rfl rfl (fun hc => ?_) (fun hc => ?_)) | refine goI ?_ | (refine Cw.k_cond ?_; first | (refine Cw.cond_dec rfl (fun hc => ?_) (fun hc => ?_) <;> try (exfalso; omega)) | refine Cw.cond_bool rfl (fun hc => ?_) (fun hc => ?_)) | fail)
    exact Fin.ret (Ent.take goTk) (Outs.one rfl rfl) ⟨rfl, rfl⟩
  obtain ⟨x, hx⟩ := at_lt hkl
  have hrow : (l.map Bag.row)[k]? = some [.int x.day, .str x.who, .int x.mtr, .int x.fnd] := rows_at hx
  have k1 := keyOf_fn x.who
  have F := bgF hx hV hkl
  have hd := @dayB_t x.day
  by_cases hday : x.day < 0 ∨ 4000 < x.day
  · have h0 : dayB x.day = false := by
      cases h : dayB x.day with
      | false => rfl
      | true => exact absurd hday (hd.1 h)
    rw [F.e1 (by rw [h0]; rfl)]
    clear F hd hV hx
    by_cases hd0 : x.day < 0
    · repeat' (first | refine goH ?_ | refine goV ?_ | refine goB (fun b => ?_) | refine goG ?_ | (refine Ops.k_guard ?_; first | (refine Ops.guard_dec rfl rfl (fun hc => ?_) (fun hc => ?_) <;> try (exfalso; omega)) | refine Ops.guard_split rfl rfl (fun hc => ?_) (fun hc => ?_)) | refine goI ?_ | (refine Cw.k_cond ?_; first | (refine Cw.cond_dec rfl (fun hc => ?_) (fun hc => ?_) <;> try (exfalso; omega)) | refine Cw.cond_bool rfl (fun hc => ?_) (fun hc => ?_)) | fail)
      exact Fin.ret (Ent.take goTk) (Outs.one rfl rfl) ⟨rfl, rfl⟩
    · repeat' (first | refine goH ?_ | refine goV ?_ | refine goB (fun b => ?_) | refine goG ?_ | (refine Ops.k_guard ?_; first | (refine Ops.guard_dec rfl rfl (fun hc => ?_) (fun hc => ?_) <;> try (exfalso; omega)) | refine Ops.guard_split rfl rfl (fun hc => ?_) (fun hc => ?_)) | refine goI ?_ | (refine Cw.k_cond ?_; first | (refine Cw.cond_dec rfl (fun hc => ?_) (fun hc => ?_) <;> try (exfalso; omega)) | refine Cw.cond_bool rfl (fun hc => ?_) (fun hc => ?_)) | fail)
      exact Fin.ret (Ent.take goTk) (Outs.one rfl rfl) ⟨rfl, rfl⟩
  rw [hd.2 hday] at F
  generalize isKey x.who = q1 at *
  clear hV hx hd
  repeat' (first | refine goH ?_ | refine goV ?_ | refine goB (fun b => ?_) | refine goG ?_ | (refine Ops.k_guard ?_; first | (refine Ops.guard_dec rfl rfl (fun hc => ?_) (fun hc => ?_) <;> try (exfalso; omega)) | refine Ops.guard_split rfl rfl (fun hc => ?_) (fun hc => ?_)) | refine goI ?_ | (refine Cw.k_cond ?_; first | (refine Cw.cond_dec rfl (fun hc => ?_) (fun hc => ?_) <;> try (exfalso; omega)) | refine Cw.cond_bool rfl (fun hc => ?_) (fun hc => ?_)) | (refine Ops.k_calla ?_; first | (refine Ops.k_callf 29 ?_; refine Ops.callV k1 (Evs.cons rfl Evs.nil) rfl ?_)) | fail)
  all_goals first
    | (exfalso; omega)
    | exact ⟨_, _, _, (Ent.mk goSub goTk), ⟨k + 1, rfl, ⟨by omega, F.ok rfl (by assumption) (by omega) (by omega)⟩, rfl, rfl⟩, by omega⟩
    | (refine Fin.ret (Ent.take goTk) (Outs.one rfl rfl) ⟨rfl, ?_⟩; first | (rw [F.e5 rfl (by assumption)]; done) | (rw [F.e2 rfl (by assumption) (by omega)]; done) | (rw [F.e3 rfl (by assumption) (by omega) (by omega)]; done))
end Lg
end
section
set_option linter.all false
set_option maxRecDepth 100000
set_option maxHeartbeats 8000000
namespace Lg
open Go Go.Proofs

def offI (x : Bag) : Int := x.fnd - x.mtr
abbrev offL (l : List Bag) : List Int := l.map offI
def ownB (l : List Bag) (who : ByteArray) : List Int := offL (l.filter fun x => decide (x.who = who))
def BgB (l : List Bag) : Prop := l.length ≤ 500 ∧ ∀ x ∈ l, -10000000 ≤ offI x ∧ offI x ≤ 10000000 ∧ 0 ≤ x.mtr ∧ x.mtr ≤ 10000000 ∧ 0 ≤ x.fnd ∧ x.fnd ≤ 10000000
theorem bgB {l : List Bag} (h : bagsE l = 0) : BgB l := ⟨(bags_ok h).1, fun x hx => by
  have := (bags_ok h).2 x hx
  unfold offI
  omega⟩
theorem BgB.own {l : List Bag} (h : BgB l) (who : ByteArray) : (ownB l who).length ≤ 500 ∧ ∀ x ∈ ownB l who, -10000000 ≤ x ∧ x ≤ 10000000 := by
  refine ⟨?_, fun x hx => ?_⟩
  · unfold ownB
    rw [List.length_map]
    exact Nat.le_trans (List.length_filter_le _ _) h.1
  · unfold ownB at hx
    obtain ⟨b, hb, rfl⟩ := List.mem_map.1 hx
    have := h.2 b (List.mem_filter.1 hb).1
    omega
theorem BgB.filter {l : List Bag} (h : BgB l) (p : Bag → Bool) : BgB (l.filter p) := ⟨Nat.le_trans (List.length_filter_le _ _) h.1, fun x hx => h.2 x (List.mem_filter.1 hx).1⟩
theorem intRows_snocB (l : List Int) (x : Int) : intRows l ++ [[Tr.int x]] = intRows (l ++ [x]) := by unfold intRows; rw [List.map_append]; rfl
theorem off_fn (x : Bag) (h : 0 ≤ x.mtr ∧ x.mtr ≤ 10000000 ∧ 0 ≤ x.fnd ∧ x.fnd ≤ 10000000) : PFn Tryz.prog 32 [.agg x.row] (· = .int (offI x)) := by
  unfold Bag.row offI
  refine PFn.mk (Spec.body Tryz.func32 rfl rfl (Tryz.ntmps32) rfl fun w0 own0 M => ?_)
  repeat' (first | refine goH ?_ | refine goV ?_ | refine goB (fun b => ?_) | refine goI ?_ | (refine Cw.k_cond ?_; first | (refine Cw.cond_dec rfl (fun hc => ?_) (fun hc => ?_) <;> try (exfalso; omega)) | refine Cw.cond_bool rfl (fun hc => ?_) (fun hc => ?_)) | fail)
  exact Fin.ret (Ent.take goTk) (Outs.one rfl rfl) ⟨rfl, rfl⟩
theorem offOf_fn (l : List Bag) (hb : BgB l) : PFn Tryz.prog 17 [.bags l] (· = .ints (offL l)) := by
  have hL : (l.map Bag.row).length = l.length := List.length_map _
  have hl := hb.1
  refine PFn.mk (Spec.body Tryz.func17 rfl rfl (Tryz.ntmps17) rfl fun w0 own0 M => ?_)
  repeat' (first | refine goH ?_ | refine goV ?_ | refine goB (fun b => ?_) | refine goC (fun ad cap => ?_) | refine goI ?_ | (refine Cw.k_cond ?_; first | (refine Cw.cond_dec rfl (fun hc => ?_) (fun hc => ?_) <;> try (exfalso; omega)) | refine Cw.cond_bool rfl (fun hc => ?_) (fun hc => ?_)) | fail)
  refine Cw.loopI [(6, _), (7, _)] _ (fun q e c => ∃ (k : Nat) (ad : Option Addr) (cap : Nat) (rows : List (List Tr)), q = l.length - k ∧ (k ≤ l.length ∧ rows = intRows (offL (l.take k)) ∧ rows.length = k) ∧ e = [(3, Tr.raw (.slice ad rows.length cap)), (8, .int k)] ∧ c = [Chunk.own ad cap 1 3 rows])
    ⟨_, _, _, Ent.trans (Ent.nil 1 3) (Ent.mkP goSub goPm), 0, none, 0, [], rfl, ⟨by omega, rfl, rfl⟩, rfl, rfl⟩ ?_
  rintro _ _ _ ⟨k, ad, cap, rows, rfl, ⟨hk, hrows, hrl⟩, rfl, rfl⟩
  by_cases hkl : k < l.length
  · obtain ⟨x, hx⟩ := at_lt hkl
    have hrow : (l.map Bag.row)[k]? = some [.int x.day, .str x.who, .int x.mtr, .int x.fnd] := rows_at hx
    have hxb := hb.2 x (List.mem_of_getElem? hx)
    have hr : rows ++ [[Tr.int (x.fnd - x.mtr)]] = intRows (offL (l.take (k + 1))) := by
      rw [hrows, take_at hx, intRows_snocB]
      unfold offL
      rw [List.map_append]
      rfl
    clear hx hrows
    repeat' (first | refine goH ?_ | refine goV ?_ | refine goB (fun b => ?_) | refine goC (fun ad cap => ?_) | refine goI ?_ | (refine Cw.k_cond ?_; first | (refine Cw.cond_dec rfl (fun hc => ?_) (fun hc => ?_) <;> try (exfalso; omega)) | refine Cw.cond_bool rfl (fun hc => ?_) (fun hc => ?_)) | fail)
    exact ⟨_, _, _, (Ent.mk goSub goTk), ⟨k + 1, _, _, _, rfl, ⟨by omega, hr, by rw [List.length_append, hrl]; rfl⟩, rfl, rfl⟩, by omega⟩
  · rw [List.take_of_length_le (by omega)] at hrows
    subst hrows
    repeat' (first | refine goH ?_ | refine goV ?_ | refine goB (fun b => ?_) | refine goC (fun ad cap => ?_) | refine goI ?_ | (refine Cw.k_cond ?_; first | (refine Cw.cond_dec rfl (fun hc => ?_) (fun hc => ?_) <;> try (exfalso; omega)) | refine Cw.cond_bool rfl (fun hc => ?_) (fun hc => ?_)) | fail)
    refine Fin.ret (Ent.trans (Ent.settle (s := 2) rfl goPk rfl) (Ent.take goTk)) (Outs.sole rfl goOe) ⟨rfl, rfl⟩
theorem off_ok_fn (l : List Bag) (hl : l.length ≤ 1000000) : PFn Tryz.prog 12 [.bags l] (· = .tup [.ints (if bagsE l ≠ 0 then [] else offL l), .int (bagsE l)]) := by
  have k1 := checkBags_fn l hl
  have hL : (l.map Bag.row).length = l.length := List.length_map _
  by_cases h : bagsE l ≠ 0
  · rw [if_pos h]
    generalize bagsE l = E at *
    refine PFn.mk (Spec.body Tryz.func12 rfl rfl (Tryz.ntmps12) rfl fun w0 own0 M => ?_)
    repeat' (first | refine goH ?_ | refine goV ?_ | refine goB (fun b => ?_) | refine goC (fun ad cap => ?_) | refine goI ?_ | (refine Cw.k_cond ?_; first | (refine Cw.cond_dec rfl (fun hc => ?_) (fun hc => ?_) <;> try (exfalso; omega)) | refine Cw.cond_bool rfl (fun hc => ?_) (fun hc => ?_)) | (refine Ops.k_calla ?_; first | (refine Ops.k_callf 11 ?_; refine Ops.callV k1 (Evs.cons rfl Evs.nil) rfl ?_)) | fail)
    refine Fin.ret (Ent.trans (Ent.nilsl 1 (s := 2) rfl) (Ent.take goTk)) (Outs.many rfl (OutL.cons goOe (OutL.cons goOe OutL.nil)) rfl) ⟨rfl, rfl⟩
  rw [if_neg h]
  have h0 : bagsE l = 0 := by omega
  have hb := bgB h0
  rw [h0] at k1
  rw [h0]
  clear h h0
  refine PFn.mk (Spec.body Tryz.func12 rfl rfl (Tryz.ntmps12) rfl fun w0 own0 M => ?_)
  repeat' (first | refine goH ?_ | refine goV ?_ | refine goB (fun b => ?_) | refine goC (fun ad cap => ?_) | refine goI ?_ | (refine Cw.k_cond ?_; first | (refine Cw.cond_dec rfl (fun hc => ?_) (fun hc => ?_) <;> try (exfalso; omega)) | refine Cw.cond_bool rfl (fun hc => ?_) (fun hc => ?_)) | (refine Ops.k_calla ?_; first | (refine Ops.k_callf 11 ?_; refine Ops.callV k1 (Evs.cons rfl Evs.nil) rfl ?_)) | fail)
  refine Cw.loopI [(13, _), (14, _)] _ (fun q e c => ∃ (k : Nat) (ad : Option Addr) (cap : Nat) (rows : List (List Tr)), q = l.length - k ∧ (k ≤ l.length ∧ rows = intRows (offL (l.take k)) ∧ rows.length = k) ∧ e = [(5, Tr.raw (.slice ad rows.length cap)), (15, .int k)] ∧ c = [Chunk.own ad cap 1 3 rows])
    ⟨_, _, _, Ent.trans (Ent.nil 1 3) (Ent.mkP goSub goPm), 0, none, 0, [], rfl, ⟨by omega, rfl, rfl⟩, rfl, rfl⟩ ?_
  rintro _ _ _ ⟨k, ad, cap, rows, rfl, ⟨hk, hrows, hrl⟩, rfl, rfl⟩
  by_cases hkl : k < l.length
  · obtain ⟨x, hx⟩ := at_lt hkl
    have hrow : (l.map Bag.row)[k]? = some [.int x.day, .str x.who, .int x.mtr, .int x.fnd] := rows_at hx
    have hxb := hb.2 x (List.mem_of_getElem? hx)
    have k2 := off_fn x hxb.2.2
    unfold Bag.row at k2
    have hr : rows ++ [[Tr.int (offI x)]] = intRows (offL (l.take (k + 1))) := by
      rw [hrows, take_at hx, intRows_snocB]
      unfold offL
      rw [List.map_append]
      rfl
    clear hx hrows
    generalize offI x = z at *
    repeat' (first | refine goH ?_ | refine goV ?_ | refine goB (fun b => ?_) | refine goC (fun ad cap => ?_) | refine goI ?_ | (refine Cw.k_cond ?_; first | (refine Cw.cond_dec rfl (fun hc => ?_) (fun hc => ?_) <;> try (exfalso; omega)) | refine Cw.cond_bool rfl (fun hc => ?_) (fun hc => ?_)) | (refine Ops.k_calla ?_; first | (refine Ops.k_callf 32 ?_; refine Ops.callV k2 (Evs.cons rfl Evs.nil) rfl ?_)) | fail)
    exact ⟨_, _, _, (Ent.mk goSub goTk), ⟨k + 1, _, _, _, rfl, ⟨by omega, hr, by rw [List.length_append, hrl]; rfl⟩, rfl, rfl⟩, by omega⟩
  · rw [List.take_of_length_le (by omega)] at hrows
    subst hrows
    repeat' (first | refine goH ?_ | refine goV ?_ | refine goB (fun b => ?_) | refine goC (fun ad cap => ?_) | refine goI ?_ | (refine Cw.k_cond ?_; first | (refine Cw.cond_dec rfl (fun hc => ?_) (fun hc => ?_) <;> try (exfalso; omega)) | refine Cw.cond_bool rfl (fun hc => ?_) (fun hc => ?_)) | fail)
    refine Fin.ret (Ent.trans (Ent.settle (s := 2) rfl goPk rfl) (Ent.take goTk)) (Outs.many rfl (OutL.cons goOe (OutL.cons goOe OutL.nil)) rfl) ⟨rfl, rfl⟩
/-! ### sums, and what drifts -/
theorem sumQ_fn (l : List Int) (hl : l.length ≤ 1000000) (hb : ∀ i, -4000000000000000000 ≤ sumQ (l.take i) ∧ sumQ (l.take i) ≤ 4000000000000000000) : PFn Tryz.prog 28 [.ints l] (· = .int (sumQ l)) := by
  have hL := intRows_len l
  refine PFn.mk (Spec.body Tryz.func28 rfl rfl (Tryz.ntmps28) rfl fun w0 own0 M => ?_)
  repeat' (first | refine goH ?_ | refine goV ?_ | refine goI ?_ | (refine Cw.k_cond ?_; first | (refine Cw.cond_dec rfl (fun hc => ?_) (fun hc => ?_) <;> try (exfalso; omega)) | refine Cw.cond_bool rfl (fun hc => ?_) (fun hc => ?_)) | fail)
  refine Cw.loopI [(6, _), (7, _)] _ (fun q e cc => ∃ (k : Nat) (z : Int), q = l.length - k ∧ (k ≤ l.length ∧ z = sumQ (l.take k)) ∧ e = [(3, .int z), (8, .int k)] ∧ cc = []) ⟨_, _, _, (Ent.mkP goSub goPm), 0, 0, rfl, ⟨by omega, rfl⟩, rfl, rfl⟩ ?_
  rintro _ _ _ ⟨k, z, rfl, ⟨hk, hz⟩, rfl, rfl⟩
  by_cases hkl : k < l.length
  · obtain ⟨x, hx⟩ := at_lt hkl
    have r1 : (intRows l)[k]? = some [Tr.int x] := intRows_at hx
    have hn := sumQ_take hx
    have h1 := hb (k + 1)
    rw [hn] at h1
    rw [← hz] at hn h1
    clear hx hz
    repeat' (first | refine goH ?_ | refine goV ?_ | refine goI ?_ | (refine Cw.k_cond ?_; first | (refine Cw.cond_dec rfl (fun hc => ?_) (fun hc => ?_) <;> try (exfalso; omega)) | refine Cw.cond_bool rfl (fun hc => ?_) (fun hc => ?_)) | fail)
    exact ⟨_, _, _, (Ent.mk goSub goTk), ⟨k + 1, _, rfl, ⟨by omega, hn.symm⟩, rfl, rfl⟩, by omega⟩
  · rw [List.take_of_length_le (by omega)] at hz
    subst hz
    repeat' (first | refine goH ?_ | refine goV ?_ | refine goI ?_ | (refine Cw.k_cond ?_; first | (refine Cw.cond_dec rfl (fun hc => ?_) (fun hc => ?_) <;> try (exfalso; omega)) | refine Cw.cond_bool rfl (fun hc => ?_) (fun hc => ?_)) | fail)
    exact Fin.ret (Ent.take goTk) (Outs.one rfl rfl) ⟨rfl, rfl⟩
theorem sumQ_bdT {l : List Int} (h1 : l.length ≤ 500) (h2 : ∀ x ∈ l, -10000000 ≤ x ∧ x ≤ 10000000) (i : Nat) : -5000000000 ≤ sumQ (l.take i) ∧ sumQ (l.take i) ≤ 5000000000 := by
  have := sumQ_abs (l := l.take i) (B := 10000000) (fun x hx => h2 x (List.mem_of_mem_take hx))
  have h3 : (l.take i).length ≤ 500 := by rw [List.length_take]; omega
  omega
def drS (s : Int × Int) (n : Int) : Int × Int := (if n ≥ 0 then 0 else s.1 + 1, max s.2 (if n ≥ 0 then 0 else s.1 + 1))
def drF (l : List Int) : Int × Int := l.foldl drS (0, 0)
theorem drF_snoc (l : List Int) (n : Int) : drF (l ++ [n]) = drS (drF l) n := by unfold drF; rw [List.foldl_append]; rfl
theorem drF_take {l : List Int} {k : Nat} {n : Int} (h : l[k]? = some n) : drF (l.take (k + 1)) = drS (drF (l.take k)) n := by rw [take_at h, drF_snoc]
theorem drF_bd (l : List Int) : ∀ k, k ≤ l.length → 0 ≤ (drF (l.take k)).1 ∧ (drF (l.take k)).1 ≤ k ∧ 0 ≤ (drF (l.take k)).2 ∧ (drF (l.take k)).2 ≤ k
  | 0, _ => ⟨Int.le_refl 0, Int.le_refl 0, Int.le_refl 0, Int.le_refl 0⟩
  | k + 1, h => by
    obtain ⟨x, hx⟩ := at_lt (l := l) (k := k) (by omega)
    have := drF_bd l k (by omega)
    rw [drF_take hx]
    unfold drS
    split
    · simp only; omega
    · simp only; omega
theorem drF_bd' (l : List Int) : 0 ≤ (drF l).1 ∧ (drF l).1 ≤ l.length ∧ 0 ≤ (drF l).2 ∧ (drF l).2 ≤ l.length := by
  have := drF_bd l l.length (Nat.le_refl _)
  rwa [List.take_length] at this
theorem ownB_take {l : List Bag} {k : Nat} {x : Bag} (who : ByteArray) (h : l[k]? = some x) : ownB (l.take (k + 1)) who = ownB (l.take k) who ++ (if x.who = who then [offI x] else []) := by
  unfold ownB
  rw [take_at h, List.filter_append, offL, List.map_append]
  congr 1
  by_cases hw : x.who = who
  · simp [hw]
  · simp [hw]
/-- a copy of its own -/
theorem clone_bag (rows : List (List Tr)) (hk : ∀ r ∈ rows, r.length = 4) (hl : rows.length ≤ 1000000) : PFnO Tryz.prog 52 [.sl 4 rows] 4 56 (· = rows) := by
  unfold PFnO
  refine Spec.body Tryz.func52 rfl rfl (Tryz.ntmps52) rfl fun w0 own0 M => ?_
  repeat' (first | refine goH ?_ | ((fail_if_success refine Ops.k_b_eql ?_); (fail_if_success refine Ops.k_buildSlice ?_); refine goV ?_) | ((fail_if_success refine Ops.k_b_eql ?_); (fail_if_success refine Ops.k_buildSlice ?_); refine goC (fun ad cap => ?_)) | refine goI ?_ | (refine Cw.k_cond ?_; first | (refine Cw.cond_dec rfl (fun hc => ?_) (fun hc => ?_) <;> try (exfalso; omega)) | refine Cw.cond_bool rfl (fun hc => ?_) (fun hc => ?_)) | fail)
  refine Ops.eql_nilS rfl rfl (fun b hb => ?_)
  cases b
  · repeat' (first | refine goH ?_ | ((fail_if_success refine Ops.k_buildSlice ?_); refine goV ?_) | ((fail_if_success refine Ops.k_buildSlice ?_); refine goC (fun ad cap => ?_)) | refine goI ?_ | (refine Cw.k_cond ?_; first | (refine Cw.cond_dec rfl (fun hc => ?_) (fun hc => ?_) <;> try (exfalso; omega)) | refine Cw.cond_bool rfl (fun hc => ?_) (fun hc => ?_)) | fail)
    refine Ops.buildSlice_own (by exact Parts.nil) rfl rfl rfl (fun ad cap => ?_)
    repeat' (first | refine goH ?_ | refine goV ?_ | refine goC (fun ad cap => ?_) | refine goI ?_ | (refine Cw.k_cond ?_; first | (refine Cw.cond_dec rfl (fun hc => ?_) (fun hc => ?_) <;> try (exfalso; omega)) | refine Cw.cond_bool rfl (fun hc => ?_) (fun hc => ?_)) | fail)
    exact Fin.ret (Ent.take goTk) (Outs.one rfl rfl) ⟨_, _, _, rfl, rfl, rfl⟩
  · have hr := hb rfl
    subst hr
    repeat' (first | refine goH ?_ | refine goV ?_ | refine goC (fun ad cap => ?_) | refine goI ?_ | (refine Cw.k_cond ?_; first | (refine Cw.cond_dec rfl (fun hc => ?_) (fun hc => ?_) <;> try (exfalso; omega)) | refine Cw.cond_bool rfl (fun hc => ?_) (fun hc => ?_)) | fail)
    exact Fin.ret (Ent.trans (Ent.nil 4 56) (Ent.take goTk)) (Outs.one rfl rfl) ⟨none, 0, [], rfl, rfl, rfl⟩

/-- the same over an owned slice, that it only reads -/
theorem indexFuncO_bag {n : Nat} {l : List Bag} {p : Bag → Bool} {ad : Option Addr} {cap : Nat} {g : Nat} {caps : List Value} {cin : List Chunk} (hl : l.length ≤ 1000000000) (hn : n = l.length)
    (hs : ∀ x, x ∈ l → Spec Tryz.prog g ([Tr.agg x.row] ++ caps.map Tr.raw) cin (fun r cs => r = Tr.bool (p x) ∧ cs = cin)) :
    Spec Tryz.prog 71 [Tr.raw (.slice ad n cap), Tr.raw (.func (.func g) #[] caps.toArray)] (Chunk.own ad cap 4 56 (l.map Bag.row) :: cin) (fun r cs => r = Tr.int (idxFrom p l 0) ∧ cs = Chunk.own ad cap 4 56 (l.map Bag.row) :: cin) := by
  refine Spec.body Tryz.func71 rfl rfl (Tryz.ntmps71) rfl fun w0 own0 M => ?_
  have hL : (l.map Bag.row).length = n := by rw [List.length_map, hn]
  repeat' (first | refine goH ?_ | refine goV ?_ | refine goI ?_ | (refine Cw.k_cond ?_; first | (refine Cw.cond_dec rfl (fun hc => ?_) (fun hc => ?_) <;> try (exfalso; omega)) | refine Cw.cond_bool rfl (fun hc => ?_) (fun hc => ?_)) | fail)
  refine Cw.loopI [(0, _), (1, _), (7, _)] _ (fun q e c => ∃ k : Nat, q = n - k ∧ (k ≤ n ∧ idxFrom p l 0 = idxFrom p (l.drop k) k) ∧ e = [(8, .int k)] ∧ c = []) ⟨_, _, _, (Ent.mkP goSub goPm), 0, rfl, ⟨by omega, rfl⟩, rfl, rfl⟩ ?_
  rintro _ _ _ ⟨k, rfl, ⟨hk, hgo⟩, rfl, rfl⟩
  by_cases hkl : k < n
  · obtain ⟨x, hx⟩ : ∃ x, l[k]? = some x := ⟨_, List.getElem?_eq_getElem (by omega)⟩
    have hrow : (l.map Bag.row)[k]? = some [.int x.day, .str x.who, .int x.mtr, .int x.fnd] := rows_at hx
    have hdrop := idxFrom_drop p hx
    rw [hdrop] at hgo
    have hsx := hs x (List.mem_of_getElem? hx)
    by_cases hp : p x = true
    · rw [if_pos hp] at hgo
      rw [hp] at hsx
      repeat' (first | refine goH ?_ | refine goV ?_ | refine goI ?_ | (refine Cw.k_cond ?_; first | (refine Cw.cond_dec rfl (fun hc => ?_) (fun hc => ?_) <;> try (exfalso; omega)) | refine Cw.cond_bool rfl (fun hc => ?_) (fun hc => ?_)) | (refine Ops.k_calla ?_; first | refine Ops.callS_fn rfl hsx (Evs.cons rfl Evs.nil) (List.perm_append_comm (l₁ := [Chunk.own ad cap 4 56 (l.map Bag.row)])) rfl ?_) | fail)
      exact Fin.ret Ent.refl (Outs.one rfl rfl) ⟨by rw [hgo], rfl⟩
    · rw [if_neg hp] at hgo
      rw [Bool.not_eq_true] at hp
      rw [hp] at hsx
      repeat' (first | refine goH ?_ | refine goV ?_ | refine goI ?_ | (refine Cw.k_cond ?_; first | (refine Cw.cond_dec rfl (fun hc => ?_) (fun hc => ?_) <;> try (exfalso; omega)) | refine Cw.cond_bool rfl (fun hc => ?_) (fun hc => ?_)) | (refine Ops.k_calla ?_; first | refine Ops.callS_fn rfl hsx (Evs.cons rfl Evs.nil) (List.perm_append_comm (l₁ := [Chunk.own ad cap 4 56 (l.map Bag.row)])) rfl ?_) | fail)
      exact ⟨_, _, _, (Ent.mkP goSub goPm), ⟨k + 1, rfl, ⟨by omega, hgo⟩, rfl, rfl⟩, by omega⟩
  · rw [List.drop_eq_nil_of_le (by omega), idxFrom] at hgo
    repeat' (first | refine goH ?_ | refine goV ?_ | refine goI ?_ | (refine Cw.k_cond ?_; first | (refine Cw.cond_dec rfl (fun hc => ?_) (fun hc => ?_) <;> try (exfalso; omega)) | refine Cw.cond_bool rfl (fun hc => ?_) (fun hc => ?_)) | fail)
    exact Fin.ret Ent.refl (Outs.one rfl rfl) ⟨by rw [hgo], rfl⟩

/-- slices.DeleteFunc of a slice of one's own -/
theorem delFuncB_bag {ad : Option Addr} {n cap : Nat} (L : List Bag) (p : Bag → Bool) {f : Nat} {caps : List Value} {cb : Chunk} (hn : n = L.length) (hl : n ≤ 1000000) (hs : ∀ x : Bag, Spec Tryz.prog f ([Tr.agg x.row] ++ caps.map Tr.raw) [cb] (fun r cs => r = Tr.bool (p x) ∧ cs = [cb])) :
    Spec Tryz.prog 51 [Tr.raw (.slice ad n cap), Tr.raw (.func (.func f) #[] caps.toArray)] [Chunk.own ad cap 4 56 (L.map Bag.row), cb] (fun r cs => r = Tr.raw (.slice ad (L.filter fun x => !p x).length cap) ∧ cs = [Chunk.own ad cap 4 56 ((L.filter fun x => !p x).map Bag.row), cb]) := by
  have hLr : (L.map Bag.row).length = n := by rw [List.length_map, hn]
  have kI := indexFuncO_bag (n := n) (l := L) (p := p) (ad := ad) (cap := cap) (g := f) (caps := caps) (cin := [cb]) (by omega) hn (fun x _ => hs x)
  refine Spec.body Tryz.func51 rfl rfl (Tryz.ntmps51) rfl fun w0 own0 M => ?_
  rcases idx_split p L 0 with ⟨h1, h2⟩ | ⟨i, x0, h1, h2, h3, h4⟩
  · rw [h1] at kI
    repeat' (first | refine goH ?_ | refine goV ?_ | refine goB (fun b => ?_) | refine goI ?_ | (refine Cw.k_cond ?_; first | (refine Cw.cond_dec rfl (fun hc => ?_) (fun hc => ?_) <;> try (exfalso; omega)) | refine Cw.cond_bool rfl (fun hc => ?_) (fun hc => ?_)) | (refine Ops.k_calla ?_; first | (refine Ops.k_callf 71 ?_; (refine Ops.call kI (Evs.cons rfl (Evs.cons rfl Evs.nil)) goPm rfl ?_; rintro r cs' ⟨rfl, rfl⟩))) | fail)
    rw [h2, ← hn]
    exact Fin.ret (Ent.take goTk) (Outs.one rfl rfl) ⟨rfl, rfl⟩
  rw [Int.zero_add] at h1
  rw [h1] at kI
  have hst := Dlt.start h2 h3 h4
  have hil := (List.getElem?_eq_some_iff.1 h2).1
  clear h1 h2 h3 h4
  repeat' (first | refine goH ?_ | refine goV ?_ | refine goB (fun b => ?_) | refine goI ?_ | (refine Cw.k_cond ?_; first | (refine Cw.cond_dec rfl (fun hc => ?_) (fun hc => ?_) <;> try (exfalso; omega)) | refine Cw.cond_bool rfl (fun hc => ?_) (fun hc => ?_)) | (refine Ops.k_calla ?_; first | (refine Ops.k_callf 71 ?_; (refine Ops.call kI (Evs.cons rfl (Evs.cons rfl Evs.nil)) goPm rfl ?_; rintro r cs' ⟨rfl, rfl⟩))) | fail)
  refine Cw.own_form (List.Perm.refl _) (by omega) ?_
  rintro g rfl hcp hcm
  rw [hLr] at hcp
  clear kI
  refine Cw.loopI [(0, _), (1, _)] _ (fun q e cc => ∃ (j m : Nat) (W : List Bag), q = n - j ∧ (j ≤ n ∧ Dlt p L W m j) ∧ e = [(5, .int m), (6, .int j)] ∧ cc = [Chunk.own (some ⟨g, 0, none⟩) cap 4 56 (W.map Bag.row)]) ⟨_, _, _, (Ent.mkP goSub goPm), i + 1, i, L, rfl, ⟨by omega, hst⟩, rfl, rfl⟩ ?_
  clear hst hil
  rintro _ _ _ ⟨j, m, W, rfl, ⟨hj, hw⟩, rfl, rfl⟩
  have hWl : (W.map Bag.row).length = n := by rw [List.length_map, hw.len, hn]
  have hmlt := hw.lt
  by_cases hjn : j < n
  · obtain ⟨x, hx⟩ := at_lt (l := L) (k := j) (by omega)
    have rx : (W.map Bag.row)[((j : Nat) : Int).toNat]? = some [.int x.day, .str x.who, .int x.mtr, .int x.fnd] := by rw [Int.toNat_natCast]; exact rows_at ((hw.at0 (Nat.le_refl _)).trans hx)
    have kp := hs x
    cases hp : p x
    · have hw2 := hw.keep hx hp
      have hset : (W.map Bag.row).set m [.int x.day, .str x.who, .int x.mtr, .int x.fnd] = (W.set m x).map Bag.row := by rw [List.map_set] <;> rfl
      obtain ⟨c, hc⟩ := at_lt (l := W) (k := m) (by rw [hw.len]; omega)
      have rc : (W.map Bag.row)[((m : Nat) : Int).toNat]? = some (Bag.row c) := by rw [Int.toNat_natCast]; exact rows_at hc
      try simp only at rc
      rw [hp] at kp
      clear hx hw hc
      repeat' (first | refine goH ?_ | refine goV ?_ | refine goB (fun b => ?_) | refine goI ?_ | (refine Cw.k_cond ?_; first | (refine Cw.cond_dec rfl (fun hc => ?_) (fun hc => ?_) <;> try (exfalso; omega)) | refine Cw.cond_bool rfl (fun hc => ?_) (fun hc => ?_)) | (refine Ops.k_calla ?_; first | refine Ops.callS_fn (caps := caps) (args := [Tr.agg x.row]) rfl kp (Evs.cons rfl Evs.nil) goPm rfl ?_) | fail)
      erw [hset]
      exact ⟨_, _, _, (Ent.mk goSub goTk), ⟨j + 1, m + 1, _, rfl, ⟨by omega, hw2⟩, rfl, rfl⟩, by omega⟩
    · have hw2 := hw.drop hx hp
      rw [hp] at kp
      clear hx hw
      repeat' (first | refine goH ?_ | refine goV ?_ | refine goB (fun b => ?_) | refine goI ?_ | (refine Cw.k_cond ?_; first | (refine Cw.cond_dec rfl (fun hc => ?_) (fun hc => ?_) <;> try (exfalso; omega)) | refine Cw.cond_bool rfl (fun hc => ?_) (fun hc => ?_)) | (refine Ops.k_calla ?_; first | refine Ops.callS_fn (caps := caps) (args := [Tr.agg x.row]) rfl kp (Evs.cons rfl Evs.nil) goPm rfl ?_) | fail)
      exact ⟨_, _, _, (Ent.mk goSub goTk), ⟨j + 1, m, W, rfl, ⟨by omega, hw2⟩, rfl, rfl⟩, by omega⟩
  have hje : j = n := by omega
  have hdone := hw.done
  have hm := hw.hm
  rw [hje, hn, List.take_length] at hdone hm
  clear hw
  repeat' (first | refine goH ?_ | (refine Ops.k_slice ?_; first | (refine Ops.sliceR_l rfl rfl (by omega) (by omega) rfl ?_)) | ((fail_if_success refine Ops.k_c_clear ?_); refine goV ?_) | ((fail_if_success refine Ops.k_c_clear ?_); refine goB (fun b => ?_)) | refine goI ?_ | (refine Cw.k_cond ?_; first | (refine Cw.cond_dec rfl (fun hc => ?_) (fun hc => ?_) <;> try (exfalso; omega)) | refine Cw.cond_bool rfl (fun hc => ?_) (fun hc => ?_)) | fail)
  refine Ops.k_c_clear ?_
  refine Ops.clear_part (o := m) rfl (List.Perm.refl _) (by rw [Int.toNat_natCast, Nat.zero_add]; rfl) (by omega) (by omega) ?_
  rw [Int.toNat_natCast]
  have hz : ((W.map Bag.row).take m ++ List.replicate (n - m) (List.map Tr.raw [Value.int .i64 0, Value.string ByteArray.empty, Value.int .i64 0, Value.int .i64 0])).take m = (L.filter fun x => !p x).map Bag.row := by
    rw [List.take_append_of_le_length (by rw [List.length_take, hWl]; omega), List.take_take, Nat.min_self, ← List.map_take, hdone]
  have hzl : ((W.map Bag.row).take m ++ List.replicate (n - m) (List.map Tr.raw [Value.int .i64 0, Value.string ByteArray.empty, Value.int .i64 0, Value.int .i64 0])).length = n := by rw [List.length_append, List.length_take, hWl, List.length_replicate]; omega
  generalize (W.map Bag.row).take m ++ List.replicate (n - m) (List.map Tr.raw [Value.int .i64 0, Value.string ByteArray.empty, Value.int .i64 0, Value.int .i64 0]) = Z at *
  repeat' (first | refine goH ?_ | refine goV ?_ | refine goB (fun b => ?_) | refine goI ?_ | (refine Cw.k_cond ?_; first | (refine Cw.cond_dec rfl (fun hc => ?_) (fun hc => ?_) <;> try (exfalso; omega)) | refine Cw.cond_bool rfl (fun hc => ?_) (fun hc => ?_)) | fail)
  rw [Int.toNat_natCast, hz, hm]
  exact Fin.ret (Ent.take goTk) (Outs.one rfl rfl) ⟨by rw [List.length_map], rfl⟩

theorem notWho_fn (x : Bag) (b : Nat) (who : ByteArray) : Spec Tryz.prog 53 ([.agg x.row] ++ [Value.pointer (some ⟨b, 0, none⟩)].map Tr.raw) [Chunk.box b 9 [.str who]] (fun r cs => r = .bool (!decide (x.who = who)) ∧ cs = [Chunk.box b 9 [.str who]]) := by
  unfold Bag.row
  refine Spec.body Tryz.func53 rfl rfl (Tryz.ntmps53) rfl fun w0 own0 M => ?_
  repeat' (first | refine goH ?_ | refine goV ?_ | refine goB (fun b => ?_) | refine goI ?_ | (refine Cw.k_cond ?_; first | (refine Cw.cond_dec rfl (fun hc => ?_) (fun hc => ?_) <;> try (exfalso; omega)) | refine Cw.cond_bool rfl (fun hc => ?_) (fun hc => ?_)) | fail)
  exact Fin.ret (Ent.take goTk) (Outs.one rfl rfl) ⟨congrArg Tr.bool (by by_cases h : x.who = who <;> simp [h]), rfl⟩
end Lg
end
