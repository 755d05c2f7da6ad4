/- A part of the proof of a law of this seat: it adds no condition. By an AI agent. -/
import Derived.Test.YtojdcihnfjjlaaaVend4
set_option linter.all false
set_option maxRecDepth 100000
set_option maxHeartbeats 1000000
namespace Lg
open Go Go.Proofs

/-! ### amounts that can be paid -/
def rch (b : Nat → Bool) (v : Nat) : Nat → Nat → Bool
  | 0 => b
  | j + 1 => fun a => rch b v j a || (decide (v ≤ a) && rch b v j (a - v))
theorem rch_succ (b : Nat → Bool) (v j a : Nat) : rch b v (j + 1) a = (rch b v j a || (decide (v ≤ a) && rch b v j (a - v))) := rfl
theorem rch_iff {b : Nat → Bool} {v : Nat} : ∀ {j a : Nat}, rch b v j a = true ↔ ∃ n, n ≤ j ∧ n * v ≤ a ∧ b (a - n * v) = true
  | 0, a => ⟨fun h => ⟨0, Nat.le_refl _, by omega, by simpa [rch] using h⟩, fun ⟨n, h1, h2, h3⟩ => by
      have : n = 0 := by omega
      subst this
      simpa [rch] using h3⟩
  | j + 1, a => by
    rw [rch_succ, Bool.or_eq_true, Bool.and_eq_true, decide_eq_true_eq, rch_iff, rch_iff]
    constructor
    · rintro (⟨n, h1, h2, h3⟩ | ⟨h0, n, h1, h2, h3⟩)
      · exact ⟨n, by omega, h2, h3⟩
      · refine ⟨n + 1, by omega, by rw [Nat.add_mul]; omega, ?_⟩
        rw [show a - (n + 1) * v = a - v - n * v by rw [Nat.add_mul]; omega]
        exact h3
    · rintro ⟨n, h1, h2, h3⟩
      by_cases e : n ≤ j
      · exact .inl ⟨n, e, h2, h3⟩
      · right
        have : n = j + 1 := by omega
        subst this
        rw [Nat.add_mul] at h2 h3
        refine ⟨by omega, j, Nat.le_refl _, by omega, ?_⟩
        rw [show a - v - j * v = a - (j * v + 1 * v) by omega]
        exact h3
theorem rch_fix {b : Nat → Bool} {v j most : Nat} (h : ∀ a, a ≤ most → rch b v (j + 1) a = rch b v j a) : ∀ i a, a ≤ most → rch b v (j + i) a = rch b v j a
  | 0, a, _ => rfl
  | i + 1, a, ha => by
    rw [← Nat.add_assoc, rch_succ, rch_fix h i a ha, rch_fix h i (a - v) (by omega), ← rch_succ]
    exact h a ha

def canK (l : List Tube) (k a : Nat) : Bool := decide (payK nev l k a < nev)
theorem payK_small {l : List Tube} (ho : TOk l) {k : Nat} (hk : k ≤ l.length) (a : Nat) : payK nev l k a = nev ∨ payK nev l k a ≤ 10000 := by
  have hl : ((vc l).take k).length = k := by simp; omega
  have hlen := ho.len
  have := pay_rel (N := nev) (M := nev) (l := (vc l).take k) (B := 0) (b := zeroPay nev) (d := zeroPay nev) (fun t ht => by
    obtain ⟨d, hd, rfl⟩ := List.mem_map.1 (List.mem_of_mem_take ht)
    have := ho.cnt d hd
    simp only
    omega) zeroPay_rel (Int.le_refl _) (by rw [hl]; unfold nev; omega) (by rw [hl]; unfold nev; omega) a
  have h2 := (payK_bd l k a).2
  unfold PRel at this
  rw [hl] at this
  unfold payK at h2 ⊢
  unfold nev at *
  omega
theorem canK_zero (l : List Tube) (a : Nat) : canK l 0 a = decide (a = 0) := by
  unfold canK payK
  show decide (zeroPay nev a < nev) = _
  unfold zeroPay
  by_cases h : a = 0
  · subst h; rfl
  · rw [if_neg h, decide_eq_false (by omega), decide_eq_false h]
theorem canK_next {l : List Tube} (ho : TOk l) {k : Nat} {d : Tube} (h : l[k]? = some d) (a : Nat) : canK l (k + 1) a = rch (canK l k) d.val.toNat d.cnt.toNat a := by
  have hk : k < l.length := (List.getElem?_eq_some_iff.1 h).1
  have hc := ho.cnt d (List.mem_of_getElem? h)
  have hv := ho.val d (List.mem_of_getElem? h)
  rw [Bool.eq_iff_iff, rch_iff]
  unfold canK
  rw [decide_eq_true_eq, payK_next h]
  unfold fur
  obtain ⟨n0, hn0, hm0⟩ := minTo_mem (f := fun n => (n : Int) + payK nev l k (a - n * d.val.toNat)) (min d.cnt.toNat (a / d.val.toNat))
  have hdiv : ∀ n, n ≤ a / d.val.toNat ↔ n * d.val.toNat ≤ a := fun n => Nat.le_div_iff_mul_le (by omega)
  constructor
  · intro hlt
    refine ⟨n0, by omega, (hdiv n0).1 (by omega), ?_⟩
    rw [decide_eq_true_eq]
    have := payK_small ho (k := k) (by omega) (a - n0 * d.val.toNat)
    unfold nev at *
    omega
  · rintro ⟨n, h1, h2, h3⟩
    rw [decide_eq_true_eq] at h3
    have hle := minTo_le (f := fun n => (n : Int) + payK nev l k (a - n * d.val.toNat)) (k := min d.cnt.toNat (a / d.val.toNat)) (n := n) (by have := (hdiv n).2 h2; omega)
    have := payK_small ho (k := k) (by omega) (a - n * d.val.toNat)
    unfold nev at *
    omega

/-! ### the windows of amounts -/
structure Win where
  fr : Int
  to : Int
def Win.row (x : Win) : List Tr := [Tr.int x.fr, Tr.int x.to]

/-- the windows of the numbers below n for which p holds -/
def wins (p : Nat → Bool) : Nat → List Win
  | 0 => []
  | n + 1 => if p n = true then (if n ≠ 0 ∧ p (n - 1) = true then (wins p n).dropLast ++ [⟨((wins p n).getLastD ⟨0, 0⟩).fr, (n : Int) + 1⟩] else wins p n ++ [⟨n, (n : Int) + 1⟩]) else wins p n
theorem wins_succ (p : Nat → Bool) (n : Nat) : wins p (n + 1) = if p n = true then (if n ≠ 0 ∧ p (n - 1) = true then (wins p n).dropLast ++ [⟨((wins p n).getLastD ⟨0, 0⟩).fr, (n : Int) + 1⟩] else wins p n ++ [⟨n, (n : Int) + 1⟩]) else wins p n := rfl
theorem wins_off {p : Nat → Bool} {n : Nat} (h : p n = false) : wins p (n + 1) = wins p n := by rw [wins_succ, h]; rfl
theorem wins_new {p : Nat → Bool} {n : Nat} (h : p n = true) (h2 : n = 0 ∨ p (n - 1) = false) : wins p (n + 1) = wins p n ++ [⟨n, (n : Int) + 1⟩] := by
  rw [wins_succ, if_pos h, if_neg]
  rintro ⟨h3, h4⟩
  rcases h2 with h2 | h2
  · exact h3 h2
  · rw [h2] at h4; cases h4
theorem wins_on {p : Nat → Bool} {n : Nat} (h : p n = true) (h2 : n ≠ 0) (h3 : p (n - 1) = true) {W : List Win} {w : Win} (hw : wins p n = W ++ [w]) : wins p (n + 1) = W ++ [⟨w.fr, (n : Int) + 1⟩] := by
  rw [wins_succ, if_pos h, if_pos ⟨h2, h3⟩, hw]
  simp
/-- the last window ends at n if and only if n - 1 is in it -/
theorem wins_last (p : Nat → Bool) : ∀ n : Nat, (wins p n).length ≤ n ∧ (∀ W w, wins p n = W ++ [w] → w.to ≤ (n : Int) ∧ (w.to = (n : Int) ↔ n ≠ 0 ∧ p (n - 1) = true)) ∧ (n ≠ 0 → p (n - 1) = true → ∃ W w, wins p n = W ++ [w] ∧ w.to = (n : Int))
  | 0 => ⟨by simp [wins], fun W w h => by simp [wins] at h, fun h => absurd rfl h⟩
  | n + 1 => by
    obtain ⟨h0, h1, h2⟩ := wins_last p n
    simp only [Nat.add_sub_cancel]
    cases hp : p n with
    | false =>
      rw [wins_off hp]
      refine ⟨by omega, fun W w h => ?_, fun _ h => by cases h⟩
      obtain ⟨h3, h4⟩ := h1 W w h
      refine ⟨by omega, ⟨fun h => by omega, fun h => by simp at h⟩⟩
    | true =>
      by_cases hc : n ≠ 0 ∧ p (n - 1) = true
      · obtain ⟨W, w, hw, hto⟩ := h2 hc.1 hc.2
        rw [wins_on hp hc.1 hc.2 hw]
        refine ⟨by rw [hw] at h0; simp at h0 ⊢; omega, fun W' w' h => ?_, fun _ _ => ⟨W, _, rfl, by simp⟩⟩
        obtain ⟨_, e2⟩ := List.append_inj' h rfl
        rw [← (List.cons.inj e2).1]
        exact ⟨by simp, by simp [hc, hp]⟩
      · rw [wins_new hp (by rcases Nat.eq_zero_or_pos n with h | h; exact .inl h; right; cases hq : p (n - 1) with | false => rfl | true => exact absurd ⟨by omega, hq⟩ hc)]
        refine ⟨by simp; omega, fun W' w' h => ?_, fun _ _ => ⟨wins p n, _, rfl, by simp⟩⟩
        obtain ⟨_, e2⟩ := List.append_inj' h rfl
        rw [← (List.cons.inj e2).1]
        exact ⟨by simp, by simp [hp]⟩

/-- rows of bools -/
def gb (g : Nat → Bool) (n : Nat) : List (List Tr) := (List.range n).map fun j => [Tr.bool (g j)]
@[simp] theorem gb_len (g : Nat → Bool) (n : Nat) : (gb g n).length = n := by simp [gb]
theorem gb_get {g : Nat → Bool} {n j : Nat} (h : j < n) : (gb g n)[j]? = some [Tr.bool (g j)] := by
  unfold gb
  rw [List.getElem?_map, List.getElem?_range h]
  rfl
theorem gb_set {g : Nat → Bool} {n j : Nat} {x : Bool} : (gb g n).set j [Tr.bool x] = gb (fun i => if i = j then x else g i) n := by
  apply List.ext_getElem?
  intro i
  by_cases hi : i < n
  · rw [gb_get hi, List.getElem?_set]
    by_cases e : j = i
    · subst e; simp [hi]
    · rw [if_neg e, gb_get hi, if_neg (fun h => e h.symm)]
  · rw [List.getElem?_eq_none (by simp; omega), List.getElem?_eq_none (by simp; omega)]
theorem gb_rep (n : Nat) : List.replicate n (List.map Tr.raw [Value.bool false]) = gb (fun _ => false) n := by
  apply List.ext_getElem?
  intro i
  by_cases hi : i < n
  · rw [gb_get hi, List.getElem?_replicate, if_pos hi]; rfl
  · rw [List.getElem?_eq_none (by simp; omega), List.getElem?_eq_none (by simp; omega)]
theorem gb_ext {f g : Nat → Bool} {n : Nat} (h : ∀ j, j < n → f j = g j) : gb f n = gb g n := by
  unfold gb
  exact List.map_congr_left fun j hj => by rw [h j (by simpa using hj)]
end Lg
