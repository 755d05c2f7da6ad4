/- A part of the proof of a law of this seat: it adds no condition. By an AI agent. -/
set_option linter.all false
namespace Lg

/-! ### insertion sort, as slices.SortStableFunc does it on short slices: from the left, each new one is moved down past those that are greater -/
section isort
variable {α : Type} (lt : α → α → Bool)

def insRev (x : α) : List α → List α
  | [] => [x]
  | y :: r => if lt x y then y :: insRev x r else x :: y :: r
/-- x is put into l, from the right -/
def insB (x : α) (l : List α) : List α := (insRev lt x l.reverse).reverse
theorem insB_nil (x : α) : insB lt x [] = [x] := rfl
theorem insB_lt {x y : α} {l : List α} (h : lt x y = true) : insB lt x (l ++ [y]) = insB lt x l ++ [y] := by
  unfold insB
  rw [List.reverse_append, List.reverse_singleton, List.singleton_append, insRev, if_pos h, List.reverse_cons]
theorem insB_ge {x y : α} {l : List α} (h : lt x y = false) : insB lt x (l ++ [y]) = l ++ [y] ++ [x] := by
  unfold insB
  rw [List.reverse_append, List.reverse_singleton, List.singleton_append, insRev, if_neg (by simp [h])]
  simp
/-- all of a list, one after the other -/
def isortB : List α → List α → List α
  | acc, [] => acc
  | acc, x :: l => isortB (insB lt x acc) l
def isort (l : List α) : List α := isortB lt [] l

theorem insRev_perm (x : α) : ∀ l : List α, (insRev lt x l).Perm (x :: l)
  | [] => List.Perm.refl _
  | y :: r => by
    unfold insRev
    split
    · exact (List.Perm.cons y (insRev_perm x r)).trans (List.Perm.swap x y r)
    · exact List.Perm.refl _
theorem insB_perm (x : α) (l : List α) : (insB lt x l).Perm (x :: l) :=
  (List.reverse_perm _).trans ((insRev_perm lt x _).trans (List.Perm.cons x (List.reverse_perm l)))
theorem insB_len (x : α) (l : List α) : (insB lt x l).length = l.length + 1 := by
  have := (insB_perm lt x l).length_eq
  simpa using this
theorem isortB_perm : ∀ (l acc : List α), (isortB lt acc l).Perm (acc ++ l)
  | [], acc => by simp [isortB]
  | x :: l, acc => by
    rw [isortB]
    refine (isortB_perm l _).trans ?_
    refine (List.Perm.append_right l (insB_perm lt x acc)).trans ?_
    exact (List.perm_middle (a := x) (l₁ := acc) (l₂ := l)).symm
theorem isort_perm (l : List α) : (isort lt l).Perm l := by
  have := isortB_perm lt l []
  simpa [isort] using this
theorem isort_len (l : List α) : (isort lt l).length = l.length := (isort_perm lt l).length_eq
end isort

section keyed
variable {α : Type} (key : α → Int)

theorem insRev_key_sorted (x : α) : ∀ {l : List α}, l.Pairwise (fun a b => key b ≤ key a) → (insRev (fun a b => decide (key a < key b)) x l).Pairwise (fun a b => key b ≤ key a)
  | [], _ => by simp [insRev]
  | y :: r, h => by
    obtain ⟨h1, h2⟩ := List.pairwise_cons.1 h
    unfold insRev
    split
    · rename_i hc
      have hc : key x < key y := by simpa using hc
      refine List.pairwise_cons.2 ⟨?_, insRev_key_sorted x h2⟩
      intro z hz
      rcases List.mem_cons.1 ((insRev_perm _ x r).mem_iff.1 hz) with rfl | hz
      · omega
      · exact h1 z hz
    · rename_i hc
      have hc : ¬ key x < key y := by simpa using hc
      refine List.pairwise_cons.2 ⟨?_, h⟩
      intro z hz
      rcases List.mem_cons.1 hz with rfl | hz
      · omega
      · have := h1 z hz; omega
theorem insB_key_sorted (x : α) {l : List α} (h : l.Pairwise (fun a b => key a ≤ key b)) : (insB (fun a b => decide (key a < key b)) x l).Pairwise (fun a b => key a ≤ key b) := by
  unfold insB
  rw [List.pairwise_reverse]
  exact insRev_key_sorted key x (by rw [List.pairwise_reverse]; exact h)
theorem isortB_key_sorted : ∀ (l : List α) {acc : List α}, acc.Pairwise (fun a b => key a ≤ key b) → (isortB (fun a b => decide (key a < key b)) acc l).Pairwise (fun a b => key a ≤ key b)
  | [], _, h => h
  | x :: l, _, h => isortB_key_sorted l (insB_key_sorted key x h)
theorem isort_key_sorted (l : List α) : (isort (fun a b => decide (key a < key b)) l).Pairwise (fun a b => key a ≤ key b) := isortB_key_sorted key l List.Pairwise.nil

theorem insRev_key_filter (x : α) (d : Int) : ∀ {l : List α}, l.Pairwise (fun a b => key b ≤ key a) → (insRev (fun a b => decide (key a < key b)) x l).filter (fun a => decide (key a = d)) = ([x] ++ l).filter (fun a => decide (key a = d))
  | [], _ => by simp [insRev]
  | y :: r, h => by
    obtain ⟨h1, h2⟩ := List.pairwise_cons.1 h
    unfold insRev
    split
    · rename_i hc
      have hc : key x < key y := by simpa using hc
      rw [List.filter_cons, insRev_key_filter x d h2]
      by_cases hx : key x = d
      · have : key y ≠ d := by omega
        simp [hx, this]
      · simp [hx, List.filter_cons]
    · rfl
theorem insB_key_filter (x : α) (d : Int) {l : List α} (h : l.Pairwise (fun a b => key a ≤ key b)) : (insB (fun a b => decide (key a < key b)) x l).filter (fun a => decide (key a = d)) = (l ++ [x]).filter (fun a => decide (key a = d)) := by
  unfold insB
  rw [List.filter_reverse, insRev_key_filter key x d (by rw [List.pairwise_reverse]; exact h), ← List.filter_reverse]
  simp
theorem isortB_key_filter (d : Int) : ∀ (l : List α) {acc : List α}, acc.Pairwise (fun a b => key a ≤ key b) → (isortB (fun a b => decide (key a < key b)) acc l).filter (fun a => decide (key a = d)) = (acc ++ l).filter (fun a => decide (key a = d))
  | [], acc, _ => by simp [isortB]
  | x :: l, acc, h => by
    rw [isortB, isortB_key_filter d l (insB_key_sorted key x h), List.filter_append, insB_key_filter key x d h, ← List.filter_append]
    simp
theorem isort_key_filter (l : List α) (d : Int) : (isort (fun a b => decide (key a < key b)) l).filter (fun a => decide (key a = d)) = l.filter (fun a => decide (key a = d)) := by
  have := isortB_key_filter key d l (acc := []) List.Pairwise.nil
  simpa [isort] using this

/-- two lists in order that hold the same of each key are one -/
theorem eq_of_key_filters : ∀ {l1 l2 : List α}, l1.Pairwise (fun a b => key a ≤ key b) → l2.Pairwise (fun a b => key a ≤ key b) → (∀ d, l1.filter (fun a => decide (key a = d)) = l2.filter (fun a => decide (key a = d))) → l1 = l2
  | [], l2, _, _, h => by
    cases l2 with
    | nil => rfl
    | cons y l2 => have := h (key y); simp at this
  | x :: l1, l2, h1, h2, h => by
    obtain ⟨p1, p2⟩ := List.pairwise_cons.1 h1
    cases l2 with
    | nil => have := h (key x); simp at this
    | cons y l2 =>
      obtain ⟨q1, q2⟩ := List.pairwise_cons.1 h2
      have hxy : key x = key y := by
        have hx : x ∈ (y :: l2).filter (fun a => decide (key a = key x)) := by rw [← h]; simp
        have hy : y ∈ (x :: l1).filter (fun a => decide (key a = key y)) := by rw [h]; simp
        have a1 : key y ≤ key x := by
          rcases List.mem_cons.1 (List.mem_filter.1 hx).1 with e | e
          · rw [e]; omega
          · exact q1 _ e
        have a2 : key x ≤ key y := by
          rcases List.mem_cons.1 (List.mem_filter.1 hy).1 with e | e
          · rw [e]; omega
          · exact p1 _ e
        omega
      have he : x = y := by
        have := h (key x)
        rw [List.filter_cons, List.filter_cons] at this
        simp [hxy] at this
        exact this.1
      subst he
      congr 1
      refine eq_of_key_filters p2 q2 fun d => ?_
      have := h d
      rw [List.filter_cons, List.filter_cons] at this
      split at this
      · simpa using this
      · exact this
end keyed
end Lg
namespace Lg
/-! ### the first error of a row of tests -/
def firstE (e : Nat → Int) : Nat → Nat → Int
  | _, 0 => 0
  | k, n + 1 => if e k ≠ 0 then e k else firstE e (k + 1) n
theorem firstE_end {e : Nat → Int} {k n : Nat} (h : ¬ k < n) : firstE e k (n - k) = 0 := by
  rw [show n - k = 0 by omega]
  rfl
theorem firstE_step {e : Nat → Int} {k n : Nat} (h : k < n) : firstE e k (n - k) = if e k ≠ 0 then e k else firstE e (k + 1) (n - (k + 1)) := by
  obtain ⟨m, hm⟩ : ∃ m, n - k = m + 1 := ⟨n - k - 1, by omega⟩
  rw [hm, show n - (k + 1) = m by omega]
  rfl
theorem firstE_bad {e : Nat → Int} {k n : Nat} {c : Int} (h : k < n) (he : e k = c) (hc : c ≠ 0) : firstE e k (n - k) = c := by
  rw [firstE_step h, he, if_pos hc]
theorem firstE_ok {e : Nat → Int} {k n : Nat} (h : k < n) (he : e k = 0) : firstE e k (n - k) = firstE e (k + 1) (n - (k + 1)) := by
  rw [firstE_step h, if_neg (by simp [he])]
theorem firstE_zero {e : Nat → Int} : ∀ {n k : Nat}, firstE e k n = 0 → ∀ j, k ≤ j → j < k + n → e j = 0
  | 0, k, _, j, h1, h2 => by omega
  | n + 1, k, h, j, h1, h2 => by
    unfold firstE at h
    split at h
    · rename_i hc; exact absurd h hc
    · rename_i hc
      by_cases hj : j = k
      · subst hj; simpa using hc
      · exact firstE_zero h j (by omega) (by omega)
theorem firstE_ext {e f : Nat → Int} : ∀ {n k : Nat}, (∀ j, k ≤ j → j < k + n → e j = f j) → firstE e k n = firstE f k n
  | 0, _, _ => rfl
  | n + 1, k, h => by
    unfold firstE
    rw [h k (by omega) (by omega), firstE_ext fun j h1 h2 => h j (by omega) (by omega)]
end Lg
namespace Lg
/-! ### sums -/
def sumF {α : Type} (f : α → Int) : List α → Int
  | [] => 0
  | x :: l => f x + sumF f l
theorem sumF_cons {α : Type} (f : α → Int) (x : α) (l : List α) : sumF f (x :: l) = f x + sumF f l := rfl
theorem sumF_app {α : Type} (f : α → Int) : ∀ (a b : List α), sumF f (a ++ b) = sumF f a + sumF f b
  | [], b => by simp [sumF]
  | x :: a, b => by rw [List.cons_append, sumF_cons, sumF_cons, sumF_app f a b]; omega
theorem sumF_ext {α : Type} {f g : α → Int} : ∀ {l : List α}, (∀ x ∈ l, f x = g x) → sumF f l = sumF g l
  | [], _ => rfl
  | x :: l, h => by rw [sumF_cons, sumF_cons, h x (by simp), sumF_ext fun y hy => h y (by simp [hy])]
theorem sumF_ge {α : Type} {f : α → Int} : ∀ {l : List α}, (∀ x ∈ l, 0 ≤ f x) → 0 ≤ sumF f l
  | [], _ => Int.le_refl _
  | x :: l, h => by rw [sumF_cons]; have := h x (by simp); have := sumF_ge fun y hy => h y (List.mem_cons_of_mem x hy); omega
theorem firstE_drop {e : Nat → Int} : ∀ {n k : Nat}, (∀ j, k ≤ j → j < k + n → e j = 0) → firstE e k n = 0
  | 0, _, _ => rfl
  | n + 1, k, h => by
    unfold firstE
    rw [if_neg (by simp [h k (by omega) (by omega)])]
    exact firstE_drop fun j h1 h2 => h j (by omega) (by omega)
end Lg
namespace Lg
section isort2
variable {α : Type} (lt : α → α → Bool)
theorem isortB_snoc (x : α) : ∀ (l acc : List α), isortB lt acc (l ++ [x]) = insB lt x (isortB lt acc l)
  | [], acc => rfl
  | y :: l, acc => by rw [List.cons_append, isortB, isortB_snoc x l, isortB]
theorem isort_snoc (x : α) (l : List α) : isort lt (l ++ [x]) = insB lt x (isort lt l) := isortB_snoc lt x l []
theorem isort_take1 (xs : List α) : isort lt (xs.take 1) = xs.take 1 := by
  cases xs with
  | nil => rfl
  | cons x l => rfl
end isort2
end Lg
namespace Lg
section lexi
variable (key : Int → Int)
/-- by key, and among equals by what came first -/
def lexi (a b : Int) : Prop := key a < key b ∨ (key a = key b ∧ a < b)
theorem insRev_lexi (x : Int) : ∀ {l : List Int}, l.Pairwise (fun a b => lexi key b a) → (∀ y ∈ l, y < x) → (insRev (fun a b => decide (key a < key b)) x l).Pairwise (fun a b => lexi key b a)
  | [], _, _ => by simp [insRev]
  | y :: r, h, hx => by
    obtain ⟨h1, h2⟩ := List.pairwise_cons.1 h
    unfold insRev
    split
    · rename_i hc
      have hc : key x < key y := by simpa using hc
      refine List.pairwise_cons.2 ⟨?_, insRev_lexi x h2 fun z hz => hx z (by simp [hz])⟩
      intro z hz
      rcases List.mem_cons.1 ((insRev_perm _ x r).mem_iff.1 hz) with rfl | hz
      · exact .inl hc
      · exact h1 z hz
    · rename_i hc
      have hc : ¬ key x < key y := by simpa using hc
      refine List.pairwise_cons.2 ⟨?_, h⟩
      intro z hz
      have hzx := hx z hz
      have hzy : key z ≤ key y := by
        rcases List.mem_cons.1 hz with rfl | hz
        · omega
        · rcases h1 z hz with h | h <;> omega
      unfold lexi
      omega
theorem isortB_lexi : ∀ (l : List Int) {acc : List Int}, acc.Pairwise (lexi key) → l.Pairwise (· < ·) → (∀ y ∈ acc, ∀ x ∈ l, y < x) → (isortB (fun a b => decide (key a < key b)) acc l).Pairwise (lexi key)
  | [], _, h, _, _ => h
  | x :: l, acc, h, hl, hx => by
    obtain ⟨h1, h2⟩ := List.pairwise_cons.1 hl
    rw [isortB]
    refine isortB_lexi l ?_ h2 ?_
    · unfold insB
      rw [List.pairwise_reverse]
      exact insRev_lexi key x (by rw [List.pairwise_reverse]; exact h) (fun y hy => hx y (List.mem_reverse.1 hy) x (by simp))
    · intro y hy z hz
      rcases List.mem_cons.1 ((insB_perm _ x acc).mem_iff.1 hy) with rfl | hy
      · exact h1 z hz
      · exact hx y hy z (by simp [hz])
theorem isort_lexi {l : List Int} (h : l.Pairwise (· < ·)) : (isort (fun a b => decide (key a < key b)) l).Pairwise (lexi key) :=
  isortB_lexi key l List.Pairwise.nil h (by simp)
end lexi
end Lg
