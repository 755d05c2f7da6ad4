/- A part of the proof of a law of this seat: it adds no condition. By an AI agent. -/
import Derived.Tactics
import Derived.Laws.AppendOwn
import Derived.Laws.OwnMore
import Derived.Laws.MakeOwn
import Derived.Laws.Slices
import Derived.Laws.Strings
import Derived.Laws.StructEq
import Derived.Laws.Tables
import Derived.Laws.Rows
import Derived.Laws.Small
import Derived.Orders
import Derived.IntWalk
import Derived.Deep.LoopGhost
import Derived.OrdersIn
import Derived.CallsIn
import Derived.TacticsIn
section
set_option linter.all false
namespace Lg

/-! ### insertion sort, as slices.SortStableFunc does it on short slices: from the left, each new one is moved down past those that are greater -/
section isort
variable {α : Type} (lt : α → α → Bool)

def insRev (x : α) : List α → List α
 |[] => [x]
 |y :: r => if lt x y then y :: insRev x r else x :: y :: r
/-- x is put into l, from the right -/
def insB (x : α) (l : List α) : List α := (insRev lt x l.reverse).reverse
theorem insB_nil (x : α) : insB lt x [] = [x] := rfl
theorem insB_lt {x y : α} {l : List α} (h : lt x y = true) : insB lt x (l ++ [y]) = insB lt x l ++ [y] := by
 unfold insB
 rw [List.reverse_append, List.reverse_singleton, List.singleton_append, insRev, if_pos h, List.reverse_cons]
theorem insB_ge {x y : α} {l : List α} (h : lt x y = false) : insB lt x (l ++ [y]) = l ++ [y] ++ [x] := by
 unfold insB
 rw [List.reverse_append, List.reverse_singleton, List.singleton_append, insRev, if_neg (by simp [h])]
 simp
/-- all of a list, one after the other -/
def isortB : List α → List α → List α
 |acc, [] => acc
 |acc, x :: l => isortB (insB lt x acc) l
def isort (l : List α) : List α := isortB lt [] l

theorem insRev_perm (x : α) : ∀ l : List α, (insRev lt x l).Perm (x :: l)
 |[] => List.Perm.refl _
 |y :: r => by
  unfold insRev
  split
  ·exact (List.Perm.cons y (insRev_perm x r)).trans (List.Perm.swap x y r)
  ·exact List.Perm.refl _
theorem insB_perm (x : α) (l : List α) : (insB lt x l).Perm (x :: l) :=
 (List.reverse_perm _).trans ((insRev_perm lt x _).trans (List.Perm.cons x (List.reverse_perm l)))
theorem isortB_perm : ∀ (l acc : List α), (isortB lt acc l).Perm (acc ++ l)
 |[], acc => by simp [isortB]
 |x :: l, acc => by
  rw [isortB]
  refine (isortB_perm l _).trans ?_
  refine (List.Perm.append_right l (insB_perm lt x acc)).trans ?_
  exact (List.perm_middle (a := x) (l₁ := acc) (l₂ := l)).symm
theorem isort_perm (l : List α) : (isort lt l).Perm l := by
 have := isortB_perm lt l []
 simpa [isort] using this
theorem isort_len (l : List α) : (isort lt l).length = l.length := (isort_perm lt l).length_eq
end isort

section keyed
variable {α : Type} (key : α → Int)

end keyed
end Lg
namespace Lg
/-! ### the first error of a row of tests -/
def firstE (e : Nat → Int) : Nat → Nat → Int
 |_, 0 => 0
 |k, n + 1 => if e k ≠ 0 then e k else firstE e (k + 1) n
theorem firstE_end {e : Nat → Int} {k n : Nat} (h : ¬ k < n) : firstE e k (n - k) = 0 := by
 rw [show n - k = 0 by omega]
 rfl
theorem firstE_step {e : Nat → Int} {k n : Nat} (h : k < n) : firstE e k (n - k) = if e k ≠ 0 then e k else firstE e (k + 1) (n - (k + 1)) := by
 obtain ⟨m, hm⟩ : ∃ m, n - k = m + 1 := ⟨n - k - 1, by omega⟩
 rw [hm, show n - (k + 1) = m by omega]
 rfl
theorem firstE_bad {e : Nat → Int} {k n : Nat} {c : Int} (h : k < n) (he : e k = c) (hc : c ≠ 0) : firstE e k (n - k) = c := by
 rw [firstE_step h, he, if_pos hc]
theorem firstE_ok {e : Nat → Int} {k n : Nat} (h : k < n) (he : e k = 0) : firstE e k (n - k) = firstE e (k + 1) (n - (k + 1)) := by
 rw [firstE_step h, if_neg (by simp [he])]
theorem firstE_zero {e : Nat → Int} : ∀ {n k : Nat}, firstE e k n = 0 → ∀ j, k ≤ j → j < k + n → e j = 0
 |0, k, _, j, h1, h2 => by omega
 |n + 1, k, h, j, h1, h2 => by
  unfold firstE at h
  split at h
  ·rename_i hc; exact absurd h hc
  ·rename_i hc
   by_cases hj : j = k
   ·subst hj; simpa using hc
   ·exact firstE_zero h j (by omega) (by omega)
end Lg
namespace Lg
/-! ### sums -/
def sumF {α : Type} (f : α → Int) : List α → Int
 |[] => 0
 |x :: l => f x + sumF f l
theorem sumF_cons {α : Type} (f : α → Int) (x : α) (l : List α) : sumF f (x :: l) = f x + sumF f l := rfl
end Lg
namespace Lg
section isort2
variable {α : Type} (lt : α → α → Bool)
theorem isortB_snoc (x : α) : ∀ (l acc : List α), isortB lt acc (l ++ [x]) = insB lt x (isortB lt acc l)
 |[], acc => rfl
 |y :: l, acc => by rw [List.cons_append, isortB, isortB_snoc x l, isortB]
theorem isort_snoc (x : α) (l : List α) : isort lt (l ++ [x]) = insB lt x (isort lt l) := isortB_snoc lt x l []
theorem isort_take1 (xs : List α) : isort lt (xs.take 1) = xs.take 1 := by
 cases xs with
 |nil => rfl
 |cons x l => rfl
end isort2
end Lg
namespace Lg
section lexi
variable (key : Int → Int)
/-- by key, and among equals by what came first -/
def lexi (a b : Int) : Prop := key a < key b ∨ (key a = key b ∧ a < b)
end lexi
end Lg
end
section
set_option linter.all false
namespace Lg
open Go


/-! ### What a value reads as -/

def SameOn (w w' : World) (A A' : Nat → Prop) : Prop := ∀ b, b < w.heap.size → A b → A' b ∧ w'.heap[b]? = w.heap[b]?

/-! ### how often the world has drawn: no operation takes a draw back -/
theorem drawn_viewStore {P : Program} {w w' : World} {at_ : Addr} {u : TypeId} {k : Addr} {v : Value} {b : Bool} {l : List Addr} (h : w.viewStore P at_ u k v b = .ok (w', l)) : w'.drawn = w.drawn := by
 unfold World.viewStore at h
 simp only [bind, Except.bind, pure, Except.pure, MonadExcept.throw, throwThe, MonadExceptOf.throw] at h
 repeat' split at h
 all_goals first | (cases h; rfl) | (cases h; done)
theorem drawn_farStore {P : Program} {w w' : World} {a : Addr} {v : Value} {b : Bool} {l : List Addr} (h : w.farStore P a v b = .ok (w', l)) : w'.drawn = w.drawn := by
 unfold World.farStore at h
 repeat' split at h
 ·rename_i h1
  cases h
  exact drawn_viewStore h1
 all_goals cases h
theorem drawn_ask {α : Type} : ∀ (k : Ask α) (w : World), w.drawn ≤ (w.ask k).2.drawn
 | .done a, w => Nat.le_refl _
 | .ask what range k, w => by
  unfold World.ask
  simp only
  split
  ·exact drawn_ask _ w
  ·exact Nat.le_trans (Nat.le_succ w.drawn) (drawn_ask (k _) { w with drawn := w.drawn + 1 })
theorem drawn_sys (w : World) (c : Sys) : w.drawn ≤ (w.sys c).2.drawn := by
 unfold World.sys
 have := drawn_ask (Kernel.perform c w.os) w
 split
 ·exact Nat.le_refl _
 ·rename_i h
  rw [h] at this
  exact this
theorem run_drawn {P : Program} {α : Type} {s : Sem α} : ∀ {w w' : World} {v : α}, s.run P w = .ok v w' → w.drawn ≤ w'.drawn := by
 induction s with
 |pure a => intro w w' v h; simp only [Sem.run, Result.ok.injEq] at h; rw [h.2]; exact Nat.le_refl _
 |load m a k ih =>
  intro w w' v h
  unfold Sem.run at h
  split at h
  ·exact ih _ h
  ·split at h
   ·exact ih _ h
   ·cases h
 |store m a x k ih =>
  intro w w' v h
  have key : ∀ h0 : (match w.cell? a with
    |some _ => if w.frozen? a then Result.halt (.unsupported (.unsafePointer "a write to bytes that a string shares")) w else k.run P (w.setCell a x)
    |none => match w.farStore P a x (m == Mode.atomic) with
     | .ok (w, _) => k.run P w
     | .error h => .halt h w) = .ok v w', w.drawn ≤ w'.drawn := by
   intro h0
   split at h0
   ·split at h0
    ·cases h0
    ·exact ih (w := w.setCell a x) h0
   ·split at h0
    ·rename_i w2 l hf
     exact drawn_farStore hf ▸ ih h0
    ·cases h0
  cases x <;> simp only [Sem.run] at h <;> first | exact key h | (cases h; done)
 |new o k ih =>
  intro w w' v h
  simp only [Sem.run] at h
  exact ih _ (w := { w with heap := w.heap.push o }) h
 |shape r k ih => intro w w' v h; simp only [Sem.run] at h; exact ih _ h
 |freeze a n k ih =>
  intro w w' v h
  simp only [Sem.run] at h
  have := ih h
  unfold World.freeze at this
  split at this <;> exact this
 |frozen a k ih => intro w w' v h; simp only [Sem.run] at h; exact ih _ h
 |getObj r k ih =>
  intro w w' v h
  unfold Sem.run at h
  split at h
  ·cases h
  ·exact ih _ h
  ·cases h
 |setObj r o k ih =>
  intro w w' v h
  unfold Sem.run at h
  split at h
  ·cases h
  ·exact ih (w := { w with heap := w.heap.setIfInBounds r o }) h
  ·cases h
 |choose q k ih =>
  intro w w' v h
  unfold Sem.run at h
  split at h
  ·exact ih _ h
  ·exact Nat.le_trans (Nat.le_succ w.drawn) (ih _ (w := { w with drawn := w.drawn + 1 }) h)
 |sys c k ih =>
  intro w w' v h
  simp only [Sem.run] at h
  exact Nat.le_trans (drawn_sys w c) (ih _ h)
 |program k ih => intro w w' v h; simp only [Sem.run] at h; exact ih _ h
 |mark m k ih => intro w w' v h; simp only [Sem.run] at h; exact ih h
 |halt x => intro w w' v h; simp only [Sem.run] at h; cases h

structure Tr where
 rd : World → (Nat → Prop) → Value → Prop
 mono : ∀ {w w' : World} {A A' : Nat → Prop} {v : Value}, SameOn w w' A A' → rd w A v → rd w' A' v

/-- a row of cells reads as a list of trees; each cell is the value of one cell -/
def RdC (w : World) (A : Nat → Prop) : List Tr → List Value → Prop
 |[], vs => vs = []
 |t :: ts, vs => ∃ v rest, vs = v :: rest ∧ t.rd w A v ∧ v.oneCell' = true ∧ RdC w A ts rest

/-- the same for arguments and the parts of tuples (aggregates may stand there) -/
def RdL (w : World) (A : Nat → Prop) : List Tr → List Value → Prop
 |[], vs => vs = []
 |t :: ts, vs => ∃ v rest, vs = v :: rest ∧ t.rd w A v ∧ RdL w A ts rest

section rdc
variable {w w' : World} {A A' : Nat → Prop}
theorem RdC.mono (h : SameOn w w' A A') : ∀ {ts : List Tr} {vs : List Value}, RdC w A ts vs → RdC w' A' ts vs
 |[], _, hv => hv
 |t :: ts, _, ⟨v, rest, e, ht, ho, hr⟩ => ⟨v, rest, e, t.mono h ht, ho, RdC.mono h hr⟩
theorem RdL.mono (h : SameOn w w' A A') : ∀ {ts : List Tr} {vs : List Value}, RdL w A ts vs → RdL w' A' ts vs
 |[], _, hv => hv
 |t :: ts, _, ⟨v, rest, e, ht, hr⟩ => ⟨v, rest, e, t.mono h ht, RdL.mono h hr⟩
theorem RdC.length : ∀ {ts : List Tr} {vs : List Value}, RdC w A ts vs → vs.length = ts.length
 |[], _, hv => by simp [RdC] at hv; simp [hv]
 |t :: ts, _, ⟨v, rest, e, _, _, hr⟩ => by simp [e, RdC.length hr]
theorem RdL.length : ∀ {ts : List Tr} {vs : List Value}, RdL w A ts vs → vs.length = ts.length
 |[], _, hv => by simp [RdL] at hv; simp [hv]
 |t :: ts, _, ⟨v, rest, e, _, hr⟩ => by simp [e, RdL.length hr]
theorem RdC.app : ∀ {ts us : List Tr} {vs xs : List Value}, RdC w A ts vs → RdC w A us xs → RdC w A (ts ++ us) (vs ++ xs)
 |[], _, _, _, hv, hu => by simp [RdC] at hv; simpa [hv] using hu
 |t :: ts, _, _, _, ⟨v, rest, e, ht, ho, hr⟩, hu => ⟨v, _, by rw [e]; rfl, ht, ho, RdC.app hr hu⟩
theorem RdC.split : ∀ {ts us : List Tr} {vs : List Value}, RdC w A (ts ++ us) vs → RdC w A ts (vs.take ts.length) ∧ RdC w A us (vs.drop ts.length)
 |[], _, _, h => ⟨by simp [RdC], by simpa using h⟩
 |t :: ts, _, _, ⟨v, rest, e, ht, ho, hr⟩ => by
  have ⟨h1, h2⟩ := RdC.split hr
  subst e
  exact ⟨⟨v, _, by simp, ht, ho, h1⟩, by simpa using h2⟩
theorem RdC.take {ts : List Tr} {vs : List Value} (h : RdC w A ts vs) (n : Nat) : RdC w A (ts.take n) (vs.take n) := by
 induction ts generalizing vs n with
 |nil => simp [RdC] at h; simp [h, RdC]
 |cons t ts ih =>
  obtain ⟨v, rest, rfl, ht, ho, hr⟩ := h
  cases n with
  |zero => simp [RdC]
  |succ n => exact ⟨v, _, by simp, ht, ho, ih hr n⟩
theorem RdC.drop {ts : List Tr} {vs : List Value} (h : RdC w A ts vs) (n : Nat) : RdC w A (ts.drop n) (vs.drop n) := by
 induction ts generalizing vs n with
 |nil => simp [RdC] at h; simp [h, RdC]
 |cons t ts ih =>
  obtain ⟨v, rest, rfl, ht, ho, hr⟩ := h
  cases n with
  |zero => simpa using ⟨v, rest, rfl, ht, ho, hr⟩
  |succ n => simpa using ih hr n
theorem RdC.one : ∀ {ts : List Tr} {vs : List Value}, RdC w A ts vs → ∀ v ∈ vs, v.oneCell' = true
 |[], _, hv => by simp [RdC] at hv; simp [hv]
 |t :: ts, _, ⟨v, rest, e, _, ho, hr⟩ => by
  subst e
  intro u hu
  rcases List.mem_cons.1 hu with rfl | hu
  ·exact ho
  ·exact RdC.one hr u hu
theorem RdC.get {ts : List Tr} {vs : List Value} (h : RdC w A ts vs) {i : Nat} {t : Tr} (hi : ts[i]? = some t) : ∃ v, vs[i]? = some v ∧ t.rd w A v ∧ v.oneCell' = true := by
 induction ts generalizing vs i with
 |nil => simp at hi
 |cons u ts ih =>
  obtain ⟨v, rest, rfl, ht, ho, hr⟩ := h
  cases i with
  |zero => simp at hi; subst hi; exact ⟨v, by simp, ht, ho⟩
  |succ i => simp at hi; obtain ⟨x, h1, h2⟩ := ih hr hi; exact ⟨x, by simpa using h1, h2⟩
theorem RdL.get {ts : List Tr} {vs : List Value} (h : RdL w A ts vs) {i : Nat} {t : Tr} (hi : ts[i]? = some t) : ∃ v, vs[i]? = some v ∧ t.rd w A v := by
 induction ts generalizing vs i with
 |nil => simp at hi
 |cons u ts ih =>
  obtain ⟨v, rest, rfl, ht, hr⟩ := h
  cases i with
  |zero => simp at hi; subst hi; exact ⟨v, by simp, ht⟩
  |succ i => simp at hi; obtain ⟨x, h1, h2⟩ := ih hr hi; exact ⟨x, by simpa using h1, h2⟩
theorem RdC.set {ts : List Tr} {vs : List Value} (h : RdC w A ts vs) (i : Nat) {t : Tr} {v : Value} (ht : t.rd w A v) (ho : v.oneCell' = true) : RdC w A (ts.set i t) (vs.set i v) := by
 induction ts generalizing vs i with
 |nil => simp [RdC] at h; simp [h, RdC]
 |cons u ts ih =>
  obtain ⟨x, rest, rfl, hx, hxo, hr⟩ := h
  cases i with
  |zero => exact ⟨v, rest, by simp, ht, ho, hr⟩
  |succ i => exact ⟨x, rest.set i v, by simp, hx, hxo, ih hr i⟩
end rdc
end Lg
end
