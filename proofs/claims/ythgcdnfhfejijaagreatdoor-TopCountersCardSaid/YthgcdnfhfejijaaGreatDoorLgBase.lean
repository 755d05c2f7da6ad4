/- A part of the proof of a law of this seat: it adds no condition. By an AI agent. -/
import Derived.Tactics
import Derived.Laws.AppendOwn
import Derived.Laws.OwnMore
import Derived.Laws.MakeOwn
import Derived.Laws.Slices
import Derived.Laws.Strings
import Derived.Laws.StructEq
import Derived.Laws.Tables
import Derived.Laws.Rows
import Derived.Laws.Small
import Derived.Orders
import Derived.IntWalk
import Derived.Deep.LoopGhost
import Derived.OrdersIn
import Derived.CallsIn
import Derived.TacticsIn
set_option linter.all false
namespace Lg
open Go


/-! ### What a value reads as -/

def SameOn (w w' : World) (A A' : Nat → Prop) : Prop := ∀ b, b < w.heap.size → A b → A' b ∧ w'.heap[b]? = w.heap[b]?

/-! ### how often the world has drawn: no operation takes a draw back -/
theorem drawn_viewStore {P : Program} {w w' : World} {at_ : Addr} {u : TypeId} {k : Addr} {v : Value} {b : Bool} {l : List Addr} (h : w.viewStore P at_ u k v b = .ok (w', l)) : w'.drawn = w.drawn := by
 unfold World.viewStore at h
 simp only [bind, Except.bind, pure, Except.pure, MonadExcept.throw, throwThe, MonadExceptOf.throw] at h
 repeat' split at h
 all_goals first | (cases h; rfl) | (cases h; done)
theorem drawn_farStore {P : Program} {w w' : World} {a : Addr} {v : Value} {b : Bool} {l : List Addr} (h : w.farStore P a v b = .ok (w', l)) : w'.drawn = w.drawn := by
 unfold World.farStore at h
 repeat' split at h
 ·rename_i h1
  cases h
  exact drawn_viewStore h1
 all_goals cases h
theorem drawn_ask {α : Type} : ∀ (k : Ask α) (w : World), w.drawn ≤ (w.ask k).2.drawn
 | .done a, w => Nat.le_refl _
 | .ask what range k, w => by
  unfold World.ask
  simp only
  split
  ·exact drawn_ask _ w
  ·exact Nat.le_trans (Nat.le_succ w.drawn) (drawn_ask (k _) { w with drawn := w.drawn + 1 })
theorem drawn_sys (w : World) (c : Sys) : w.drawn ≤ (w.sys c).2.drawn := by
 unfold World.sys
 have := drawn_ask (Kernel.perform c w.os) w
 split
 ·exact Nat.le_refl _
 ·rename_i h
  rw [h] at this
  exact this
theorem run_drawn {P : Program} {α : Type} {s : Sem α} : ∀ {w w' : World} {v : α}, s.run P w = .ok v w' → w.drawn ≤ w'.drawn := by
 induction s with
 |pure a => intro w w' v h; simp only [Sem.run, Result.ok.injEq] at h; rw [h.2]; exact Nat.le_refl _
 |load m a k ih =>
  intro w w' v h
  unfold Sem.run at h
  split at h
  ·exact ih _ h
  ·split at h
   ·exact ih _ h
   ·cases h
 |store m a x k ih =>
  intro w w' v h
  have key : ∀ h0 : (match w.cell? a with
    |some _ => if w.frozen? a then Result.halt (.unsupported (.unsafePointer "a write to bytes that a string shares")) w else k.run P (w.setCell a x)
    |none => match w.farStore P a x (m == Mode.atomic) with
     | .ok (w, _) => k.run P w
     | .error h => .halt h w) = .ok v w', w.drawn ≤ w'.drawn := by
   intro h0
   split at h0
   ·split at h0
    ·cases h0
    ·exact ih (w := w.setCell a x) h0
   ·split at h0
    ·rename_i w2 l hf
     exact drawn_farStore hf ▸ ih h0
    ·cases h0
  cases x <;> simp only [Sem.run] at h <;> first | exact key h | (cases h; done)
 |new o k ih =>
  intro w w' v h
  simp only [Sem.run] at h
  exact ih _ (w := { w with heap := w.heap.push o }) h
 |shape r k ih => intro w w' v h; simp only [Sem.run] at h; exact ih _ h
 |freeze a n k ih =>
  intro w w' v h
  simp only [Sem.run] at h
  have := ih h
  unfold World.freeze at this
  split at this <;> exact this
 |frozen a k ih => intro w w' v h; simp only [Sem.run] at h; exact ih _ h
 |getObj r k ih =>
  intro w w' v h
  unfold Sem.run at h
  split at h
  ·cases h
  ·exact ih _ h
  ·cases h
 |setObj r o k ih =>
  intro w w' v h
  unfold Sem.run at h
  split at h
  ·cases h
  ·exact ih (w := { w with heap := w.heap.setIfInBounds r o }) h
  ·cases h
 |choose q k ih =>
  intro w w' v h
  unfold Sem.run at h
  split at h
  ·exact ih _ h
  ·exact Nat.le_trans (Nat.le_succ w.drawn) (ih _ (w := { w with drawn := w.drawn + 1 }) h)
 |sys c k ih =>
  intro w w' v h
  simp only [Sem.run] at h
  exact Nat.le_trans (drawn_sys w c) (ih _ h)
 |program k ih => intro w w' v h; simp only [Sem.run] at h; exact ih _ h
 |mark m k ih => intro w w' v h; simp only [Sem.run] at h; exact ih h
 |halt x => intro w w' v h; simp only [Sem.run] at h; cases h

structure Tr where
 rd : World → (Nat → Prop) → Value → Prop
 mono : ∀ {w w' : World} {A A' : Nat → Prop} {v : Value}, SameOn w w' A A' → rd w A v → rd w' A' v

/-- a row of cells reads as a list of trees; each cell is the value of one cell -/
def RdC (w : World) (A : Nat → Prop) : List Tr → List Value → Prop
 |[], vs => vs = []
 |t :: ts, vs => ∃ v rest, vs = v :: rest ∧ t.rd w A v ∧ v.oneCell' = true ∧ RdC w A ts rest

/-- the same for arguments and the parts of tuples (aggregates may stand there) -/
def RdL (w : World) (A : Nat → Prop) : List Tr → List Value → Prop
 |[], vs => vs = []
 |t :: ts, vs => ∃ v rest, vs = v :: rest ∧ t.rd w A v ∧ RdL w A ts rest

section rdc
variable {w w' : World} {A A' : Nat → Prop}
theorem RdC.mono (h : SameOn w w' A A') : ∀ {ts : List Tr} {vs : List Value}, RdC w A ts vs → RdC w' A' ts vs
 |[], _, hv => hv
 |t :: ts, _, ⟨v, rest, e, ht, ho, hr⟩ => ⟨v, rest, e, t.mono h ht, ho, RdC.mono h hr⟩
theorem RdL.mono (h : SameOn w w' A A') : ∀ {ts : List Tr} {vs : List Value}, RdL w A ts vs → RdL w' A' ts vs
 |[], _, hv => hv
 |t :: ts, _, ⟨v, rest, e, ht, hr⟩ => ⟨v, rest, e, t.mono h ht, RdL.mono h hr⟩
theorem RdC.length : ∀ {ts : List Tr} {vs : List Value}, RdC w A ts vs → vs.length = ts.length
 |[], _, hv => by simp [RdC] at hv; simp [hv]
 |t :: ts, _, ⟨v, rest, e, _, _, hr⟩ => by simp [e, RdC.length hr]
theorem RdL.length : ∀ {ts : List Tr} {vs : List Value}, RdL w A ts vs → vs.length = ts.length
 |[], _, hv => by simp [RdL] at hv; simp [hv]
 |t :: ts, _, ⟨v, rest, e, _, hr⟩ => by simp [e, RdL.length hr]
theorem RdC.app : ∀ {ts us : List Tr} {vs xs : List Value}, RdC w A ts vs → RdC w A us xs → RdC w A (ts ++ us) (vs ++ xs)
 |[], _, _, _, hv, hu => by simp [RdC] at hv; simpa [hv] using hu
 |t :: ts, _, _, _, ⟨v, rest, e, ht, ho, hr⟩, hu => ⟨v, _, by rw [e]; rfl, ht, ho, RdC.app hr hu⟩
theorem RdC.split : ∀ {ts us : List Tr} {vs : List Value}, RdC w A (ts ++ us) vs → RdC w A ts (vs.take ts.length) ∧ RdC w A us (vs.drop ts.length)
 |[], _, _, h => ⟨by simp [RdC], by simpa using h⟩
 |t :: ts, _, _, ⟨v, rest, e, ht, ho, hr⟩ => by
  have ⟨h1, h2⟩ := RdC.split hr
  subst e
  exact ⟨⟨v, _, by simp, ht, ho, h1⟩, by simpa using h2⟩
theorem RdC.take {ts : List Tr} {vs : List Value} (h : RdC w A ts vs) (n : Nat) : RdC w A (ts.take n) (vs.take n) := by
 induction ts generalizing vs n with
 |nil => simp [RdC] at h; simp [h, RdC]
 |cons t ts ih =>
  obtain ⟨v, rest, rfl, ht, ho, hr⟩ := h
  cases n with
  |zero => simp [RdC]
  |succ n => exact ⟨v, _, by simp, ht, ho, ih hr n⟩
theorem RdC.drop {ts : List Tr} {vs : List Value} (h : RdC w A ts vs) (n : Nat) : RdC w A (ts.drop n) (vs.drop n) := by
 induction ts generalizing vs n with
 |nil => simp [RdC] at h; simp [h, RdC]
 |cons t ts ih =>
  obtain ⟨v, rest, rfl, ht, ho, hr⟩ := h
  cases n with
  |zero => simpa using ⟨v, rest, rfl, ht, ho, hr⟩
  |succ n => simpa using ih hr n
theorem RdC.one : ∀ {ts : List Tr} {vs : List Value}, RdC w A ts vs → ∀ v ∈ vs, v.oneCell' = true
 |[], _, hv => by simp [RdC] at hv; simp [hv]
 |t :: ts, _, ⟨v, rest, e, _, ho, hr⟩ => by
  subst e
  intro u hu
  rcases List.mem_cons.1 hu with rfl | hu
  ·exact ho
  ·exact RdC.one hr u hu
theorem RdC.get {ts : List Tr} {vs : List Value} (h : RdC w A ts vs) {i : Nat} {t : Tr} (hi : ts[i]? = some t) : ∃ v, vs[i]? = some v ∧ t.rd w A v ∧ v.oneCell' = true := by
 induction ts generalizing vs i with
 |nil => simp at hi
 |cons u ts ih =>
  obtain ⟨v, rest, rfl, ht, ho, hr⟩ := h
  cases i with
  |zero => simp at hi; subst hi; exact ⟨v, by simp, ht, ho⟩
  |succ i => simp at hi; obtain ⟨x, h1, h2⟩ := ih hr hi; exact ⟨x, by simpa using h1, h2⟩
theorem RdL.get {ts : List Tr} {vs : List Value} (h : RdL w A ts vs) {i : Nat} {t : Tr} (hi : ts[i]? = some t) : ∃ v, vs[i]? = some v ∧ t.rd w A v := by
 induction ts generalizing vs i with
 |nil => simp at hi
 |cons u ts ih =>
  obtain ⟨v, rest, rfl, ht, hr⟩ := h
  cases i with
  |zero => simp at hi; subst hi; exact ⟨v, by simp, ht⟩
  |succ i => simp at hi; obtain ⟨x, h1, h2⟩ := ih hr hi; exact ⟨x, by simpa using h1, h2⟩
theorem RdC.set {ts : List Tr} {vs : List Value} (h : RdC w A ts vs) (i : Nat) {t : Tr} {v : Value} (ht : t.rd w A v) (ho : v.oneCell' = true) : RdC w A (ts.set i t) (vs.set i v) := by
 induction ts generalizing vs i with
 |nil => simp [RdC] at h; simp [h, RdC]
 |cons u ts ih =>
  obtain ⟨x, rest, rfl, hx, hxo, hr⟩ := h
  cases i with
  |zero => exact ⟨v, rest, by simp, ht, ho, hr⟩
  |succ i => exact ⟨x, rest.set i v, by simp, hx, hxo, ih hr i⟩
end rdc
end Lg
