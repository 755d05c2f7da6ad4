/- A part of the proof of a law of this seat: it adds no condition. By an AI agent. -/
import Derived.Tactics
import Derived.Laws.AppendOwn
import Derived.Laws.OwnMore
import Derived.Laws.MakeOwn
import Derived.Laws.Slices
import Derived.Laws.Strings
import Derived.Laws.StructEq
import Derived.Laws.Tables
import Derived.Laws.Rows
import Derived.Laws.Small
import Derived.Orders
import Derived.IntWalk
import Derived.Deep.LoopGhost
import Derived.OrdersIn
import Derived.CallsIn
import Derived.TacticsIn
import Derived.Calls
import Derived.RunT
import Derived.Lone
section
set_option linter.all false
namespace Lg
open Go


/-! ### What a value reads as -/

def SameOn (w w' : World) (A A' : Nat → Prop) : Prop := ∀ b, b < w.heap.size → A b → A' b ∧ w'.heap[b]? = w.heap[b]?

/-! ### how often the world has drawn: no operation takes a draw back -/
theorem drawn_viewStore {P : Program} {w w' : World} {at_ : Addr} {u : TypeId} {k : Addr} {v : Value} {b : Bool} {l : List Addr} (h : w.viewStore P at_ u k v b = .ok (w', l)) : w'.drawn = w.drawn := by
  unfold World.viewStore at h
  simp only [bind, Except.bind, pure, Except.pure, MonadExcept.throw, throwThe, MonadExceptOf.throw] at h
  repeat' split at h
  all_goals first | (cases h; rfl) | (cases h; done)
theorem drawn_farStore {P : Program} {w w' : World} {a : Addr} {v : Value} {b : Bool} {l : List Addr} (h : w.farStore P a v b = .ok (w', l)) : w'.drawn = w.drawn := by
  unfold World.farStore at h
  repeat' split at h
  · rename_i h1
    cases h
    exact drawn_viewStore h1
  all_goals cases h
theorem drawn_ask {α : Type} : ∀ (k : Ask α) (w : World), w.drawn ≤ (w.ask k).2.drawn
  | .done a, w => Nat.le_refl _
  | .ask what range k, w => by
    unfold World.ask
    simp only
    split
    · exact drawn_ask _ w
    · exact Nat.le_trans (Nat.le_succ w.drawn) (drawn_ask (k _) { w with drawn := w.drawn + 1 })
theorem drawn_sys (w : World) (c : Sys) : w.drawn ≤ (w.sys c).2.drawn := by
  unfold World.sys
  have := drawn_ask (Kernel.perform c w.os) w
  split
  · exact Nat.le_refl _
  · rename_i h
    rw [h] at this
    exact this
theorem run_drawn {P : Program} {α : Type} {s : Sem α} : ∀ {w w' : World} {v : α}, s.run P w = .ok v w' → w.drawn ≤ w'.drawn := by
  induction s with
  | pure a => intro w w' v h; simp only [Sem.run, Result.ok.injEq] at h; rw [h.2]; exact Nat.le_refl _
  | load m a k ih =>
    intro w w' v h
    unfold Sem.run at h
    split at h
    · exact ih _ h
    · split at h
      · exact ih _ h
      · cases h
  | store m a x k ih =>
    intro w w' v h
    have key : ∀ h0 : (match w.cell? a with
        | some _ => if w.frozen? a then Result.halt (.unsupported (.unsafePointer "a write to bytes that a string shares")) w else k.run P (w.setCell a x)
        | none => match w.farStore P a x (m == Mode.atomic) with
          | .ok (w, _) => k.run P w
          | .error h => .halt h w) = .ok v w', w.drawn ≤ w'.drawn := by
      intro h0
      split at h0
      · split at h0
        · cases h0
        · exact ih (w := w.setCell a x) h0
      · split at h0
        · rename_i w2 l hf
          exact drawn_farStore hf ▸ ih h0
        · cases h0
    cases x <;> simp only [Sem.run] at h <;> first | exact key h | (cases h; done)
  | new o k ih =>
    intro w w' v h
    simp only [Sem.run] at h
    exact ih _ (w := { w with heap := w.heap.push o }) h
  | shape r k ih => intro w w' v h; simp only [Sem.run] at h; exact ih _ h
  | freeze a n k ih =>
    intro w w' v h
    simp only [Sem.run] at h
    have := ih h
    unfold World.freeze at this
    split at this <;> exact this
  | frozen a k ih => intro w w' v h; simp only [Sem.run] at h; exact ih _ h
  | getObj r k ih =>
    intro w w' v h
    unfold Sem.run at h
    split at h
    · cases h
    · exact ih _ h
    · cases h
  | setObj r o k ih =>
    intro w w' v h
    unfold Sem.run at h
    split at h
    · cases h
    · exact ih (w := { w with heap := w.heap.setIfInBounds r o }) h
    · cases h
  | choose q k ih =>
    intro w w' v h
    unfold Sem.run at h
    split at h
    · exact ih _ h
    · exact Nat.le_trans (Nat.le_succ w.drawn) (ih _ (w := { w with drawn := w.drawn + 1 }) h)
  | sys c k ih =>
    intro w w' v h
    simp only [Sem.run] at h
    exact Nat.le_trans (drawn_sys w c) (ih _ h)
  | program k ih => intro w w' v h; simp only [Sem.run] at h; exact ih _ h
  | mark m k ih => intro w w' v h; simp only [Sem.run] at h; exact ih h
  | halt x => intro w w' v h; simp only [Sem.run] at h; cases h

structure Tr where
  rd : World → (Nat → Prop) → Value → Prop
  mono : ∀ {w w' : World} {A A' : Nat → Prop} {v : Value}, SameOn w w' A A' → rd w A v → rd w' A' v

/-- a row of cells reads as a list of trees; each cell is the value of one cell -/
def RdC (w : World) (A : Nat → Prop) : List Tr → List Value → Prop
  | [], vs => vs = []
  | t :: ts, vs => ∃ v rest, vs = v :: rest ∧ t.rd w A v ∧ v.oneCell' = true ∧ RdC w A ts rest

/-- the same for arguments and the parts of tuples (aggregates may stand there) -/
def RdL (w : World) (A : Nat → Prop) : List Tr → List Value → Prop
  | [], vs => vs = []
  | t :: ts, vs => ∃ v rest, vs = v :: rest ∧ t.rd w A v ∧ RdL w A ts rest

section rdc
variable {w w' : World} {A A' : Nat → Prop}
theorem RdC.mono (h : SameOn w w' A A') : ∀ {ts : List Tr} {vs : List Value}, RdC w A ts vs → RdC w' A' ts vs
  | [], _, hv => hv
  | t :: ts, _, ⟨v, rest, e, ht, ho, hr⟩ => ⟨v, rest, e, t.mono h ht, ho, RdC.mono h hr⟩
theorem RdL.mono (h : SameOn w w' A A') : ∀ {ts : List Tr} {vs : List Value}, RdL w A ts vs → RdL w' A' ts vs
  | [], _, hv => hv
  | t :: ts, _, ⟨v, rest, e, ht, hr⟩ => ⟨v, rest, e, t.mono h ht, RdL.mono h hr⟩
theorem RdC.length : ∀ {ts : List Tr} {vs : List Value}, RdC w A ts vs → vs.length = ts.length
  | [], _, hv => by simp [RdC] at hv; simp [hv]
  | t :: ts, _, ⟨v, rest, e, _, _, hr⟩ => by simp [e, RdC.length hr]
theorem RdL.length : ∀ {ts : List Tr} {vs : List Value}, RdL w A ts vs → vs.length = ts.length
  | [], _, hv => by simp [RdL] at hv; simp [hv]
  | t :: ts, _, ⟨v, rest, e, _, hr⟩ => by simp [e, RdL.length hr]
theorem RdC.app : ∀ {ts us : List Tr} {vs xs : List Value}, RdC w A ts vs → RdC w A us xs → RdC w A (ts ++ us) (vs ++ xs)
  | [], _, _, _, hv, hu => by simp [RdC] at hv; simpa [hv] using hu
  | t :: ts, _, _, _, ⟨v, rest, e, ht, ho, hr⟩, hu => ⟨v, _, by rw [e]; rfl, ht, ho, RdC.app hr hu⟩
theorem RdC.split : ∀ {ts us : List Tr} {vs : List Value}, RdC w A (ts ++ us) vs → RdC w A ts (vs.take ts.length) ∧ RdC w A us (vs.drop ts.length)
  | [], _, _, h => ⟨by simp [RdC], by simpa using h⟩
  | t :: ts, _, _, ⟨v, rest, e, ht, ho, hr⟩ => by
    have ⟨h1, h2⟩ := RdC.split hr
    subst e
    exact ⟨⟨v, _, by simp, ht, ho, h1⟩, by simpa using h2⟩
theorem RdC.take {ts : List Tr} {vs : List Value} (h : RdC w A ts vs) (n : Nat) : RdC w A (ts.take n) (vs.take n) := by
  induction ts generalizing vs n with
  | nil => simp [RdC] at h; simp [h, RdC]
  | cons t ts ih =>
    obtain ⟨v, rest, rfl, ht, ho, hr⟩ := h
    cases n with
    | zero => simp [RdC]
    | succ n => exact ⟨v, _, by simp, ht, ho, ih hr n⟩
theorem RdC.drop {ts : List Tr} {vs : List Value} (h : RdC w A ts vs) (n : Nat) : RdC w A (ts.drop n) (vs.drop n) := by
  induction ts generalizing vs n with
  | nil => simp [RdC] at h; simp [h, RdC]
  | cons t ts ih =>
    obtain ⟨v, rest, rfl, ht, ho, hr⟩ := h
    cases n with
    | zero => simpa using ⟨v, rest, rfl, ht, ho, hr⟩
    | succ n => simpa using ih hr n
theorem RdC.one : ∀ {ts : List Tr} {vs : List Value}, RdC w A ts vs → ∀ v ∈ vs, v.oneCell' = true
  | [], _, hv => by simp [RdC] at hv; simp [hv]
  | t :: ts, _, ⟨v, rest, e, _, ho, hr⟩ => by
    subst e
    intro u hu
    rcases List.mem_cons.1 hu with rfl | hu
    · exact ho
    · exact RdC.one hr u hu
theorem RdC.get {ts : List Tr} {vs : List Value} (h : RdC w A ts vs) {i : Nat} {t : Tr} (hi : ts[i]? = some t) : ∃ v, vs[i]? = some v ∧ t.rd w A v ∧ v.oneCell' = true := by
  induction ts generalizing vs i with
  | nil => simp at hi
  | cons u ts ih =>
    obtain ⟨v, rest, rfl, ht, ho, hr⟩ := h
    cases i with
    | zero => simp at hi; subst hi; exact ⟨v, by simp, ht, ho⟩
    | succ i => simp at hi; obtain ⟨x, h1, h2⟩ := ih hr hi; exact ⟨x, by simpa using h1, h2⟩
theorem RdL.get {ts : List Tr} {vs : List Value} (h : RdL w A ts vs) {i : Nat} {t : Tr} (hi : ts[i]? = some t) : ∃ v, vs[i]? = some v ∧ t.rd w A v := by
  induction ts generalizing vs i with
  | nil => simp at hi
  | cons u ts ih =>
    obtain ⟨v, rest, rfl, ht, hr⟩ := h
    cases i with
    | zero => simp at hi; subst hi; exact ⟨v, by simp, ht⟩
    | succ i => simp at hi; obtain ⟨x, h1, h2⟩ := ih hr hi; exact ⟨x, by simpa using h1, h2⟩
theorem RdC.set {ts : List Tr} {vs : List Value} (h : RdC w A ts vs) (i : Nat) {t : Tr} {v : Value} (ht : t.rd w A v) (ho : v.oneCell' = true) : RdC w A (ts.set i t) (vs.set i v) := by
  induction ts generalizing vs i with
  | nil => simp [RdC] at h; simp [h, RdC]
  | cons u ts ih =>
    obtain ⟨x, rest, rfl, hx, hxo, hr⟩ := h
    cases i with
    | zero => exact ⟨v, rest, by simp, ht, ho, hr⟩
    | succ i => exact ⟨x, rest.set i v, by simp, hx, hxo, ih hr i⟩
end rdc
end Lg
end
section
set_option linter.all false
set_option maxRecDepth 100000
set_option maxHeartbeats 8000000
namespace Lg
open Go

/-! ### no step of a machine takes a draw back -/
def rW {α : Type} : Result α → World
  | .ok _ w => w
  | .halt _ w => w
theorem run_le {P : Program} {α : Type} (s : Sem α) : ∀ w : World, w.drawn ≤ (rW (s.run P w)).drawn := by
  induction s with
  | pure a => intro w; exact Nat.le_refl _
  | load m a k ih =>
    intro w
    unfold Sem.run
    split
    · exact ih _ _
    · split
      · exact ih _ _
      · exact Nat.le_refl _
  | store m a x k ih =>
    intro w
    have key : w.drawn ≤ (rW (match w.cell? a with
        | some _ => if w.frozen? a then Result.halt (.unsupported (.unsafePointer "a write to bytes that a string shares")) w else k.run P (w.setCell a x)
        | none => match w.farStore P a x (m == Mode.atomic) with
          | .ok (w, _) => k.run P w
          | .error h => .halt h w)).drawn := by
      split
      · split
        · exact Nat.le_refl _
        · exact ih (w.setCell a x)
      · split
        · rename_i w2 l hf
          exact drawn_farStore hf ▸ ih w2
        · exact Nat.le_refl _
    cases x <;> simp only [Sem.run] <;> first | exact key | exact Nat.le_refl _
  | new o k ih => intro w; simp only [Sem.run]; exact ih _ { w with heap := w.heap.push o }
  | shape r k ih => intro w; simp only [Sem.run]; exact ih _ _
  | freeze a n k ih =>
    intro w
    simp only [Sem.run]
    have := ih (w.freeze a n)
    have e : (w.freeze a n).drawn = w.drawn := by unfold World.freeze; split <;> rfl
    rwa [e] at this
  | frozen a k ih => intro w; simp only [Sem.run]; exact ih _ _
  | getObj r k ih =>
    intro w
    unfold Sem.run
    split
    · exact Nat.le_refl _
    · exact ih _ _
    · exact Nat.le_refl _
  | setObj r o k ih =>
    intro w
    unfold Sem.run
    split
    · exact Nat.le_refl _
    · exact ih { w with heap := w.heap.setIfInBounds r o }
    · exact Nat.le_refl _
  | choose q k ih =>
    intro w
    unfold Sem.run
    split
    · exact ih _ _
    · exact Nat.le_trans (Nat.le_succ w.drawn) (ih _ { w with drawn := w.drawn + 1 })
  | sys c k ih => intro w; simp only [Sem.run]; exact Nat.le_trans (drawn_sys w c) (ih _ _)
  | program k ih => intro w; simp only [Sem.run]; exact ih _ _
  | mark m k ih => intro w; simp only [Sem.run]; exact ih _
  | halt x => intro w; exact Nat.le_refl _
theorem runT_le {P : Program} {α : Type} (s : Sem α) (w : World) (es : Array Event) : w.drawn ≤ (rW (s.runT P w es).1).drawn := by
  rw [Sem.runT_fst]
  exact run_le s w
def GLe (n : Nat) : GStep → Prop
  | .go _ w _ => n ≤ w.drawn
  | .comm _ _ _ _ w _ => n ≤ w.drawn
  | .spawn _ _ w _ => n ≤ w.drawn
  | .count _ w _ => n ≤ w.drawn
  | .timer _ _ w _ => n ≤ w.drawn
  | .alone _ _ w _ => n ≤ w.drawn
  | .newcoro _ _ _ w _ => n ≤ w.drawn
  | .coroswitch _ _ _ w _ => n ≤ w.drawn
  | .collect _ w _ => n ≤ w.drawn
  | .watch _ w _ => n ≤ w.drawn
  | .ended _ _ _ => True
theorem GLe.ite {n : Nat} {c : Bool} {a b : GStep} (ha : GLe n a) (hb : GLe n b) : GLe n (if c = true then a else b) := by cases c <;> assumption
theorem GLe.after {n : Nat} {es : Array Event} {s : GStep} (h : GLe n s) : GLe n (GStep.after es s) := by cases s <;> exact h
theorem runT_ok {P : Program} {α : Type} {s : Sem α} {w w' : World} {es es' : Array Event} {v : α} {n : Nat} (e : s.runT P w es = (.ok v w', es')) (h : n ≤ w.drawn) : n ≤ w'.drawn := by
  have := runT_le (P := P) s w es
  rw [e] at this
  exact Nat.le_trans h this
theorem runT_halt {P : Program} {α : Type} {s : Sem α} {w w' : World} {es es' : Array Event} {v : Halt} {n : Nat} (e : s.runT P w es = (.halt v w', es')) (h : n ≤ w.drawn) : n ≤ w'.drawn := by
  have := runT_le (P := P) s w es
  rw [e] at this
  exact Nat.le_trans h this
theorem run_ok {P : Program} {α : Type} {s : Sem α} {w w' : World} {v : α} {n : Nat} (e : s.run P w = .ok v w') (h : n ≤ w.drawn) : n ≤ w'.drawn := Nat.le_trans h (run_drawn e)
theorem run_halt {P : Program} {α : Type} {s : Sem α} {w w' : World} {v : Halt} {n : Nat} (e : s.run P w = .halt v w') (h : n ≤ w.drawn) : n ≤ w'.drawn := by
  have := run_le (P := P) s w
  rw [e] at this
  exact Nat.le_trans h this
theorem runT_ok1 {P : Program} {α : Type} {s : Sem α} {w w' : World} {es : Array Event} {v : α} {n : Nat} (e : (s.runT P w es).1 = .ok v w') (h : n ≤ w.drawn) : n ≤ w'.drawn := by
  have := runT_le (P := P) s w es
  rw [e] at this
  exact Nat.le_trans h this
theorem runT_halt1 {P : Program} {α : Type} {s : Sem α} {w w' : World} {es : Array Event} {v : Halt} {n : Nat} (e : (s.runT P w es).1 = .halt v w') (h : n ≤ w.drawn) : n ≤ w'.drawn := by
  have := runT_le (P := P) s w es
  rw [e] at this
  exact Nat.le_trans h this
/-- the result of a run, with what is known of its world -/
theorem runT_cases {P : Program} {α : Type} (s : Sem α) (w : World) {n : Nat} (h : n ≤ w.drawn) : ∃ r es, s.runT P w #[] = (r, es) ∧ n ≤ (rW r).drawn := by
  refine ⟨_, _, rfl, Nat.le_trans h ?_⟩
  exact runT_le s w #[]
section
variable {n : Nat} {p : Program} {w : World}
theorem doReturn_le {main : Bool} {fr : Frame} {callers : List Frame} {dying : Option Dying} {v : Value} (h : n ≤ w.drawn) : GLe n (doReturn p main fr callers dying v w) := by
  unfold doReturn
  repeat' first | exact h | exact trivial | split
theorem endThrow_le {fr : Frame} {m : String} (h : n ≤ w.drawn) : GLe n (endThrow fr m w) := h
theorem endWith_le {fd : Nat} {t : ByteArray} {o : Outcome} : GLe n (endWith w fd t o) := by
  unfold endWith
  simp only []
  repeat' first | exact trivial | split
theorem endPrinting_le {fr : Frame} {v : Value} (h : n ≤ w.drawn) : GLe n (endPrinting p fr v w) := by
  unfold endPrinting
  simp only []
  repeat' first | exact h | exact trivial | split
theorem endFatal_le {fr : Frame} {callers : List Frame} {dying : Option Dying} {m : String} (h : n ≤ w.drawn) : GLe n (endFatal p fr callers dying m w) := by
  unfold endFatal
  simp only []
  split
  · rename_i heq
    exact Nat.le_trans h (run_drawn heq)
  · exact trivial
  · exact trivial
theorem writeOn_le {fr : Frame} {d : Dying} {f : Fatal} (h : n ≤ w.drawn) : GLe n (writeOn p fr d f w) := by
  unfold writeOn
  simp only []
  split
  · exact trivial
  · split
    all_goals first | exact trivial | (rename_i heq; exact runT_ok heq h) | (rename_i heq; exact runT_halt heq h)
theorem die_le {fr : Frame} {d : Dying} (h : n ≤ w.drawn) : GLe n (die p fr d w) := by
  unfold die
  split
  · exact writeOn_le h
  split
  · split
    · exact h
    · exact endWith_le
  · simp only []
    split
    · exact h
    · split
      · rename_i heq; exact run_ok heq h
      · exact trivial
    · rename_i t recv name _
      obtain ⟨r, es, e, hr⟩ := runT_cases (P := p) (invoke (.fn (.method name) #[]) #[.iface t recv]) w h
      rw [e]
      simp only []
      refine GLe.after ?_
      split
      all_goals first | exact trivial | exact hr | exact endPrinting_le hr
    · exact trivial
theorem callDeferred_le {fr : Frame} {callers : List Frame} {dying : Option Dying} {d : Deferred} (h : n ≤ w.drawn) : GLe n (callDeferred p fr callers dying d w) := by
  unfold callDeferred
  refine GLe.ite trivial ?_
  obtain ⟨r, es, e, hr⟩ := runT_cases (P := p) (invoke d.target d.args) w h
  rw [e]
  simp only []
  refine GLe.after ?_
  split
  all_goals first | exact trivial | exact hr | exact endFatal_le hr | exact endThrow_le hr | (split <;> exact hr)
theorem unwind_le {main : Bool} {fr : Frame} {callers : List Frame} {dying : Option Dying} (h : n ≤ w.drawn) : GLe n (unwind p main fr callers dying w) := by
  unfold unwind
  split
  · rename_i block _ _ _
    obtain ⟨r, es, e, hr⟩ := runT_cases (P := p) (Instr.takeDeferred block) w h
    rw [e]
    simp only []
    refine GLe.after ?_
    split
    all_goals first | exact trivial | exact hr
  · exact callDeferred_le h
  · split
    · exact trivial
    · split
      · exact trivial
      · split
        · exact h
        · split
          · split
            · exact h
            · split
              · rename_i heq; exact run_ok heq h
              · exact trivial
              · exact trivial
          · split
            · exact endPrinting_le h
            · exact trivial
    · split
      · exact doReturn_le h
      · rename_i fn _
        obtain ⟨r, es, e, hr⟩ := runT_cases (P := p) (results fn fr.tmps) w h
        rw [e]
        simp only []
        refine GLe.after ?_
        split
        all_goals first | exact trivial | exact doReturn_le hr
theorem early_le {fr : Frame} {callers : List Frame} {dying : Option Dying} {g : Nat} (h : n ≤ w.drawn) : GLe n (early p fr callers dying g w) := by
  unfold early
  simp only []
  repeat' first | exact trivial | exact h | (rename_i heq; exact run_ok heq h) | (rename_i heq _ _ _ _; have := run_ok heq h; exact this) | split
theorem apply_le {m : Bool} {listen : Bool} {fr : Frame} {callers : List Frame} {dying : Option Dying} {s : Sem Next} (h : n ≤ w.drawn) : GLe n (stepG.apply p listen fr callers dying s w) := by
  unfold stepG.apply
  obtain ⟨r, es, e, hr⟩ : ∃ r es, (if listen = true then s.runT p w #[] else (s.run p w, #[])) = (r, es) ∧ n ≤ (rW r).drawn := by
    cases listen
    · exact ⟨_, _, rfl, Nat.le_trans h (run_le s w)⟩
    · exact runT_cases s w h
  simp only []
  rw [e]
  simp only []
  refine GLe.after ?_
  split
  all_goals first | exact trivial | exact hr | exact endFatal_le hr | exact endThrow_le hr | exact early_le hr | (repeat' first | exact trivial | exact hr | exact endThrow_le hr | split)
theorem oper_le {m : Bool} {listen : Bool} {fr : Frame} {callers : List Frame} {dying : Option Dying} (h : n ≤ w.drawn) : GLe n (stepG.oper p listen fr callers dying w) := by
  unfold stepG.oper
  split
  · exact trivial
  · split
    · exact apply_le (m := m) h
    · exact apply_le (m := m) h
theorem exec_le {main : Bool} {listen : Bool} {fr : Frame} {callers : List Frame} {dying : Option Dying} (h : n ≤ w.drawn) : GLe n (stepG.exec p main listen fr callers dying w) := by
  unfold stepG.exec
  simp only []
  split
  all_goals try simp only [Option.elim]
  all_goals repeat' first
    | exact h
    | exact trivial
    | exact apply_le (m := main) h
    | exact oper_le (m := main) h
    | (rename_i heq; exact run_ok heq h)
    | (rename_i heq; exact runT_ok1 heq h)
    | (rename_i heq; exact runT_halt1 heq h)
    | (rename_i heq; have h2 := runT_ok1 heq h; first | exact doReturn_le h2 | exact apply_le (m := main) h2)
    | refine GLe.after ?_
    | split
theorem stepG_le {main : Bool} {listen : Bool} {g : Goroutine} (h : n ≤ w.drawn) : GLe n (stepG p main g w listen) := by
  unfold stepG
  simp only []
  split
  · exact die_le h
  · exact exec_le h
  · exact unwind_le h
def SLe (n : Nat) : Stepped → Prop
  | .next m => n ≤ m.world.drawn
  | .ended _ _ => True
theorem waitingAt_le {rest : Rest} {cases : Array CommCase} {w' : World} (h : waitingAt rest cases w = some w') : w'.drawn = w.drawn := by
  unfold waitingAt at h
  repeat' split at h
  all_goals first | (cases h; rfl) | (cases h; done)
theorem communicate_le {rest : Rest} {gs : Array Goroutine} {i : Nat} {g : Goroutine} {cases : Array CommCase} {blocking : Bool} {shape : CommShape} (h : n ≤ w.drawn) : SLe n (communicate p rest gs i g cases blocking shape w).1 := by
  unfold communicate
  simp only []
  split
  · exact trivial
  split
  · split
    · split
      · rename_i heq
        show n ≤ _
        rw [waitingAt_le heq]
        exact h
      · exact trivial
    · exact h
  split
  · exact trivial
  · rename_i heq
    have h2 := run_ok heq h
    clear heq h
    repeat' first
      | exact trivial
      | exact h2
      | (rename_i heq; have hx := run_ok heq h2; exact hx)
      | (rename_i heq; have hx := run_halt heq h2; exact hx)
      | split
theorem look_le {gs : Array Goroutine} {rest : Rest} (h : n ≤ w.drawn) : SLe n (look p gs rest w) := by
  unfold look
  simp only []
  repeat' first
    | exact trivial
    | exact h
    | (rename_i heq; have hx := run_ok heq h; exact hx)
    | split
theorem serve_le {m : Machine} {k : Nat} (h : n ≤ m.world.drawn) : SLe n (serve p m k) := by
  unfold serve
  simp only []
  repeat' first
    | exact trivial
    | exact h
    | split
theorem drain_le {c : Nat} {w : World} : (drain w c).2.drawn = w.drawn := by
  unfold drain
  split <;> rfl
theorem retime_le {m : Machine} {k : Nat} {t : Timer} {a b : Nat} : (retime m k t a b).2.world.drawn = m.world.drawn := by
  unfold retime
  simp only []
  split
  · exact drain_le
  · rfl
theorem timerOp_le {m m' : Machine} {op : TimerOp} {v : Value} (h : timerOp m op = .ok (v, m')) : m'.world.drawn = m.world.drawn := by
  unfold timerOp timerOp.named at h
  cases op <;> simp only [] at h
  all_goals repeat' first
    | (cases h; rfl)
    | (cases h; exact retime_le)
    | (simp at h; done)
    | split at h
  all_goals
    rename_i heq _ _ _
    simp only [Except.ok.injEq] at h
    have e := congrArg Prod.snd h
    simp only at e
    rw [← e, retime_le]
    unfold timerOp.opened at heq
    repeat' split at heq
    all_goals first | (cases heq; rfl) | (cases heq; done)
theorem mrunT_le {m : Machine} {i : Nat} {b : Bool} (h : n ≤ m.world.drawn) : SLe n (runT p m i b).1 := by
  simp only [runT]
  generalize m.gs.swapAt! _ _ = gg
  have hs := stepG_le (p := p) (main := i == 0) (listen := b) (g := gg.1) h
  generalize stepG p _ gg.1 m.world b = s at hs
  cases s <;> simp only []
  all_goals first
    | exact hs
    | exact trivial
    | exact communicate_le hs
    | exact look_le hs
    | skip
  · rename_i g w' es
    change n ≤ w'.drawn at hs
    split
    · exact trivial
    · exact hs
  · rename_i g op w' es
    change n ≤ w'.drawn at hs
    split
    · rename_i heq
      have := timerOp_le heq
      show n ≤ _
      rw [this]
      exact hs
    · exact hs
    · exact trivial
    · exact trivial
  · rename_i g c ex w' es
    change n ≤ w'.drawn at hs
    split
    · exact hs
    · exact hs
    · exact trivial
def MLe (n : Nat) : Move → Prop
  | .goroutine m _ => n ≤ m.world.drawn
  | .machine s _ => SLe n s
theorem askOn_le {m : Machine} (h : n ≤ m.world.drawn) : MLe n (askOn p m) := by
  unfold askOn
  simp only []
  split
  · exact trivial
  · rename_i heq
    have h2 := run_ok heq h
    clear heq
    split
    · exact serve_le (p := p) h2
    · split
      · split
        · exact h2
        · split
          · exact h2
          · split <;> exact trivial
      · split
        · split
          · exact trivial
          · rename_i hq
            have hp := run_ok hq h2
            split
            · exact hp
            · split
              · exact trivial
              · rename_i hq2
                have hp2 := run_ok hq2 hp
                exact hp2
        · split
          · exact trivial
          · rename_i heq
            have h3 := run_ok heq h2
            split
            · exact trivial
            · rename_i hq
              have hp := run_ok hq h3
              split
              · exact hp
              · split
                · exact trivial
                · rename_i hq2
                  have hp2 := run_ok hq2 hp
                  exact hp2
          · rename_i heq
            have h3 := run_ok heq h2
            exact h3
          · rename_i heq
            have h3 := run_ok heq h2
            split
            · exact trivial
            · rename_i hq
              have hp := run_ok hq h3
              split
              · exact hp
              · split
                · exact trivial
                · rename_i hq2
                  have hp2 := run_ok hq2 hp
                  exact hp2
theorem ask_le {m : Machine} (h : n ≤ m.world.drawn) : MLe n (ask p m) := by
  unfold ask
  split
  · split
    · exact trivial
    · rename_i heq
      have h2 := run_ok heq h
      have h3 := look_le (p := p) (gs := m.gs) (rest := m.rest) h2
      split
      · rename_i heq2
        rw [heq2] at h3
        exact askOn_le h3
      · rename_i heq2
        exact h3
    · rename_i heq
      have h2 := run_ok heq h
      exact askOn_le h2
  · exact askOn_le h
theorem move_le {m : Machine} (h : n ≤ m.world.drawn) : MLe n (move p m) := by
  unfold move
  repeat' first
    | exact h
    | exact trivial
    | exact ask_le h
    | split
theorem step_le {m : Machine} (h : n ≤ m.world.drawn) : SLe n (step p m) := by
  unfold step stepT
  have hm := move_le (p := p) h
  cases hc : move p m with
  | goroutine m2 i =>
    rw [hc] at hm
    exact mrunT_le hm
  | machine s ops =>
    rw [hc] at hm
    exact hm
theorem steps_le {m m' : Machine} (h : Steps p m m') : m.world.drawn ≤ m'.world.drawn := by
  obtain ⟨k, hk⟩ := h
  induction k generalizing m with
  | zero =>
    unfold runN at hk
    cases hk
    exact Nat.le_refl _
  | succ k ih =>
    unfold runN at hk
    have h1 := step_le (p := p) (Nat.le_refl m.world.drawn)
    split at hk
    · rename_i heq
      rw [heq] at h1
      exact Nat.le_trans h1 (ih hk)
    · rename_i e hne
      rw [hk] at h1
      exact h1
/-- what is known of a call that returns, and that it takes no draw back -/
theorem calls_drawn {f : FuncId} {args : Array Value} {R : Ending → World → Prop} (h : Calls p f args w R) (hr : ∀ e w', R e w' → ∃ v, e = .returned v) : Calls p f args w fun e w' => R e w' ∧ w.drawn ≤ w'.drawn := by
  intro cs
  obtain ⟨e, w', fr, h1, h2, h3, h4⟩ := h cs
  obtain ⟨v, rfl⟩ := hr e w' h1
  exact ⟨_, w', fr, ⟨h1, steps_le (p := p) h2⟩, h2, h3, h4⟩
end
end Lg
end
