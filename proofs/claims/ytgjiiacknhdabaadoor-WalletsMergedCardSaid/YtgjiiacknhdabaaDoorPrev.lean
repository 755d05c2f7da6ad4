/- A part of the proof of a law of this seat: it adds no condition. By an AI agent. -/
import Derived.Test.YtgjiiacknhdabaaDoorStr
import Derived.Test.YtgjiiacknhdabaaDoorKey
set_option linter.all false
set_option maxRecDepth 100000
set_option maxHeartbeats 4000000
namespace Lg
open Go Go.Proofs
def strLe (a b : ByteArray) : Bool := strLt a b || decide (a = b)
def prevB {α : Type} (p : α → α → Bool) (l : List α) : Nat → α → Bool
  | 0, _ => false
  | j + 1, x => match l[j]? with
    | none => false
    | some y => p x y
theorem idxFrom_find {α : Type} (p : α → Bool) : ∀ (l : List α) (k : Int), (l.find? p = none → idxFrom p l k = -1) ∧ (∀ x, l.find? p = some x → ∃ j : Nat, idxFrom p l k = k + j ∧ l[j]? = some x)
  | [], k => ⟨fun _ => rfl, fun x h => by simp at h⟩
  | y :: l, k => by
    obtain ⟨h1, h2⟩ := idxFrom_find p l (k + 1)
    unfold idxFrom
    by_cases hp : p y = true
    · rw [if_pos hp, List.find?_cons_of_pos hp]
      exact ⟨fun h => (by cases h), fun x h => ⟨0, by omega, by simpa using h⟩⟩
    · rw [if_neg hp, List.find?_cons_of_neg hp]
      refine ⟨h1, fun x hx => ?_⟩
      obtain ⟨j, h3, h4⟩ := h2 x hx
      exact ⟨j + 1, by omega, by simpa using h4⟩
end Lg
