/- A part of the proof of a law of this seat: it adds no condition. By an AI agent. -/
import Derived.Test.YtmncgklajohcbaaGreatDoorLgRng
set_option linter.all false
set_option maxRecDepth 100000
set_option maxHeartbeats 1000000
namespace Lg
open Go

/-- neighbours that are the same, once -/
def dd {α : Type} [DecidableEq α] : List α → List α
  | [] => []
  | [a] => [a]
  | a :: b :: l => if a = b then dd (b :: l) else a :: dd (b :: l)
theorem dd_mem {α : Type} [DecidableEq α] : ∀ (l : List α) (x : α), x ∈ dd l ↔ x ∈ l
  | [], x => Iff.rfl
  | [a], x => Iff.rfl
  | a :: b :: l, x => by
    have ih := dd_mem (b :: l) x
    unfold dd
    split
    · rename_i h
      subst h
      rw [ih]
      simp
    · rw [List.mem_cons, List.mem_cons, ih]
theorem dd_sorted {α : Type} [DecidableEq α] {le : α → α → Prop} (ha : ∀ a b, le a b → le b a → a = b) : ∀ (l : List α), l.Pairwise le → (dd l).Pairwise fun a b => le a b ∧ a ≠ b
  | [], _ => List.Pairwise.nil
  | [a], _ => by unfold dd; exact List.pairwise_singleton _ _
  | a :: b :: l, h => by
    have hh := List.pairwise_cons.1 h
    have ih := dd_sorted ha (b :: l) hh.2
    unfold dd
    split
    · exact ih
    · rename_i hne
      refine List.pairwise_cons.2 ⟨fun y hy => ?_, ih⟩
      have hy2 : y ∈ b :: l := (dd_mem _ _).1 hy
      refine ⟨hh.1 y hy2, fun e => ?_⟩
      subst e
      rcases List.mem_cons.1 hy2 with h2 | h2
      · exact hne h2
      · have h3 := (List.pairwise_cons.1 hh.2).1 a h2
        exact hne (ha a b (hh.1 b (by simp)) h3)
theorem dd_sub {α : Type} [DecidableEq α] : ∀ l : List α, (dd l).Sublist l
  | [] => List.Sublist.refl _
  | [a] => List.Sublist.refl _
  | a :: b :: l => by
    have ih := dd_sub (b :: l)
    unfold dd
    split
    · exact ih.trans (List.sublist_cons_self _ _)
    · exact ih.cons₂ _
end Lg
