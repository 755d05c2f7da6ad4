/- A part of the proof of a law of this seat: it adds no condition. By an AI agent. -/
import Derived.Test.YtfgcjpkkbhnkgaaGreatDoorLgSub2
set_option linter.all false
set_option maxRecDepth 100000
set_option maxHeartbeats 1000000
namespace Lg
open Go

/-- neighbours that are the same, once -/
def dd {α : Type} [DecidableEq α] : List α → List α
 |[] => []
 |[a] => [a]
 |a :: b :: l => if a = b then dd (b :: l) else a :: dd (b :: l)
theorem dd_mem {α : Type} [DecidableEq α] : ∀ (l : List α) (x : α), x ∈ dd l ↔ x ∈ l
 |[], x => Iff.rfl
 |[a], x => Iff.rfl
 |a :: b :: l, x => by
  have ih := dd_mem (b :: l) x
  unfold dd
  split
  ·rename_i h
   subst h
   rw [ih]
   simp
  ·rw [List.mem_cons, List.mem_cons, ih]
theorem dd_head {α : Type} [DecidableEq α] : ∀ (a : α) (l : List α), ∃ r, dd (a :: l) = a :: r
 |a, [] => ⟨[], rfl⟩
 |a, b :: l => by
  unfold dd
  split
  ·rename_i h
   subst h
   exact dd_head a l
  ·exact ⟨_, rfl⟩
/-- strictly sorted lists of the same members are the same -/
theorem strict_uniq {α : Type} {lt : α → α → Prop} (hi : ∀ a, ¬ lt a a) (ht : ∀ a b c, lt a b → lt b c → lt a c) {l1 l2 : List α} (h1 : l1.Pairwise lt) (h2 : l2.Pairwise lt) (hm : ∀ x, x ∈ l1 ↔ x ∈ l2) : l1 = l2 := by
 have n1 : l1.Nodup := List.Pairwise.imp (fun {a b} (h : lt a b) (e : a = b) => hi b (e ▸ h)) h1
 have n2 : l2.Nodup := List.Pairwise.imp (fun {a b} (h : lt a b) (e : a = b) => hi b (e ▸ h)) h2
 have hp : l1.Perm l2 := (List.perm_ext_iff_of_nodup n1 n2).2 hm
 exact sorted_uniq (le := lt) hp (fun a _ b _ h3 h4 => absurd (ht a b a h3 h4) (hi a)) h1 h2
theorem dd_sub {α : Type} [DecidableEq α] : ∀ l : List α, (dd l).Sublist l
 |[] => List.Sublist.refl _
 |[a] => List.Sublist.refl _
 |a :: b :: l => by
  have ih := dd_sub (b :: l)
  unfold dd
  split
  ·exact ih.trans (List.sublist_cons_self _ _)
  ·exact ih.cons₂ _
end Lg
