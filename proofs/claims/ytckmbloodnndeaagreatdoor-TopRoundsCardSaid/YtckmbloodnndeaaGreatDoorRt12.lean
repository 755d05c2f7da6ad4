/- A part of the proof of a law of this seat: it adds no condition. By an AI agent. -/
import Derived.Test.YtckmbloodnndeaaGreatDoorRt8
section
set_option linter.all false
set_option maxRecDepth 100000
set_option maxHeartbeats 8000000
namespace Lg
open Go Go.Proofs

/-! ### routes without a fault, in plain terms -/
theorem nodup_take {o : List Int} (h : ∀ k i, o[k]? = some i → i ∉ o.take k) : o.Nodup := by
  rw [List.nodup_iff_pairwise_ne, List.pairwise_iff_getElem]
  intro i j hi hj hij e
  have h1 := h j o[j] (List.getElem?_eq_getElem hj)
  apply h1
  rw [← e]
  exact List.mem_take_iff_getElem.2 ⟨i, by omega, rfl⟩
theorem take_nodup {o : List Int} (h : o.Nodup) {k : Nat} {i : Int} (hk : o[k]? = some i) : i ∉ o.take k := by
  intro hm
  obtain ⟨hk2, rfl⟩ := List.getElem?_eq_some_iff.1 hk
  obtain ⟨j, hj, he⟩ := List.mem_take_iff_getElem.1 hm
  rw [List.nodup_iff_pairwise_ne, List.pairwise_iff_getElem] at h
  exact h j k (by omega) hk2 (by omega) he
theorem firstE_all {e : Nat → Int} : ∀ (n k : Nat), (∀ j, k ≤ j → j < k + n → e j = 0) → firstE e k n = 0
  | 0, k, _ => rfl
  | n + 1, k, h => by
    rw [firstE, h k (by omega) (by omega), if_neg (by decide)]
    exact firstE_all n (k + 1) (fun j h1 h2 => h j (by omega) (by omega))
theorem ordersE_iff {n : Nat} {o : List Int} : ordersE n o = 0 ↔ (∀ i ∈ o, 0 ≤ i ∧ i < n) ∧ o.Nodup := by
  constructor
  · intro h
    refine ⟨ordersE_ok h, nodup_take fun k i hk => ?_⟩
    have hlt := (List.getElem?_eq_some_iff.1 hk).1
    have h1 := firstE_zero h k (by omega) (by omega)
    unfold ordE at h1
    rw [hk] at h1
    simp only at h1
    by_cases h2 : i < 0 ∨ (n : Int) - 1 < i
    · rw [if_pos h2] at h1; omega
    · rw [if_neg h2] at h1
      intro hm
      rw [if_pos hm] at h1
      omega
  · rintro ⟨h1, h2⟩
    unfold ordersE
    refine firstE_all _ _ fun j _ hj => ?_
    obtain ⟨i, hi⟩ := at_lt (l := o) (k := j) (by omega)
    unfold ordE
    rw [hi]
    simp only
    have := h1 i (List.mem_of_getElem? hi)
    rw [if_neg (by omega), if_neg (take_nodup h2 hi)]
end Lg
end
section
set_option linter.all false
set_option maxRecDepth 100000
set_option maxHeartbeats 8000000
namespace Lg
open Go Go.Proofs

attribute [local irreducible] intRows drv drvU ordersE

end Lg
end
section
set_option linter.all false
set_option maxRecDepth 100000
set_option maxHeartbeats 8000000
namespace Lg
open Go Go.Proofs

attribute [local irreducible] intRows
end Lg
end
