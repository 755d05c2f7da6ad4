/- A part of the proof of a law of this seat: it adds no condition. By an AI agent. -/
import Derived.Test.YtagccjlmpljahaaDoorTypes
set_option linter.all false
namespace Lg
open Go Go.Proofs
theorem sorted_ext : ∀ {a b : List Nat}, a.Pairwise (· < ·) → b.Pairwise (· < ·) → (∀ x, x ∈ a ↔ x ∈ b) → a = b
  | [], [], _, _, _ => rfl
  | [], y :: b, _, _, h => by have := (h y).2 (by simp); simp at this
  | x :: a, [], _, _, h => by have := (h x).1 (by simp); simp at this
  | x :: a, y :: b, ha, hb, h => by
    rw [List.pairwise_cons] at ha hb
    have hxy : x = y := by
      have h1 := (h x).1 (by simp)
      have h2 := (h y).2 (by simp)
      rcases List.mem_cons.1 h1 with e | h1
      · exact e
      · rcases List.mem_cons.1 h2 with e | h2
        · exact e.symm
        · have := hb.1 x h1
          have := ha.1 y h2
          omega
    subst hxy
    congr 1
    refine sorted_ext ha.2 hb.2 fun z => ?_
    have hz := h z
    constructor
    · intro hza
      have := ha.1 z hza
      rcases List.mem_cons.1 (hz.1 (List.mem_cons_of_mem _ hza)) with e | h
      · omega
      · exact h
    · intro hzb
      have := hb.1 z hzb
      rcases List.mem_cons.1 (hz.2 (List.mem_cons_of_mem _ hzb)) with e | h
      · omega
      · exact h
def besideB (c a b : Nat) : Bool := decide ((a / c = b / c ∧ b = a + 1) ∨ b = a + c)
def touchN (c n a : Nat) : List Nat := (if a % c + 1 < c then [a + 1] else []) ++ (if a + c < n then [a + c] else [])
theorem beside_touch {c r a : Nat} (hc : 0 < c) (ha : a < r * c) : (List.range' (a + 1) (r * c - (a + 1))).filter (besideB c a) = touchN c (r * c) a := by
  apply sorted_ext
  · exact List.Pairwise.filter _ List.pairwise_lt_range'
  · unfold touchN
    split <;> split <;> simp
    have := Nat.mod_lt a hc
    omega
  · intro x
    have key : a / c = (a + 1) / c ↔ a % c + 1 < c := by
      have h1 := Nat.div_add_mod a c
      have h2 := Nat.mod_lt a hc
      constructor
      · intro h
        have h3 := Nat.div_add_mod (a + 1) c
        have h4 := Nat.mod_lt (a + 1) hc
        rw [← h] at h3
        omega
      · intro h
        rw [eq_comm, Nat.div_eq_iff hc]
        have e : a / c * c = c * (a / c) := Nat.mul_comm _ _
        constructor <;> omega
    have hin : a % c + 1 < c → a + 1 < r * c := by
      intro h
      have h1 := Nat.div_add_mod a c
      have h5 : a / c < r := (Nat.div_lt_iff_lt_mul hc).2 ha
      have h6 : (a / c + 1) * c ≤ r * c := Nat.mul_le_mul_right c h5
      rw [Nat.add_mul, Nat.one_mul, Nat.mul_comm] at h6
      omega
    simp only [List.mem_filter, List.mem_range', besideB, decide_eq_true_eq, touchN, List.mem_append]
    constructor
    · rintro ⟨⟨i, hi, rfl⟩, h | h⟩
      · left
        have e : a + 1 + 1 * i = a + 1 := h.2
        rw [e] at h ⊢
        rw [if_pos (key.1 h.1)]
        simp
      · right
        rw [if_pos (by omega)]
        simp; omega
    · rintro (h | h)
      · by_cases h1 : a % c + 1 < c
        · rw [if_pos h1] at h
          simp at h
          subst h
          exact ⟨⟨0, by have := hin h1; omega, by omega⟩, .inl ⟨key.2 h1, rfl⟩⟩
        · rw [if_neg h1] at h
          simp at h
      · by_cases h1 : a + c < r * c
        · rw [if_pos h1] at h
          simp at h
          subst h
          exact ⟨⟨c - 1, by omega, by omega⟩, .inr rfl⟩
        · rw [if_neg h1] at h
          simp at h
end Lg
