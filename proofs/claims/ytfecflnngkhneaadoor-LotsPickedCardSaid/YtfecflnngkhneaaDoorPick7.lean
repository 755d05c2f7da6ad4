/- A part of the proof of a law of this seat: it adds no condition. By an AI agent. -/
import Derived.Test.YtfecflnngkhneaaDoorPick5
set_option linter.all false
set_option maxRecDepth 100000
set_option maxHeartbeats 4000000
namespace Lg
open Go Go.Proofs

def manyAt (c : List Lot) (i : Nat) : Int := match c[i]? with
  | none => 0
  | some x => x.many
def okB (c : List Lot) (p : ByteArray) (fr : Int) (i : Nat) : Bool := candB c p fr i && decide (0 < manyAt c i)
def bestUp (c : List Lot) (p : ByteArray) (fr : Int) : Nat → Int
  | 0 => -1
  | i + 1 => if okB c p fr i = true ∧ (bestUp c p fr i < 0 ∨ expI c i < expI c (bestUp c p fr i)) then (i : Int) else bestUp c p fr i
theorem best_spec (c : List Lot) (p : ByteArray) (fr : Int) : ∀ n, (bestUp c p fr n = -1 ∧ ∀ j, j < n → okB c p fr j = false) ∨ (∃ b : Nat, b < n ∧ bestUp c p fr n = b ∧ okB c p fr b = true ∧ ∀ j, j < n → okB c p fr j = true → j ≠ b → lexi (expI c) (b : Int) (j : Int))
  | 0 => .inl ⟨rfl, fun j h => by omega⟩
  | n + 1 => by
    unfold bestUp
    rcases best_spec c p fr n with ⟨h1, h2⟩ | ⟨b, hb, h1, h2, h3⟩
    · cases ho : okB c p fr n
      · left
        rw [if_neg (by simp)]
        refine ⟨h1, fun j hj => ?_⟩
        by_cases e : j = n
        · subst e; exact ho
        · exact h2 j (by omega)
      · right
        rw [if_pos ⟨rfl, .inl (by omega)⟩]
        refine ⟨n, by omega, rfl, ho, fun j hj hj2 hne => ?_⟩
        rw [h2 j (by omega)] at hj2
        cases hj2
    · right
      rw [h1]
      cases ho : okB c p fr n
      · rw [if_neg (by simp)]
        refine ⟨b, by omega, rfl, h2, fun j hj hj2 hne => ?_⟩
        by_cases e : j = n
        · subst e; rw [ho] at hj2; cases hj2
        · exact h3 j (by omega) hj2 hne
      · by_cases hlt : expI c (n : Int) < expI c (b : Int)
        · rw [if_pos ⟨rfl, .inr hlt⟩]
          refine ⟨n, by omega, rfl, ho, fun j hj hj2 hne => ?_⟩
          by_cases e : j = b
          · subst e; exact .inl hlt
          · rcases h3 j (by omega) hj2 e with h | h
            · left; omega
            · left; omega
        · rw [if_neg (fun h => by rcases h.2 with h | h <;> omega)]
          refine ⟨b, by omega, rfl, h2, fun j hj hj2 hne => ?_⟩
          by_cases e : j = n
          · subst e
            unfold lexi
            omega
          · exact h3 j (by omega) hj2 hne

theorem fresh_pos {c : List Lot} {p : ByteArray} {fr : Int} (h : 0 < freshI c p fr) : ∃ i, i < c.length ∧ okB c p fr i = true := by
  by_cases hex : ∃ i, i < c.length ∧ okB c p fr i = true
  · exact hex
  · exfalso
    have hz : ∀ x ∈ c, freshP p fr x ≤ 0 := by
      intro x hx
      obtain ⟨i, hi⟩ := List.getElem?_of_mem hx
      have hlt := (List.getElem?_eq_some_iff.1 hi).1
      unfold freshP
      split
      · rename_i hc
        by_cases hm : 0 < x.many
        · exact absurd ⟨i, hlt, by unfold okB candB manyAt; rw [hi]; simp [hc, hm]⟩ hex
        · omega
      · omega
    have : ∀ l : List Lot, (∀ x ∈ l, freshP p fr x ≤ 0) → freshI l p fr ≤ 0 := by
      intro l
      induction l with
      | nil => intro _; exact Int.le_refl _
      | cons a l ih =>
        intro h
        have h1 := h a (by simp)
        have h2 := ih fun x hx => h x (by simp [hx])
        rw [freshI, sumF_cons, ← freshI]
        omega
    have := this c hz
    omega
theorem sumF_set {α : Type} {f : α → Int} : ∀ {l : List α} {i : Nat} {x y : α}, l[i]? = some x → sumF f (l.set i y) = sumF f l - f x + f y
  | [], i, x, y, h => by simp at h
  | a :: l, 0, x, y, h => by
    simp at h
    subst h
    rw [List.set_cons_zero, sumF_cons, sumF_cons]
    omega
  | a :: l, i + 1, x, y, h => by
    rw [List.getElem?_cons_succ] at h
    rw [List.set_cons_succ, sumF_cons, sumF_cons, sumF_set h]
    omega

/-- where the reference's next pick stands in the order -/
theorem best_order {l c : List Lot} {p : ByteArray} {fr : Int} (s : Same l c) {k : Nat} (hz : ∀ j, j < k → ∀ i, (ordL l p fr)[j]? = some i → manyAt c i.toNat = 0) (hf : 0 < freshI c p fr) :
    ∃ (j b : Nat), k ≤ j ∧ (ordL l p fr)[j]? = some (b : Int) ∧ b < c.length ∧ bestUp c p fr c.length = b ∧ candB c p fr b = true ∧ 0 < manyAt c b ∧ ∀ j', j' < j → ∀ i, (ordL l p fr)[j']? = some i → manyAt c i.toNat = 0 := by
  obtain ⟨i0, hi0, hok0⟩ := fresh_pos hf
  rcases best_spec c p fr c.length with ⟨_, h2⟩ | ⟨b, hb, h1, h2, h3⟩
  · rw [h2 i0 hi0] at hok0
    cases hok0
  · have hcb : candB c p fr b = true ∧ 0 < manyAt c b := by unfold okB at h2; simpa using h2
    have hmem : (b : Int) ∈ ordL l p fr := ordL_mem.2 ⟨b, rfl, by rw [← s.len]; exact hb, by rw [← s.cand]; exact hcb.1⟩
    obtain ⟨j, hj⟩ := List.getElem?_of_mem hmem
    have hjk : k ≤ j := by
      by_cases h : j < k
      · have := hz j h _ hj
        rw [show ((b : Nat) : Int).toNat = b from rfl] at this
        omega
      · omega
    refine ⟨j, b, hjk, hj, hb, h1, hcb.1, hcb.2, fun j' hj' i hi => ?_⟩
    obtain ⟨i', rfl, hi', hci⟩ := ordL_mem.1 (List.mem_of_getElem? hi)
    have hlex : lexi (expI l) (i' : Int) (b : Int) := by
      have hp := List.pairwise_iff_getElem.1 (ordL_lexi l p fr) j' j (List.getElem?_eq_some_iff.1 hi).1 (List.getElem?_eq_some_iff.1 hj).1 hj'
      rwa [(List.getElem?_eq_some_iff.1 hi).2, (List.getElem?_eq_some_iff.1 hj).2] at hp
    rw [show ((i' : Nat) : Int).toNat = i' from rfl]
    by_cases hm : 0 < manyAt c i'
    · exfalso
      have hok : okB c p fr i' = true := by unfold okB; rw [s.cand, hci]; simp [hm]
      by_cases e : i' = b
      · subst e
        unfold lexi at hlex
        omega
      · have h4 := h3 i' (by rw [s.len]; exact hi') hok e
        unfold lexi at h4 hlex
        rw [s.exp, s.exp] at h4
        omega
    · obtain ⟨y, hy⟩ := at_lt (l := l) (k := i') hi'
      obtain ⟨x, hx, _, _, _, hx1, _⟩ := s.at_ i' y hy
      unfold manyAt at hm ⊢
      rw [hx] at hm ⊢
      simp only at hm ⊢
      omega
theorem fold_skip {l0 : List Int} {st st0 : List Lot × Int × List Piece} {k : Nat} (hst : st = (l0.take k).foldl takeStep st0) : ∀ (d : Nat), (∀ j, j < k + d → ∀ i, l0[j]? = some i → manyAt st.1 i.toNat = 0) → k + d ≤ l0.length → (l0.take (k + d)).foldl takeStep st0 = st
  | 0, _, _ => hst.symm
  | d + 1, h, hl => by
    obtain ⟨i, hi⟩ := at_lt (l := l0) (k := k + d) (by omega)
    rw [← Nat.add_assoc, fold_take hi, fold_skip hst d (fun j hj => h j (by omega)) (by omega)]
    have hz := h (k + d) (by omega) i hi
    unfold takeStep
    unfold manyAt at hz
    cases hx : st.1[i.toNat]? with
    | none => rfl
    | some x =>
      rw [hx] at hz
      simp only at hz ⊢
      rw [if_neg (by omega)]
end Lg
