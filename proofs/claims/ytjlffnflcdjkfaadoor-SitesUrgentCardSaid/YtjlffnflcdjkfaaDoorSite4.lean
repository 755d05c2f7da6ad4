/- A part of the proof of a law of this seat: it adds no condition. By an AI agent. -/
import Derived.Test.YtjlffnflcdjkfaaDoorSite3
set_option linter.all false
set_option maxRecDepth 100000
set_option maxHeartbeats 4000000
namespace Lg
open Go Go.Proofs

theorem leftR_bd : ∀ (hs rs : List Int) (n : Int), (∀ (i : Nat) (a b : Int), hs[i]? = some a → rs[i]? = some b → 0 ≤ a ∧ 0 ≤ b) → 0 ≤ n → n ≤ 4000 → 0 ≤ leftR hs rs n ∧ leftR hs rs n ≤ 4000
  | [], rs, n, _, h1, h2 => by unfold leftR; exact ⟨h1, h2⟩
  | h :: hs, [], n, _, h1, h2 => by unfold leftR; exact ⟨h1, h2⟩
  | h :: hs, r :: rs, n, hb, h1, h2 => by
    unfold leftR
    have h0 := hb 0 h r rfl rfl
    refine leftR_bd hs rs _ (fun i a b ha hbb => hb (i + 1) a b (by simpa using ha) (by simpa using hbb)) ?_ ?_
    · split
      · have : 0 ≤ 100 * h / r := Int.ediv_nonneg (by omega) (by omega)
        omega
      · exact h1
    · split
      · omega
      · exact h2
def leftA (l : List Site) (i : Nat) : Int := (l.map leftI).getD i 0
theorem leftA_at {l : List Site} {i : Nat} {x : Site} (h : l[i]? = some x) : leftA l i = leftI x := by
  unfold leftA
  rw [List.getD_eq_getElem?_getD, List.getElem?_map, h]
  rfl
theorem leftA_bd {l : List Site} (h : sitesE l = 0) (i : Nat) : 0 ≤ leftA l i ∧ leftA l i ≤ 4000 := by
  cases hx : l[i]? with
  | none =>
    unfold leftA
    rw [List.getD_eq_getElem?_getD, List.getElem?_map, hx]
    exact ⟨Int.le_refl _, by decide⟩
  | some x =>
    rw [leftA_at hx]
    obtain ⟨_, hv⟩ := sitesE_at h hx
    exact leftR_bd _ _ _ (fun i a b ha hb => by have := hv i a b ha hb; omega) (by decide) (by decide)
def dueN (l : List Site) (days : Int) (k : Nat) : List Int := ((List.range k).filter (fun i => decide (leftA l i ≤ days))).map Int.ofNat
def keyD (l : List Site) (i : Int) : Int := leftA l i.toNat
def ordD (l : List Site) (days : Int) : List Int := isort (fun a b => decide (keyD l a < keyD l b)) (dueN l days l.length)
def dayN (l : List Site) (d : Int) (k : Nat) : List Int := ((List.range k).filter (fun i => decide (leftA l i = d))).map Int.ofNat
def refD (l : List Site) (n : Nat) : List Int := (List.range n).flatMap fun d : Nat => dayN l (d : Int) l.length
theorem dueN_succ (l : List Site) (days : Int) (k : Nat) : dueN l days (k + 1) = if leftA l k ≤ days then dueN l days k ++ [(k : Int)] else dueN l days k := by
  unfold dueN
  rw [List.range_succ, List.filter_append, List.map_append]
  by_cases h : leftA l k ≤ days <;> simp [h]
theorem dayN_succ (l : List Site) (d : Int) (k : Nat) : dayN l d (k + 1) = if leftA l k = d then dayN l d k ++ [(k : Int)] else dayN l d k := by
  unfold dayN
  rw [List.range_succ, List.filter_append, List.map_append]
  by_cases h : leftA l k = d <;> simp [h]
theorem dueN_mem {l : List Site} {days : Int} {k : Nat} {c : Int} : c ∈ dueN l days k ↔ ∃ i : Nat, c = i ∧ i < k ∧ leftA l i ≤ days := by
  unfold dueN
  simp only [List.mem_map, List.mem_filter, List.mem_range, decide_eq_true_eq]
  constructor
  · rintro ⟨i, ⟨h1, h2⟩, rfl⟩; exact ⟨i, rfl, h1, h2⟩
  · rintro ⟨i, rfl, h1, h2⟩; exact ⟨i, ⟨h1, h2⟩, rfl⟩
theorem dayN_mem {l : List Site} {d : Int} {k : Nat} {c : Int} : c ∈ dayN l d k ↔ ∃ i : Nat, c = i ∧ i < k ∧ leftA l i = d := by
  unfold dayN
  simp only [List.mem_map, List.mem_filter, List.mem_range, decide_eq_true_eq]
  constructor
  · rintro ⟨i, ⟨h1, h2⟩, rfl⟩; exact ⟨i, rfl, h1, h2⟩
  · rintro ⟨i, rfl, h1, h2⟩; exact ⟨i, ⟨h1, h2⟩, rfl⟩
theorem dueN_len (l : List Site) (days : Int) (k : Nat) : (dueN l days k).length ≤ k := by
  unfold dueN
  rw [List.length_map]
  have := List.length_filter_le (fun i => decide (leftA l i ≤ days)) (List.range k)
  rwa [List.length_range] at this
theorem dayN_len (l : List Site) (d : Int) (k : Nat) : (dayN l d k).length ≤ k := by
  unfold dayN
  rw [List.length_map]
  have := List.length_filter_le (fun i => decide (leftA l i = d)) (List.range k)
  rwa [List.length_range] at this
theorem keyD_nat (l : List Site) (i : Nat) : keyD l (Int.ofNat i) = leftA l i := rfl
theorem dueN_filter (l : List Site) (days d : Int) (k : Nat) : (dueN l days k).filter (fun a => decide (keyD l a = d)) = if d ≤ days then dayN l d k else [] := by
  unfold dueN dayN
  rw [List.filter_map, List.filter_filter]
  by_cases h : d ≤ days
  · rw [if_pos h]
    congr 1
    apply List.filter_congr
    intro i _
    show (decide (keyD l (Int.ofNat i) = d) && decide (leftA l i ≤ days)) = _
    rw [keyD_nat]
    by_cases h2 : leftA l i = d
    · simp [h2, h]
    · simp [h2]
  · rw [if_neg h]
    have : (List.range k).filter (fun a => (((fun a => decide (keyD l a = d)) ∘ Int.ofNat) a && decide (leftA l a ≤ days))) = [] := by
      rw [List.filter_eq_nil_iff]
      intro i _
      show ¬ (decide (keyD l (Int.ofNat i) = d) && decide (leftA l i ≤ days)) = true
      rw [keyD_nat]
      simp
      omega
    rw [this]
    rfl
theorem dayN_filter (l : List Site) (e d : Int) (k : Nat) : (dayN l e k).filter (fun a => decide (keyD l a = d)) = if d = e then dayN l d k else [] := by
  unfold dayN
  rw [List.filter_map, List.filter_filter]
  by_cases h : d = e
  · subst h
    rw [if_pos rfl]
    congr 1
    apply List.filter_congr
    intro i _
    show (decide (keyD l (Int.ofNat i) = d) && decide (leftA l i = d)) = _
    rw [keyD_nat]
    by_cases h2 : leftA l i = d <;> simp [h2]
  · rw [if_neg h]
    have : (List.range k).filter (fun a => (((fun a => decide (keyD l a = d)) ∘ Int.ofNat) a && decide (leftA l a = e))) = [] := by
      rw [List.filter_eq_nil_iff]
      intro i _
      show ¬ (decide (keyD l (Int.ofNat i) = d) && decide (leftA l i = e)) = true
      rw [keyD_nat]
      simp
      omega
    rw [this]
    rfl
theorem refD_succ (l : List Site) (n : Nat) : refD l (n + 1) = refD l n ++ dayN l (n : Int) l.length := by
  unfold refD
  rw [List.range_succ, List.flatMap_append]
  simp
theorem refD_filter (l : List Site) (d : Int) : ∀ n : Nat, (refD l n).filter (fun a => decide (keyD l a = d)) = if 0 ≤ d ∧ d < n then dayN l d l.length else []
  | 0 => by rw [if_neg (by omega)]; rfl
  | n + 1 => by
    rw [refD_succ, List.filter_append, refD_filter l d n, dayN_filter]
    by_cases h1 : 0 ≤ d ∧ d < n
    · rw [if_pos h1, if_neg (by omega), if_pos (by omega), List.append_nil]
    · rw [if_neg h1]
      by_cases h2 : d = n
      · rw [if_pos h2, if_pos (by omega), List.nil_append]
      · rw [if_neg h2, if_neg (by omega)]; rfl
theorem refD_mem {l : List Site} {c : Int} : ∀ {n : Nat}, c ∈ refD l n → keyD l c < n
  | 0, h => by simp [refD] at h
  | n + 1, h => by
    rw [refD_succ, List.mem_append] at h
    rcases h with h | h
    · have := refD_mem h; omega
    · obtain ⟨i, rfl, _, h3⟩ := dayN_mem.1 h
      have : keyD l (i : Int) = leftA l i := rfl
      omega
theorem refD_sorted (l : List Site) : ∀ n, (refD l n).Pairwise (fun a b => keyD l a ≤ keyD l b)
  | 0 => by simp [refD]
  | n + 1 => by
    rw [refD_succ]
    have key : ∀ a ∈ dayN l (n : Int) l.length, keyD l a = n := by
      intro a ha
      obtain ⟨i, rfl, _, h3⟩ := dayN_mem.1 ha
      exact h3
    refine List.pairwise_append.2 ⟨refD_sorted l n, ?_, ?_⟩
    · rw [List.pairwise_iff_forall_sublist]
      intro a b hab
      have h1 := key a (hab.subset (by simp))
      have h2 := key b (hab.subset (by simp))
      omega
    · intro a ha b hb
      have h1 := refD_mem ha
      have h2 := key b hb
      omega
theorem ordD_ref {l : List Site} {days : Nat} (h : sitesE l = 0) : ordD l (days : Int) = refD l (days + 1) := by
  refine eq_of_key_filters (keyD l) (isort_key_sorted _ _) (refD_sorted l _) fun d => ?_
  unfold ordD
  rw [isort_key_filter, dueN_filter, refD_filter]
  by_cases h1 : d ≤ (days : Int)
  · rw [if_pos h1]
    by_cases h2 : 0 ≤ d
    · rw [if_pos (by omega)]
    · rw [if_neg (by omega)]
      unfold dayN
      have : (List.range l.length).filter (fun i => decide (leftA l i = d)) = [] := by
        rw [List.filter_eq_nil_iff]
        intro i _
        have := leftA_bd h i
        simp
        omega
      rw [this]
      rfl
  · rw [if_neg h1, if_neg (by omega)]
def nameS (l : List Site) (i : Int) : ByteArray := match l[i.toNat]? with
  | some x => x.key
  | none => ⟨#[]⟩
end Lg
