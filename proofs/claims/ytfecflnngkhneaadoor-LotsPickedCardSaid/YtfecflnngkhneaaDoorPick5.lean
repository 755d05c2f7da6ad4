/- A part of the proof of a law of this seat: it adds no condition. By an AI agent. -/
import Derived.Test.YtfecflnngkhneaaDoorPick2
import Derived.Test.YtfecflnngkhneaaDoorPick4
set_option linter.all false
set_option maxRecDepth 100000
set_option maxHeartbeats 4000000
namespace Lg
open Go Go.Proofs

def candB (l : List Lot) (p : ByteArray) (fr : Int) (i : Nat) : Bool := match l[i]? with
  | none => false
  | some x => decide (x.prod = p ∧ fr ≤ x.exp)
def candN (l : List Lot) (p : ByteArray) (fr : Int) (k : Nat) : List Int := ((List.range k).filter (candB l p fr)).map fun i : Nat => (i : Int)
def ordL (l : List Lot) (p : ByteArray) (fr : Int) : List Int := isort (fun a b => decide (expI l a < expI l b)) (candN l p fr l.length)
def takeStep (st : List Lot × Int × List Piece) (i : Int) : List Lot × Int × List Piece := match st.1[i.toNat]? with
  | none => st
  | some x => if min st.2.1 x.many > 0 then (st.1.set i.toNat ⟨x.id, x.prod, x.exp, x.many - min st.2.1 x.many⟩, st.2.1 - min st.2.1 x.many, st.2.2 ++ [⟨x.id, min st.2.1 x.many⟩]) else st
def pickR (l : List Lot) (p : ByteArray) (many fr : Int) : List Lot × Int × List Piece := (ordL l p fr).foldl takeStep (l, many, [])

theorem candN_succ {l : List Lot} {p : ByteArray} {fr : Int} {k : Nat} : candN l p fr (k + 1) = if candB l p fr k then candN l p fr k ++ [(k : Int)] else candN l p fr k := by
  unfold candN
  rw [List.range_succ, List.filter_append, List.map_append]
  cases h : candB l p fr k <;> simp [h]
theorem candN_mem {l : List Lot} {p : ByteArray} {fr : Int} {k : Nat} {c : Int} : c ∈ candN l p fr k ↔ ∃ i : Nat, c = i ∧ i < k ∧ candB l p fr i = true := by
  unfold candN
  simp only [List.mem_map, List.mem_filter, List.mem_range]
  constructor
  · rintro ⟨i, ⟨h1, h2⟩, rfl⟩; exact ⟨i, rfl, h1, h2⟩
  · rintro ⟨i, rfl, h1, h2⟩; exact ⟨i, ⟨h1, h2⟩, rfl⟩
theorem candN_asc (l : List Lot) (p : ByteArray) (fr : Int) : ∀ k, (candN l p fr k).Pairwise (· < ·)
  | 0 => List.Pairwise.nil
  | k + 1 => by
    rw [candN_succ]
    split
    · refine List.pairwise_append.2 ⟨candN_asc l p fr k, List.pairwise_singleton _ _, ?_⟩
      intro a ha b hb
      obtain ⟨i, rfl, h1, _⟩ := candN_mem.1 ha
      rw [List.mem_singleton] at hb
      subst hb
      omega
    · exact candN_asc l p fr k
theorem candN_len (l : List Lot) (p : ByteArray) (fr : Int) : ∀ k, (candN l p fr k).length ≤ k
  | 0 => Nat.le_refl _
  | k + 1 => by
    have := candN_len l p fr k
    rw [candN_succ]
    split
    · rw [List.length_append]; simp; omega
    · omega
theorem ordL_mem {l : List Lot} {p : ByteArray} {fr : Int} {c : Int} : c ∈ ordL l p fr ↔ ∃ i : Nat, c = i ∧ i < l.length ∧ candB l p fr i = true := by
  unfold ordL
  rw [(isort_perm _ _).mem_iff, candN_mem]
theorem ordL_lexi (l : List Lot) (p : ByteArray) (fr : Int) : (ordL l p fr).Pairwise (lexi (expI l)) := isort_lexi (expI l) (candN_asc l p fr _)
theorem ordL_len (l : List Lot) (p : ByteArray) (fr : Int) : (ordL l p fr).length ≤ l.length := by
  unfold ordL
  rw [isort_len]
  exact candN_len _ _ _ _

/-- what picking leaves as it is -/
structure Same (l c : List Lot) : Prop where
  len : c.length = l.length
  at_ : ∀ (i : Nat) x, l[i]? = some x → ∃ y, c[i]? = some y ∧ y.id = x.id ∧ y.prod = x.prod ∧ y.exp = x.exp ∧ 0 ≤ y.many ∧ y.many ≤ x.many
theorem Same.refl {l : List Lot} (h : LOk l) : Same l l := ⟨rfl, fun i x hx => ⟨x, hx, rfl, rfl, rfl, (h.many x (List.mem_of_getElem? hx)).1, Int.le_refl _⟩⟩
theorem Same.ok {l c : List Lot} (h : LOk l) (s : Same l c) : LOk c := ⟨by rw [s.len]; exact h.len, fun y hy => by
  obtain ⟨i, hi⟩ := List.getElem?_of_mem hy
  have hlt := (List.getElem?_eq_some_iff.1 hi).1
  obtain ⟨x, hx⟩ := at_lt (l := l) (k := i) (by rw [← s.len]; exact hlt)
  obtain ⟨z, hz, _, _, _, h1, h2⟩ := s.at_ i x hx
  rw [hi] at hz
  cases hz
  have := h.many x (List.mem_of_getElem? hx)
  omega⟩
theorem Same.exp {l c : List Lot} (s : Same l c) (i : Int) : expI c i = expI l i := by
  unfold expI
  cases h : l[i.toNat]? with
  | none =>
    have : c[i.toNat]? = none := by rw [List.getElem?_eq_none_iff] at h ⊢; rw [s.len]; exact h
    rw [this]
  | some x => obtain ⟨y, hy, _, _, h3, _⟩ := s.at_ _ x h; rw [hy]; exact h3
theorem Same.cand {l c : List Lot} (s : Same l c) (p : ByteArray) (fr : Int) (i : Nat) : candB c p fr i = candB l p fr i := by
  unfold candB
  cases h : l[i]? with
  | none =>
    have : c[i]? = none := by rw [List.getElem?_eq_none_iff] at h ⊢; rw [s.len]; exact h
    rw [this]
  | some x => obtain ⟨y, hy, _, h2, h3, _⟩ := s.at_ _ x h; rw [hy]; simp only [h2, h3]
theorem takeStep_same {l : List Lot} {st : List Lot × Int × List Piece} (s : Same l st.1) (h0 : 0 ≤ st.2.1) (i : Int) : Same l (takeStep st i).1 ∧ 0 ≤ (takeStep st i).2.1 ∧ (takeStep st i).2.1 ≤ st.2.1 ∧ (takeStep st i).2.2.length ≤ st.2.2.length + 1 := by
  unfold takeStep
  cases h : st.1[i.toNat]? with
  | none => exact ⟨s, h0, Int.le_refl _, by simp only; omega⟩
  | some x =>
    simp only
    split
    · refine ⟨⟨by simp only [List.length_set]; exact s.len, fun j y hy => ?_⟩, by simp only; omega, by simp only; omega, by simp⟩
      obtain ⟨z, hz, z1, z2, z3, z4, z5⟩ := s.at_ j y hy
      simp only
      by_cases e : i.toNat = j
      · subst e
        rw [h] at hz
        cases hz
        have hlt := (List.getElem?_eq_some_iff.1 h).1
        exact ⟨⟨x.id, x.prod, x.exp, x.many - min st.2.1 x.many⟩, List.getElem?_set_self hlt, z1, z2, z3, by simp only; omega, by simp only; omega⟩
      · exact ⟨z, by rw [List.getElem?_set_ne e]; exact hz, z1, z2, z3, z4, z5⟩
    · exact ⟨s, h0, Int.le_refl _, by omega⟩
theorem takeStep_zero {st : List Lot × Int × List Piece} (h : st.2.1 ≤ 0) (i : Int) : takeStep st i = st := by
  unfold takeStep
  cases st.1[i.toNat]? with
  | none => rfl
  | some x => simp only; rw [if_neg (by omega)]
theorem fold_zero {st : List Lot × Int × List Piece} (h : st.2.1 ≤ 0) : ∀ l : List Int, l.foldl takeStep st = st
  | [] => rfl
  | i :: l => by rw [List.foldl_cons, takeStep_zero h, fold_zero h l]
theorem fold_take {st : List Lot × Int × List Piece} {l : List Int} {k : Nat} {i : Int} (h : l[k]? = some i) : (l.take (k + 1)).foldl takeStep st = takeStep ((l.take k).foldl takeStep st) i := by
  rw [take_at h, List.foldl_append]
  rfl
theorem fold_same {l0 : List Lot} : ∀ (l : List Int) {st : List Lot × Int × List Piece}, Same l0 st.1 → 0 ≤ st.2.1 → Same l0 (l.foldl takeStep st).1 ∧ 0 ≤ (l.foldl takeStep st).2.1 ∧ (l.foldl takeStep st).2.1 ≤ st.2.1 ∧ (l.foldl takeStep st).2.2.length ≤ st.2.2.length + l.length
  | [], _, s, h => ⟨s, h, Int.le_refl _, by simp⟩
  | i :: l, st, s, h => by
    obtain ⟨a1, a2, a3, a4⟩ := takeStep_same s h i
    obtain ⟨b1, b2, b3, b4⟩ := fold_same l a1 a2
    rw [List.foldl_cons]
    exact ⟨b1, b2, by omega, by rw [List.length_cons]; omega⟩
theorem row_set {c : List Lot} {i : Nat} {x : Lot} {v : Int} (h : c[i]? = some x) : (c.map Lot.row).set i ((x.row).set 3 (Tr.int v)) = (c.set i ⟨x.id, x.prod, x.exp, v⟩).map Lot.row := by
  rw [List.map_set]
  rfl
end Lg
