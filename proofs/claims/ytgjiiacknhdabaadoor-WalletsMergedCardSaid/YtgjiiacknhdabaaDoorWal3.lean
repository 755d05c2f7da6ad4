/- A part of the proof of a law of this seat: it adds no condition. By an AI agent. -/
import Derived.Test.YtgjiiacknhdabaaDoorWal1
set_option linter.all false
set_option maxRecDepth 100000
set_option maxHeartbeats 4000000
namespace Lg
open Go Go.Proofs

/-! ### merged wallets, and what a wallet knows -/
def mxL (x y : List Int) : List Int := List.zipWith max x y
def mxR (A B : List (List Int)) : List (List Int) := List.zipWith mxL A B
def mrgW (a b : Wal) : Wal := ⟨a.sites, mxR a.rights b.rights, mxL a.used b.used⟩
theorem mxL_len {x y : List Int} (h : y.length = x.length) : (mxL x y).length = x.length := by unfold mxL; rw [List.length_zipWith]; omega
theorem mxR_len {x y : List (List Int)} (h : y.length = x.length) : (mxR x y).length = x.length := by unfold mxR; rw [List.length_zipWith]; omega
theorem mxL_at {x y : List Int} {k : Nat} {a b : Int} (h1 : x[k]? = some a) (h2 : y[k]? = some b) : (mxL x y)[k]? = some (max a b) := by unfold mxL; rw [List.getElem?_zipWith, h1, h2]
theorem mxR_at {x y : List (List Int)} {k : Nat} {a b : List Int} (h1 : x[k]? = some a) (h2 : y[k]? = some b) : (mxR x y)[k]? = some (mxL a b) := by unfold mxR; rw [List.getElem?_zipWith, h1, h2]
/-- a list that is replaced from the front on -/
def mixL {α : Type} (m l : List α) (k : Nat) : List α := m.take k ++ l.drop k
theorem mixL_zero {α : Type} (m l : List α) : mixL m l 0 = l := by simp [mixL]
theorem mixL_len {α : Type} {m l : List α} {k : Nat} (h : m.length = l.length) (hk : k ≤ l.length) : (mixL m l k).length = l.length := by unfold mixL; rw [List.length_append, List.length_take, List.length_drop]; omega
theorem mixL_all {α : Type} {m l : List α} {k : Nat} (h : m.length = l.length) (hk : l.length ≤ k) : mixL m l k = m := by unfold mixL; rw [List.take_of_length_le (by omega), List.drop_of_length_le hk, List.append_nil]
theorem mixL_at {α : Type} {m l : List α} {k : Nat} (h : m.length = l.length) (hk : k < l.length) : (mixL m l k)[k]? = l[k]? := by
  unfold mixL
  rw [List.getElem?_append_right (by rw [List.length_take]; omega), List.length_take, List.getElem?_drop, Nat.min_eq_left (by omega)]
  congr 1
  omega
theorem mixL_set {α : Type} {m l : List α} {k : Nat} {x : α} (h : m.length = l.length) (hx : m[k]? = some x) : (mixL m l k).set k x = mixL m l (k + 1) := by
  have hk := (List.getElem?_eq_some_iff.1 hx).1
  unfold mixL
  rw [List.set_append_right _ _ (by rw [List.length_take]; omega), List.length_take, Nat.min_eq_left (by omega), Nat.sub_self]
  have e : l.drop k = l[k] :: l.drop (k + 1) := List.drop_eq_getElem_cons (by omega)
  rw [e, List.set_cons_zero]
  have e2 : m.take (k + 1) = m.take k ++ [x] := by
    rw [List.take_succ, hx]
    rfl
  rw [e2, List.append_assoc]
  rfl
theorem WOk.mrg {a b : Wal} (ha : WOk a) (hb : WOk b) (hs : b.sites = a.sites) : WOk (mrgW a b) := by
  have h1 := ha.r
  have h2 := hb.r
  have h3 := ha.u
  have h4 := hb.u
  rw [hs] at h2 h4
  have mem2 : ∀ {x y : List Int}, (∀ n ∈ x, 0 ≤ n ∧ n ≤ 1000000000) → (∀ n ∈ y, 0 ≤ n ∧ n ≤ 1000000000) → ∀ n ∈ mxL x y, 0 ≤ n ∧ n ≤ 1000000000 := by
    intro x y hx hy n hn
    obtain ⟨k, hk, rfl⟩ := List.getElem_of_mem hn
    unfold mxL at hk ⊢
    rw [List.length_zipWith] at hk
    rw [List.getElem_zipWith]
    have := hx _ (List.getElem_mem (show k < x.length by omega))
    have := hy _ (List.getElem_mem (show k < y.length by omega))
    omega
  have memR : ∀ l ∈ mxR a.rights b.rights, ∃ x y, x ∈ a.rights ∧ y ∈ b.rights ∧ l = mxL x y := by
    intro l hl
    obtain ⟨k, hk, rfl⟩ := List.getElem_of_mem hl
    unfold mxR at hk ⊢
    rw [List.length_zipWith] at hk
    exact ⟨_, _, List.getElem_mem (show k < a.rights.length by omega), List.getElem_mem (show k < b.rights.length by omega), by rw [List.getElem_zipWith]⟩
  refine ⟨ha.n1, by show (mxR a.rights b.rights).length = _; rw [mxR_len (by omega)]; exact h1, by show (mxL a.used b.used).length = _; rw [mxL_len (by omega)]; exact h3, ?_, mem2 ha.ru hb.ru, ?_⟩
  · intro l hl
    obtain ⟨x, y, hx, hy, rfl⟩ := memR l hl
    have e1 := ha.rr x hx
    have e2 := hb.rr y hy
    rw [hs] at e2
    rw [mxL_len (by omega)]
    exact e1
  · intro l hl
    obtain ⟨x, y, hx, hy, rfl⟩ := memR l hl
    exact mem2 (ha.rx x hx) (hb.rx y hy)

def geL (x y : List Int) : Prop := ∀ (k : Nat) (a b : Int), x[k]? = some a → y[k]? = some b → ¬ a < b
theorem geL_app {x x' y y' : List Int} (h : x.length = x'.length) : geL (x ++ y) (x' ++ y') ↔ geL x x' ∧ geL y y' := by
  constructor
  · intro hg
    refine ⟨fun k a b ha hb => ?_, fun k a b ha hb => ?_⟩
    · have h1 := (List.getElem?_eq_some_iff.1 ha).1
      exact hg k a b (by rw [List.getElem?_append_left h1]; exact ha) (by rw [List.getElem?_append_left (by omega)]; exact hb)
    · exact hg (x.length + k) a b (by rw [List.getElem?_append_right (by omega)]; rw [show x.length + k - x.length = k by omega]; exact ha) (by rw [List.getElem?_append_right (by omega)]; rw [show x.length + k - x'.length = k by omega]; exact hb)
  · rintro ⟨h1, h2⟩ k a b ha hb
    by_cases hk : k < x.length
    · rw [List.getElem?_append_left hk] at ha
      rw [List.getElem?_append_left (by omega)] at hb
      exact h1 k a b ha hb
    · rw [List.getElem?_append_right (by omega)] at ha
      rw [List.getElem?_append_right (by omega)] at hb
      rw [← h] at hb
      exact h2 _ a b ha hb
theorem geL_flat {n : Nat} : ∀ {A B : List (List Int)}, A.length = B.length → (∀ l ∈ A, l.length = n) → (∀ l ∈ B, l.length = n) → (geL A.flatten B.flatten ↔ ∀ (i : Nat) (l m : List Int), A[i]? = some l → B[i]? = some m → geL l m)
  | [], [], _, _, _ => by
    constructor
    · intro _ i l m h; simp at h
    · intro _ k a b h; simp at h
  | l :: A, m :: B, h, h1, h2 => by
    have ih := geL_flat (A := A) (B := B) (n := n) (by simpa using h) (fun l hl => h1 l (List.mem_cons_of_mem _ hl)) (fun l hl => h2 l (List.mem_cons_of_mem _ hl))
    have e1 := h1 l (List.mem_cons_self ..)
    have e2 := h2 m (List.mem_cons_self ..)
    rw [List.flatten_cons, List.flatten_cons, geL_app (by omega), ih]
    constructor
    · rintro ⟨g1, g2⟩ i x y hx hy
      cases i with
      | zero => simp at hx hy; subst hx; subst hy; exact g1
      | succ i => simp at hx hy; exact g2 i x y hx hy
    · intro g
      exact ⟨g 0 l m rfl rfl, fun i x y hx hy => g (i + 1) x y hx hy⟩
noncomputable instance (x y : List Int) : Decidable (geL x y) := Classical.propDecidable _
noncomputable def knB (a b : Wal) : Bool := decide (geL (a.rights.flatten ++ a.used) (b.rights.flatten ++ b.used))
theorem knB_iff {a b : Wal} (ha : WOk a) (hb : WOk b) (hs : b.sites = a.sites) : knB a b = true ↔ geL a.used b.used ∧ ∀ (i : Nat) (l m : List Int), a.rights[i]? = some l → b.rights[i]? = some m → geL l m := by
  have h1 := ha.r
  have h2 := hb.r
  have h3 := ha.rr
  have h4 := hb.rr
  rw [hs] at h2 h4
  have hf : ∀ {A B : List (List Int)} {n : Nat}, A.length = B.length → (∀ l ∈ A, l.length = n) → (∀ l ∈ B, l.length = n) → A.flatten.length = B.flatten.length := by
    intro A
    induction A with
    | nil => intro B n h _ _; cases B with
      | nil => rfl
      | cons => simp at h
    | cons x A ih => intro B n h g1 g2; cases B with
      | nil => simp at h
      | cons y B =>
        have := ih (B := B) (n := n) (by simpa using h) (fun l hl => g1 l (List.mem_cons_of_mem _ hl)) (fun l hl => g2 l (List.mem_cons_of_mem _ hl))
        have e1 := g1 x (List.mem_cons_self ..)
        have e2 := g2 y (List.mem_cons_self ..)
        rw [List.flatten_cons, List.flatten_cons, List.length_append, List.length_append]
        omega
  unfold knB
  rw [decide_eq_true_iff, geL_app (hf (by omega) h3 h4), geL_flat (by omega) h3 h4]
  exact And.comm
end Lg
