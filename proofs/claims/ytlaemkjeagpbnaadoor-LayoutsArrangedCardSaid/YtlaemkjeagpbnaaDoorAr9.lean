/- A part of the proof of a law of this seat: it adds no condition. By an AI agent. -/
import Derived.Test.YtlaemkjeagpbnaaDoorAr8
set_option linter.all false
set_option maxRecDepth 100000
set_option maxHeartbeats 8000000
namespace Lg
open Go Go.Proofs

/-! ### Arrange, in plain terms -/
structure AS where
  lk : List Int
  out : List ByteArray
  lost : List Int
def arS (l : List Offer) (xs : List ByteArray) (k : Nat) (st : AS) : AS := match xs[k]? with
  | none => st
  | some x => if x = eS then st else if 0 < st.lk.getD (offIx l x).toNat 0 then ⟨st.lk.set (offIx l x).toNat (st.lk.getD (offIx l x).toNat 0 - 1), st.out.set k x, st.lost⟩ else ⟨st.lk, st.out, st.lost ++ [(k : Int)]⟩
def emS (xs : List ByteArray) (k : Nat) (fr : List Int) : List Int := match xs[k]? with
  | none => fr
  | some x => if x = eS then fr ++ [(k : Int)] else fr
abbrev FS := List ByteArray × List Int
def arT (key : ByteArray) (_ : Nat) (st : FS) : FS := match st.2 with
  | [] => st
  | f :: fr => (st.1.set f.toNat key, fr)
def arO (l : List Offer) (lk : List Int) (k : Nat) (st : FS) : FS := match lk[k]?, l[k]? with
  | some v, some o => itF (arT o.key) 0 v.toNat st
  | _, _ => st
def arr1 (l : List Offer) (xs : List ByteArray) (c : List Int) : AS := itF (arS l xs) 0 xs.length ⟨c, List.replicate xs.length eS, []⟩
def arrFr (l : List Offer) (xs : List ByteArray) (c : List Int) : List Int := (arr1 l xs c).lost ++ itF (emS xs) 0 xs.length []
def arrL (l : List Offer) (xs : List ByteArray) (c : List Int) : List ByteArray := (itF (arO l (arr1 l xs c).lk) 0 (arr1 l xs c).lk.length ((arr1 l xs c).out, arrFr l xs c)).1
theorem sumL_cons (x : Int) (l : List Int) : sumL (x :: l) = x + sumL l := by
  unfold sumL
  rw [sumF_cons]
theorem sumL_set : ∀ (l : List Int) (j : Nat) (v w : Int), l[j]? = some v → sumL (l.set j w) = sumL l - v + w
  | [], j, v, w, h => by simp at h
  | x :: l, 0, v, w, h => by
    simp at h
    subst h
    rw [List.set_cons_zero, sumL_cons, sumL_cons]
    omega
  | x :: l, j + 1, v, w, h => by
    rw [List.set_cons_succ, sumL_cons, sumL_cons, sumL_set l j v w (by simpa using h)]
    omega
theorem sumL_drop {l : List Int} {k : Nat} {v : Int} (h : l[k]? = some v) : sumL (l.drop k) = v + sumL (l.drop (k + 1)) := by
  rw [drop_at h, sumL_cons]
theorem emS_app (xs : List ByteArray) : ∀ (n k : Nat) (a b : List Int), itF (emS xs) k n (a ++ b) = a ++ itF (emS xs) k n b
  | 0, k, a, b => rfl
  | n + 1, k, a, b => by
    rw [itF, itF]
    have : emS xs k (a ++ b) = a ++ emS xs k b := by
      unfold emS
      split
      · rfl
      · split
        · rw [List.append_assoc]
        · rfl
    rw [this, emS_app]
theorem itF_succ {σ : Type} {f : Nat → σ → σ} (n : Nat) (s : σ) : itF f 0 (n + 1) s = f n (itF f 0 n s) := by
  rw [itF_add, itF, itF, Nat.zero_add]
def empL (xs : List ByteArray) (k : Nat) : List Int := itF (emS xs) 0 k []
theorem empL_succ (xs : List ByteArray) (k : Nat) : empL xs (k + 1) = emS xs k (empL xs k) := itF_succ k []
theorem empL_rg (xs : List ByteArray) : ∀ k, k ≤ xs.length → (empL xs k).length ≤ k ∧ ∀ y ∈ empL xs k, 0 ≤ y ∧ y < (xs.length : Int)
  | 0, _ => ⟨Nat.le_refl _, by simp [empL, itF]⟩
  | k + 1, hk => by
    obtain ⟨h1, h2⟩ := empL_rg xs k (by omega)
    rw [empL_succ]
    unfold emS
    split
    · exact ⟨by omega, h2⟩
    · split
      · refine ⟨by simp; omega, fun y hy => ?_⟩
        rcases List.mem_append.1 hy with h | h
        · exact h2 y h
        · rw [List.mem_singleton.1 h]; omega
      · exact ⟨by omega, h2⟩
/-- what holds in the first loop -/
structure ArI (l : List Offer) (xs : List ByteArray) (c : List Int) (k : Nat) (st : AS) : Prop where
  lkl : st.lk.length = c.length
  lkb : ∀ v ∈ st.lk, 0 ≤ v ∧ v ≤ 10
  outl : st.out.length = xs.length
  lostl : st.lost.length ≤ k
  lostb : ∀ y ∈ st.lost, 0 ≤ y ∧ y < (xs.length : Int)
  sum : sumL st.lk + k ≤ sumL c + st.lost.length + (empL xs k).length
theorem ArI.step {l : List Offer} {xs : List ByteArray} {c : List Int} {k : Nat} {st : AS} (h : ArI l xs c k st) (hk : k < xs.length) : ArI l xs c (k + 1) (arS l xs k st) := by
  obtain ⟨x, hx⟩ := at_lt hk
  have he : empL xs (k + 1) = if x = eS then empL xs k ++ [(k : Int)] else empL xs k := by
    rw [empL_succ, emS, hx]
  have hs := h.sum
  have hl := h.lostl
  unfold arS
  rw [hx]
  simp only
  by_cases h1 : x = eS
  · rw [if_pos h1] at he ⊢
    refine ⟨h.lkl, h.lkb, h.outl, by omega, h.lostb, ?_⟩
    rw [he, List.length_append, List.length_singleton]
    omega
  · rw [if_neg h1] at he ⊢
    by_cases h2 : 0 < st.lk.getD (offIx l x).toNat 0
    · rw [if_pos h2]
      cases hv : st.lk[(offIx l x).toNat]? with
      | none => rw [List.getD_eq_getElem?_getD, hv] at h2; exact absurd h2 (by decide)
      | some v =>
        have hvb := h.lkb v (List.mem_of_getElem? hv)
        have hd : st.lk.getD (offIx l x).toNat 0 = v := by rw [List.getD_eq_getElem?_getD, hv]; rfl
        rw [hd] at h2 ⊢
        refine ⟨by rw [List.length_set]; exact h.lkl, fun y hy => ?_, by rw [List.length_set]; exact h.outl, by simp only; omega, h.lostb, ?_⟩
        · rcases List.mem_or_eq_of_mem_set hy with e | e
          · exact h.lkb y e
          · omega
        · simp only
          rw [sumL_set _ _ v _ hv, he]
          omega
    · rw [if_neg h2]
      refine ⟨h.lkl, h.lkb, h.outl, by simp only; rw [List.length_append, List.length_singleton]; omega, fun y hy => ?_, ?_⟩
      · rcases List.mem_append.1 hy with e | e
        · exact h.lostb y e
        · rw [List.mem_singleton.1 e]; omega
      · simp only
        rw [List.length_append, List.length_singleton, he]
        omega
theorem ArI.all {l : List Offer} {xs : List ByteArray} {c : List Int} : ∀ (n k : Nat) (st : AS), k + n ≤ xs.length → ArI l xs c k st → ArI l xs c (k + n) (itF (arS l xs) k n st)
  | 0, k, st, _, h => h
  | n + 1, k, st, hk, h => by
    rw [itF, show k + (n + 1) = k + 1 + n by omega]
    exact ArI.all n (k + 1) _ (by omega) (h.step (by omega))
theorem ArI.zero (l : List Offer) (xs : List ByteArray) {c : List Int} (hb : ∀ v ∈ c, 0 ≤ v ∧ v ≤ 10) : ArI l xs c 0 ⟨c, List.replicate xs.length eS, []⟩ := ⟨rfl, hb, List.length_replicate, Nat.le_refl _, by simp, by simp; omega⟩
theorem arS_emp {l : List Offer} {xs : List ByteArray} {k : Nat} {st : AS} {x : ByteArray} (hx : xs[k]? = some x) (h : x = eS) : arS l xs k st = st := by
  rw [arS, hx]
  simp only
  rw [if_pos h]
theorem arS_put {l : List Offer} {xs : List ByteArray} {k j : Nat} {st : AS} {x : ByteArray} {v : Int} (hx : xs[k]? = some x) (h : ¬ x = eS) (hj : offIx l x = j) (hv : st.lk[j]? = some v) : arS l xs k st = if 0 < v then ⟨st.lk.set j (v - 1), st.out.set k x, st.lost⟩ else ⟨st.lk, st.out, st.lost ++ [(k : Int)]⟩ := by
  have hd : st.lk.getD j 0 = v := by rw [List.getD_eq_getElem?_getD, hv]; rfl
  rw [arS, hx]
  simp only
  rw [if_neg h, hj, Int.toNat_natCast, hd]
theorem arT_cons {key : ByteArray} {k : Nat} {o : List ByteArray} {f : Int} {fr : List Int} : arT key k (o, f :: fr) = (o.set f.toNat key, fr) := rfl
end Lg
