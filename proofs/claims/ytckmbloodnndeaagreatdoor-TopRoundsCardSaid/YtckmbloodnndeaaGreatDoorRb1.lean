/- A part of the proof of a law of this seat: it adds no condition. By an AI agent. -/
import Derived.Test.YtckmbloodnndeaaGreatDoorRt15
section
set_option linter.all false
set_option maxRecDepth 100000
set_option maxHeartbeats 8000000
namespace Lg
open Go Go.Proofs

attribute [local irreducible] intRows drv drvU ordersE tripE

end Lg
end
section
set_option linter.all false
set_option maxRecDepth 100000
set_option maxHeartbeats 8000000
namespace Lg
open Go Go.Proofs

/-! ### Split, in plain terms -/
def itF {σ : Type} (f : Nat → σ → σ) : Nat → Nat → σ → σ
  | _, 0, s => s
  | k, n + 1, s => itF f (k + 1) n (f k s)
theorem itF_step {σ : Type} {f : Nat → σ → σ} {k D : Nat} {s : σ} (h : k < D) : itF f k (D - k) s = itF f (k + 1) (D - (k + 1)) (f k s) := by
  obtain ⟨m, hm⟩ : ∃ m, D - k = m + 1 := ⟨D - k - 1, by omega⟩
  rw [hm, itF, show D - (k + 1) = m by omega]
theorem itF_end {σ : Type} {f : Nat → σ → σ} {k D : Nat} {s : σ} (h : ¬ k < D) : itF f k (D - k) s = s := by
  rw [show D - k = 0 by omega, itF]
section spl
variable (l : List Stop) (h : Spot) (s : Int)
end spl
section spl
variable {l : List Stop} {h : Spot} {s : Int}
end spl
end Lg
end
section
set_option linter.all false
set_option maxRecDepth 100000
set_option maxHeartbeats 8000000
namespace Lg
open Go Go.Proofs

/-! ### Best, in plain terms -/
/-- a route driven, without the way home: where one is, since when, and how far it was -/
def drvP (l : List Stop) : List Int → Spot → Int → Int → Option (Spot × Int × Int)
  | [], a, now, w => some (a, now, w)
  | i :: o, a, now, w => match l[i.toNat]? with
    | none => none
    | some s => if s.t < max (now + farI a s.spot) s.f then none else drvP l o s.spot (max (now + farI a s.spot) s.f + s.n) (w + farI a s.spot)
theorem drvP_drv {l : List Stop} {h : Spot} : ∀ (o : List Int) (a : Spot) (now : Int) (bs : List Int) (w q : Int), match drvP l o a now w with
    | none => drv l h o a now bs w q = none
    | some (a2, now2, w2) => ∃ bs2 q2, drv l h o a now bs w q = some (bs2, now2 + farI a2 h, w2 + farI a2 h, q2)
  | [], a, now, bs, w, q => by rw [drvP, drv]; exact ⟨_, _, rfl⟩
  | i :: o, a, now, bs, w, q => by
    rw [drvP, drv]
    cases hs : l[i.toNat]? with
    | none => rfl
    | some s =>
      simp only
      by_cases hc : s.t < max (now + farI a s.spot) s.f
      · rw [if_pos hc, if_pos hc]
      · rw [if_neg hc, if_neg hc]
        exact drvP_drv o _ _ _ _ _
theorem drvP_snoc {l : List Stop} {i : Int} : ∀ (o : List Int) (a : Spot) (now w : Int), drvP l (o ++ [i]) a now w = match drvP l o a now w with
    | none => none
    | some (a2, now2, w2) => drvP l [i] a2 now2 w2
  | [], a, now, w => by rw [List.nil_append, drvP.eq_1]
  | j :: o, a, now, w => by
    rw [List.cons_append, drvP, drvP]
    cases hs : l[j.toNat]? with
    | none => rfl
    | some s =>
      simp only
      by_cases hc : s.t < max (now + farI a s.spot) s.f
      · rw [if_pos hc, if_pos hc]
      · rw [if_neg hc, if_neg hc]
        exact drvP_snoc o _ _ _
theorem farI_tri (a b c : Spot) : farI a c ≤ farI a b + farI b c := by
  unfold farI
  omega
abbrev BS := List Int × Int
section bst
variable (l : List Stop) (h : Spot) (s : Int)
/-- all routes tried -/
def tryR : Nat → List Int → BS → BS
  | 0, pre, st => match drvP l pre h s 0 with
    | none => st
    | some (a, _, w) => if st.2 < 0 ∨ w + farI a h < st.2 then (pre, w + farI a h) else st
  | n + 1, pre, st => match drvP l pre h s 0 with
    | none => st
    | some _ => itF (fun k st => if (k : Int) ∈ pre then st else tryR n (pre ++ [(k : Int)]) st) 0 l.length st
/-- the same, with the hopeless ones left out -/
def seekD : Nat → List Int → Spot → Int → Int → BS → BS
  | 0, pre, a, _, w, st => if 0 ≤ st.2 ∧ st.2 ≤ w + farI a h then st else (pre, w + farI a h)
  | n + 1, pre, a, now, w, st => if 0 ≤ st.2 ∧ st.2 ≤ w + farI a h then st else itF (fun k st => match l[k]? with
    | none => st
    | some x => if (k : Int) ∈ pre ∨ x.t < max (now + farI a x.spot) x.f then st else seekD n (pre ++ [(k : Int)]) x.spot (max (now + farI a x.spot) x.f + x.n) (w + farI a x.spot) st) 0 l.length st
end bst
theorem itF_same {σ : Type} {f g : Nat → σ → σ} {D : Nat} (h : ∀ k s, k < D → f k s = g k s) : ∀ (n k : Nat) (s : σ), k + n ≤ D → itF f k n s = itF g k n s
  | 0, _, _, _ => rfl
  | n + 1, k, s, hk => by rw [itF, itF, h k s (by omega), itF_same h n (k + 1) _ (by omega)]
theorem itF_id {σ : Type} {f : Nat → σ → σ} {D : Nat} {s : σ} (h : ∀ k, k < D → f k s = s) : ∀ (n k : Nat), k + n ≤ D → itF f k n s = s
  | 0, _, _ => rfl
  | n + 1, k, hk => by rw [itF, h k (by omega), itF_id h n (k + 1) (by omega)]
section bst
variable {l : List Stop} {h : Spot} {s : Int}
theorem drvP_one {k : Nat} {x : Stop} {a : Spot} {now w : Int} (hx : l[k]? = some x) : drvP l [(k : Int)] a now w = if x.t < max (now + farI a x.spot) x.f then none else some (x.spot, max (now + farI a x.spot) x.f + x.n, w + farI a x.spot) := by
  rw [drvP, Int.toNat_natCast, hx]
  rfl
theorem tryR_none {n : Nat} {pre : List Int} {st : BS} (hd : drvP l pre h s 0 = none) : tryR l h s n pre st = st := by
  cases n <;> (rw [tryR, hd])
theorem tryR_cut : ∀ (n : Nat) (pre : List Int) (a : Spot) (now w : Int) (st : BS), drvP l pre h s 0 = some (a, now, w) → 0 ≤ st.2 → st.2 ≤ w + farI a h → tryR l h s n pre st = st
  | 0, pre, a, now, w, st, hd, h1, h2 => by
    rw [tryR, hd]
    simp only
    rw [if_neg (by omega)]
  | n + 1, pre, a, now, w, st, hd, h1, h2 => by
    rw [tryR, hd]
    simp only
    refine itF_id (D := l.length) (fun k hk => ?_) _ _ (by omega)
    by_cases hm : (k : Int) ∈ pre
    · rw [if_pos hm]
    · rw [if_neg hm]
      obtain ⟨x, hx⟩ := at_lt hk
      have hs := drvP_snoc (l := l) (i := (k : Int)) pre h s 0
      rw [hd] at hs
      simp only at hs
      rw [drvP_one hx] at hs
      by_cases hc : x.t < max (now + farI a x.spot) x.f
      · rw [if_pos hc] at hs
        exact tryR_none hs
      · rw [if_neg hc] at hs
        have := farI_tri a x.spot h
        exact tryR_cut n _ _ _ _ _ hs h1 (by omega)
theorem seek_try : ∀ (n : Nat) (pre : List Int) (a : Spot) (now w : Int) (st : BS), drvP l pre h s 0 = some (a, now, w) → seekD l h n pre a now w st = tryR l h s n pre st
  | 0, pre, a, now, w, st, hd => by
    rw [seekD, tryR, hd]
    simp only
    by_cases hc : 0 ≤ st.2 ∧ st.2 ≤ w + farI a h
    · rw [if_pos hc, if_neg (by omega)]
    · rw [if_neg hc, if_pos (by omega)]
  | n + 1, pre, a, now, w, st, hd => by
    by_cases hc : 0 ≤ st.2 ∧ st.2 ≤ w + farI a h
    · rw [tryR_cut _ _ _ _ _ _ hd hc.1 hc.2, seekD, if_pos hc]
    · rw [seekD, tryR, hd, if_neg hc]
      simp only
      refine itF_same (D := l.length) (fun k st hk => ?_) _ _ _ (by omega)
      obtain ⟨x, hx⟩ := at_lt hk
      rw [hx]
      simp only
      have hs := drvP_snoc (l := l) (i := (k : Int)) pre h s 0
      rw [hd] at hs
      simp only at hs
      rw [drvP_one hx] at hs
      by_cases hm : (k : Int) ∈ pre
      · rw [if_pos hm, if_pos (.inl hm)]
      · rw [if_neg hm]
        by_cases hc : x.t < max (now + farI a x.spot) x.f
        · rw [if_pos hc] at hs
          rw [if_pos (.inr hc), tryR_none hs]
        · rw [if_neg hc] at hs
          rw [if_neg (by simp only [hm, hc, or_self, not_false_eq_true]), seek_try n _ _ _ _ _ hs]
end bst
end Lg
end
