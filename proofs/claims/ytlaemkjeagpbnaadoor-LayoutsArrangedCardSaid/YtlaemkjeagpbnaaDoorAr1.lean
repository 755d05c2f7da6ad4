/- A part of the proof of a law of this seat: it adds no condition. By an AI agent. -/
import Derived.Test.YtlaemkjeagpbnaaDoorLgY
import Derived.Test.YtlaemkjeagpbnaaDoorLay3
section
set_option linter.all false
set_option maxRecDepth 100000
set_option maxHeartbeats 8000000
namespace Lg
open Go

/-! ### versions and stays, in plain terms -/
structure Ver where
  f : Int
  x : List ByteArray
structure Sty where
  s : Int
  p : ByteArray
  f : Int
  t : Int
abbrev eS : ByteArray := ⟨#[]⟩
def itF {σ : Type} (f : Nat → σ → σ) : Nat → Nat → σ → σ
  | _, 0, s => s
  | k, n + 1, s => itF f (k + 1) n (f k s)
theorem itF_step {σ : Type} {f : Nat → σ → σ} {k D : Nat} {s : σ} (h : k < D) : itF f k (D - k) s = itF f (k + 1) (D - (k + 1)) (f k s) := by
  obtain ⟨m, hm⟩ : ∃ m, D - k = m + 1 := ⟨D - k - 1, by omega⟩
  rw [hm, itF, show D - (k + 1) = m by omega]
theorem itF_end {σ : Type} {f : Nat → σ → σ} {k D : Nat} {s : σ} (h : ¬ k < D) : itF f k (D - k) s = s := by
  rw [show D - k = 0 by omega, itF]
theorem itF_add {σ : Type} {f : Nat → σ → σ} : ∀ (a b k : Nat) (s : σ), itF f k (a + b) s = itF f (k + a) b (itF f k a s)
  | 0, b, k, s => by rw [Nat.zero_add, Nat.add_zero, itF]
  | a + 1, b, k, s => by
    rw [show a + 1 + b = (a + b) + 1 by omega, itF, itF, itF_add a b, show k + 1 + a = k + (a + 1) by omega]
/-- the version of a day, looked for from the back -/
def atN (l : List Ver) (d : Int) : Nat → Option Ver
  | 0 => none
  | n + 1 => match l[n]? with
    | none => none
    | some v => if v.f ≤ d then some v else atN l d n
def wd (l : List Ver) (i : Nat) (d : Int) : ByteArray := match atN l d l.length with
  | none => eS
  | some v => v.x.getD i eS
def setL (out : List Sty) (t : Int) : List Sty := match out.getLast? with
  | none => out
  | some s => out.dropLast ++ [{ s with t := t }]
abbrev DS := List Sty × ByteArray
abbrev VS := List Sty × Sty
/-- one day of one slot -/
def dayS (i : Nat) (w : ByteArray) (d : Int) (st : DS) : DS :=
  if w ≠ eS ∧ w = st.2 then (setL st.1 (d + 1), w) else if w ≠ eS then (st.1 ++ [⟨i, w, d, d + 1⟩], w) else (st.1, w)
def dayF (i : Nat) (W : Int → ByteArray) (d0 : Int) : Nat → Nat → DS → DS := itF (fun k st => dayS i (W (d0 + k)) (d0 + k) st)
def keptF (out : List Sty) (s : Sty) : List Sty := if s.p = eS then out else out ++ [s]
def verW (i : Nat) (k : ByteArray) (b e : Int) (st : VS) : VS :=
  if st.2.s = i ∧ st.2.t = b ∧ st.2.p = k then (st.1, { st.2 with t := e }) else (keptF st.1 st.2, ⟨i, k, b, e⟩)
def verEnd (l : List Ver) (t : Int) (k : Nat) : Int := match l[k + 1]? with
  | none => t
  | some y => min t y.f
def verK (l : List Ver) (i : Nat) (f t : Int) (k : Nat) (st : VS) : VS := match l[k]? with
  | none => st
  | some v => if verEnd l t k ≤ max f v.f then st else verW i (v.x.getD i eS) (max f v.f) (verEnd l t k) st
def slotV (l : List Ver) (i : Nat) (f t : Int) (out : List Sty) : List Sty := keptF (itF (verK l i f t) 0 l.length (out, ⟨-1, eS, 0, 0⟩)).1 (itF (verK l i f t) 0 l.length (out, ⟨-1, eS, 0, 0⟩)).2
def slotD (l : List Ver) (i : Nat) (f t : Int) (out : List Sty) : List Sty := (dayF i (wd l i) f 0 (t - f).toNat (out, eS)).1

theorem setL_snoc (out : List Sty) (s : Sty) (t : Int) : setL (out ++ [s]) t = out ++ [{ s with t := t }] := by
  unfold setL
  rw [List.getLast?_concat]
  simp
theorem dayF_nil {i : Nat} {W : Int → ByteArray} {d0 : Int} : ∀ (n k : Nat) (st : DS), (∀ j, k ≤ j → j < k + n → W (d0 + j) = eS) → st.2 = eS → dayF i W d0 k n st = st
  | 0, k, st, _, _ => rfl
  | n + 1, k, st, h, hs => by
    unfold dayF at *
    rw [itF]
    have h0 : dayS i (W (d0 + k)) (d0 + k) st = st := by
      rw [h k (by omega) (by omega)]
      unfold dayS
      rw [if_neg (by simp), if_neg (by simp)]
      obtain ⟨o, w⟩ := st
      simp only at hs
      rw [hs]
    rw [h0]
    exact dayF_nil n (k + 1) st (fun j h1 h2 => h j (by omega) (by omega)) hs
theorem dayF_clear {i : Nat} {W : Int → ByteArray} {d0 : Int} : ∀ (n k : Nat) (st : DS), 0 < n → (∀ j, k ≤ j → j < k + n → W (d0 + j) = eS) → dayF i W d0 k n st = (st.1, eS)
  | 0, k, st, hn, _ => absurd hn (by omega)
  | n + 1, k, st, _, h => by
    have := dayF_nil (i := i) n (k + 1) (dayS i (W (d0 + k)) (d0 + k) st) (fun j h1 h2 => h j (by omega) (by omega)) (by
      rw [h k (by omega) (by omega)]
      unfold dayS
      rw [if_neg (by simp), if_neg (by simp)])
    unfold dayF at *
    rw [itF, this, h k (by omega) (by omega)]
    unfold dayS
    rw [if_neg (by simp), if_neg (by simp)]
theorem dayF_cont {i : Nat} {W : Int → ByteArray} {d0 : Int} {w : ByteArray} (hw : w ≠ eS) : ∀ (n k : Nat) (out : List Sty) (s : Sty), (∀ j, k ≤ j → j < k + n → W (d0 + j) = w) → s.t = d0 + k → dayF i W d0 k n (out ++ [s], w) = (out ++ [{ s with t := d0 + k + n }], w)
  | 0, k, out, s, _, hs => by
    unfold dayF
    rw [itF]
    congr 2
    obtain ⟨a, b, c, t⟩ := s
    simp only at hs
    simp [hs]
  | n + 1, k, out, s, h, hs => by
    have h0 : dayS i (W (d0 + k)) (d0 + k) (out ++ [s], w) = (out ++ [{ s with t := d0 + k + 1 }], w) := by
      rw [h k (by omega) (by omega)]
      unfold dayS
      rw [if_pos ⟨hw, rfl⟩, setL_snoc]
    have := dayF_cont (i := i) hw n (k + 1) out { s with t := d0 + k + 1 } (fun j h1 h2 => h j (by omega) (by omega)) (by simp only; omega)
    unfold dayF at *
    rw [itF, h0, this]
    congr 3
    simp only [Sty.mk.injEq, true_and]
    omega
/-- both walks agree at a day -/
def Rel (i : Nat) (d : Int) (v : VS) (s : DS) : Prop := s = (keptF v.1 v.2, v.2.p) ∧ ((v.2.s = i ∧ v.2.t = d) ∨ (v.2.p = eS ∧ v.2.s ≠ i))
theorem rel_step {i : Nat} {W : Int → ByteArray} {d0 : Int} {k n : Nat} {w : ByteArray} {v : VS} {s : DS} (hn : 0 < n) (hW : ∀ j, k ≤ j → j < k + n → W (d0 + j) = w) (hR : Rel i (d0 + k) v s) : Rel i (d0 + k + n) (verW i w (d0 + k) (d0 + k + n) v) (dayF i W d0 k n s) := by
  obtain ⟨out, last⟩ := v
  obtain ⟨rfl, hl⟩ := hR
  simp only at hl
  unfold verW
  by_cases hc : last.s = i ∧ last.t = d0 + k ∧ last.p = w
  · rw [if_pos hc]
    obtain ⟨h1, h2, h3⟩ := hc
    refine ⟨?_, .inl ⟨h1, rfl⟩⟩
    by_cases hw : w = eS
    · rw [dayF_clear n k _ hn (fun j a b => by rw [hW j a b, hw])]
      unfold keptF
      simp only
      rw [if_pos (h3.trans hw), h3, hw]
      rfl
    · unfold keptF
      simp only
      rw [if_neg (by rw [h3]; exact hw), if_neg (by rw [h3]; exact hw), h3, dayF_cont hw n k out last hW h2]
      simp only [h3]
  · rw [if_neg hc]
    refine ⟨?_, .inl ⟨rfl, rfl⟩⟩
    by_cases hw : w = eS
    · rw [dayF_clear n k _ hn (fun j a b => by rw [hW j a b, hw])]
      unfold keptF
      simp only
      rw [if_pos hw, hw]
    · have hne : w ≠ last.p := by
        rintro rfl
        rcases hl with ⟨a, b⟩ | ⟨a, b⟩
        · exact hc ⟨a, b, rfl⟩
        · exact hw a
      obtain ⟨m, rfl⟩ : ∃ m, n = m + 1 := ⟨n - 1, by omega⟩
      have h0 : dayS i (W (d0 + k)) (d0 + k) (keptF out last, last.p) = (keptF out last ++ [⟨i, w, d0 + k, d0 + k + 1⟩], w) := by
        rw [hW k (by omega) (by omega)]
        unfold dayS
        rw [if_neg (fun h => hne h.2), if_pos hw]
      have := dayF_cont (i := i) hw m (k + 1) (keptF out last) ⟨i, w, d0 + k, d0 + k + 1⟩ (fun j h1 h2 => hW j (by omega) (by omega)) (by simp only; omega)
      unfold dayF at *
      simp only
      rw [itF, h0, this]
      have e1 : keptF (keptF out last) ⟨i, w, d0 + k, d0 + k + (m + 1 : Nat)⟩ = keptF out last ++ [⟨i, w, d0 + k, d0 + k + (m + 1 : Nat)⟩] := by
        rw [keptF, if_neg hw]
      rw [e1]
      congr 3
      simp only [Sty.mk.injEq, true_and]
      omega
/-! ### the version of a day -/
theorem atN_skip {l : List Ver} {d : Int} {m : Nat} : ∀ (q : Nat), m + q ≤ l.length → (∀ (j : Nat) (y : Ver), m ≤ j → l[j]? = some y → d < y.f) → atN l d (m + q) = atN l d m
  | 0, _, _ => rfl
  | q + 1, hl, h => by
    have hlt : m + q < l.length := by omega
    rw [← Nat.add_assoc, atN, List.getElem?_eq_getElem hlt]
    simp only
    rw [if_neg (by have := h (m + q) _ (by omega) (List.getElem?_eq_getElem hlt); omega)]
    exact atN_skip q (by omega) h
theorem wd_before {l : List Ver} {i : Nat} {d : Int} (h : ∀ (j : Nat) (y : Ver), l[j]? = some y → d < y.f) : wd l i d = eS := by
  have := atN_skip (l := l) (d := d) (m := 0) l.length (by omega) (fun j y _ => h j y)
  rw [Nat.zero_add] at this
  rw [wd, this, atN]
theorem wd_at {l : List Ver} {i : Nat} {d : Int} {k : Nat} {v : Ver} (hv : l[k]? = some v) (h1 : v.f ≤ d) (h : ∀ (j : Nat) (y : Ver), k + 1 ≤ j → l[j]? = some y → d < y.f) : wd l i d = v.x.getD i eS := by
  have hk := (List.getElem?_eq_some_iff.1 hv).1
  have := atN_skip (l := l) (d := d) (m := k + 1) (l.length - (k + 1)) (by omega) h
  rw [show k + 1 + (l.length - (k + 1)) = l.length by omega, atN, hv] at this
  simp only at this
  rw [if_pos h1] at this
  rw [wd, this]
/-- the days rise -/
def risV (l : List Ver) : Prop := ∀ (j k : Nat) (x y : Ver), j < k → l[j]? = some x → l[k]? = some y → x.f < y.f
theorem ris_of {l : List Ver} (h : ∀ (k : Nat) (x y : Ver), l[k]? = some x → l[k + 1]? = some y → x.f < y.f) : risV l := by
  intro j k
  induction k with
  | zero => intro x y hj; omega
  | succ k ih =>
    intro x y hj hx hy
    have hk : k < l.length := by have := (List.getElem?_eq_some_iff.1 hy).1; omega
    have h1 := h k _ y (List.getElem?_eq_getElem hk) hy
    by_cases e : j = k
    · subst e
      rw [List.getElem?_eq_getElem hk, Option.some.injEq] at hx
      rw [← hx]
      exact h1
    · have := ih x _ (by omega) hx (List.getElem?_eq_getElem hk)
      omega
/-- the day at which version k begins, within the window -/
def dk (l : List Ver) (f t : Int) (k : Nat) : Int := match l[k]? with
  | none => t
  | some v => max f (min t v.f)
theorem main_stay {l : List Ver} {i : Nat} {f t : Int} (hr : risV l) (hft : f ≤ t) : ∀ (n k : Nat) (v : VS) (s : DS), k + n = l.length → Rel i (dk l f t k) v s →
    Rel i t (itF (verK l i f t) k n v) (dayF i (wd l i) f (dk l f t k - f).toNat (t - dk l f t k).toNat s)
  | 0, k, v, s, hk, hR => by
    have hd : dk l f t k = t := by rw [dk, List.getElem?_eq_none (by omega)]
    rw [hd] at hR ⊢
    rw [show (t - t).toNat = 0 by omega, dayF, itF, itF]
    exact hR
  | n + 1, k, v, s, hk, hR => by
    obtain ⟨x, hx⟩ : ∃ x, l[k]? = some x := ⟨_, List.getElem?_eq_getElem (by omega)⟩
    have hdk : dk l f t k = max f (min t x.f) := by rw [dk, hx]
    have hnx : (l[k + 1]? = none ∧ dk l f t (k + 1) = t ∧ verEnd l t k = t) ∨ (∃ y, l[k + 1]? = some y ∧ x.f < y.f ∧ dk l f t (k + 1) = max f (min t y.f) ∧ verEnd l t k = min t y.f) := by
      cases hy : l[k + 1]? with
      | none => exact .inl ⟨rfl, by rw [dk, hy], by rw [verEnd, hy]⟩
      | some y => exact .inr ⟨y, rfl, hr k (k + 1) x y (by omega) hx hy, by rw [dk, hy], by rw [verEnd, hy]⟩
    have hlate : ∀ (d : Int), d < dk l f t (k + 1) → f ≤ d → ∀ j y, k + 1 ≤ j → l[j]? = some y → d < y.f := by
      intro d hd hfd j y hj hy
      rcases hnx with ⟨h1, _, _⟩ | ⟨z, h1, h2, h3, h4⟩
      · have := (List.getElem?_eq_some_iff.1 hy).1
        have := List.getElem?_eq_none_iff.1 h1
        omega
      · have hzy : z.f ≤ y.f := by
          by_cases e : j = k + 1
          · subst e
            rw [h1, Option.some.injEq] at hy
            rw [hy]; exact Int.le_refl _
          · have := hr (k + 1) j z y (by omega) h1 hy
            omega
        omega
    rw [itF]
    have hV : verK l i f t k v = if verEnd l t k ≤ max f x.f then v else verW i (x.x.getD i eS) (max f x.f) (verEnd l t k) v := by rw [verK, hx]
    rw [hV]
    by_cases hc : verEnd l t k ≤ max f x.f
    · rw [if_pos hc]
      have he : dk l f t (k + 1) = dk l f t k := by
        rcases hnx with ⟨_, h2, h3⟩ | ⟨y, _, h2, h3, h4⟩ <;> omega
      have := main_stay hr hft n (k + 1) v s (by omega) (by rw [he]; exact hR)
      rw [he] at this
      exact this
    · rw [if_neg hc]
      have hb : dk l f t k = max f x.f := by
        rcases hnx with ⟨_, h2, h3⟩ | ⟨y, _, h2, h3, h4⟩ <;> omega
      have he : dk l f t (k + 1) = verEnd l t k := by
        rcases hnx with ⟨_, h2, h3⟩ | ⟨y, _, h2, h3, h4⟩ <;> omega
      have het : verEnd l t k ≤ t := by
        rcases hnx with ⟨_, h2, h3⟩ | ⟨y, _, h2, h3, h4⟩ <;> omega
      obtain ⟨b, hbN⟩ : ∃ b : Nat, max f x.f = f + b := ⟨(max f x.f - f).toNat, by omega⟩
      obtain ⟨m, hmN⟩ : ∃ m : Nat, verEnd l t k = f + b + m := ⟨(verEnd l t k - (f + b)).toNat, by omega⟩
      rw [hb, hbN] at hR ⊢
      rw [hmN]
      have hW : ∀ j : Nat, b ≤ j → j < b + m → wd l i (f + j) = x.x.getD i eS := by
        intro j h1 h2
        exact wd_at hx (by omega) (hlate _ (by rw [he, hmN]; omega) (by omega))
      have h1 := rel_step (i := i) (W := wd l i) (d0 := f) (k := b) (n := m) (by omega) hW hR
      have h2 := main_stay hr hft n (k + 1) _ _ (by omega) (by rw [he, hmN]; exact h1)
      rw [he, hmN] at h2
      have e1 : (f + (b : Int) + m - f).toNat = b + m := by omega
      have e2 : (f + (b : Int) - f).toNat = b := by omega
      have e3 : (t - (f + (b : Int))).toNat = m + (t - (f + (b : Int) + m)).toNat := by omega
      rw [e1] at h2
      rw [e2, e3]
      have h3 : dayF i (wd l i) f b (m + (t - (f + (b : Int) + m)).toNat) s = dayF i (wd l i) f (b + m) (t - (f + (b : Int) + m)).toNat (dayF i (wd l i) f b m s) := by
        unfold dayF
        rw [itF_add]
      rw [h3]
      exact h2
theorem slot_eq {l : List Ver} {i : Nat} {f t : Int} (hr : risV l) (hft : f ≤ t) (out : List Sty) : slotD l i f t out = slotV l i f t out := by
  unfold slotD slotV
  have h0 : Rel i (dk l f t 0) (out, ⟨-1, eS, 0, 0⟩) (out, eS) := ⟨by rw [keptF, if_pos rfl], .inr ⟨rfl, by simp only; omega⟩⟩
  have hm := main_stay hr hft l.length 0 _ _ (by omega) h0
  have hd : f ≤ dk l f t 0 ∧ dk l f t 0 ≤ t := by
    unfold dk
    split <;> omega
  have hb : dayF i (wd l i) f 0 (dk l f t 0 - f).toNat (out, eS) = (out, eS) := by
    refine dayF_nil _ _ _ (fun j _ h2 => wd_before fun q y hy => ?_) rfl
    unfold dk at h2
    have hl := (List.getElem?_eq_some_iff.1 hy).1
    obtain ⟨x, hx⟩ : ∃ x, l[0]? = some x := ⟨_, List.getElem?_eq_getElem (by omega)⟩
    rw [hx] at h2
    simp only at h2
    have : x.f ≤ y.f := by
      by_cases e : q = 0
      · subst e
        rw [hx, Option.some.injEq] at hy
        rw [hy]; exact Int.le_refl _
      · have := hr 0 q x y (by omega) hx hy
        omega
    omega
  have hs : dayF i (wd l i) f 0 (t - f).toNat (out, eS) = dayF i (wd l i) f (dk l f t 0 - f).toNat (t - dk l f t 0).toNat (out, eS) := by
    have e1 : (t - f).toNat = (dk l f t 0 - f).toNat + (t - dk l f t 0).toNat := by omega
    have := congrArg (fun z => dayF i (wd l i) f (0 + (dk l f t 0 - f).toNat) (t - dk l f t 0).toNat z) hb
    rw [e1]
    unfold dayF at this ⊢
    rw [itF_add, this, Nat.zero_add]
  rw [hs, hm.1]
end Lg
end
section
set_option linter.all false
set_option maxRecDepth 100000
set_option maxHeartbeats 8000000
namespace Lg
open Go Go.Proofs

/-! ### Place, in plain terms -/
abbrev PS := List ByteArray × Int
def dif1 (old : List ByteArray) (i : Nat) (key : ByteArray) : Int := if key = old.getD i eS then 0 else 1
/-- all layouts tried, none left out -/
def tryP (K old : List ByteArray) (ok : List ByteArray → Bool) : Nat → List ByteArray → List Int → Int → PS → PS
  | 0, pre, _, d, st => if (st.2 < 0 ∨ d < st.2) ∧ ok pre = true then (pre, d) else st
  | n + 1, pre, left, d, st => itF (fun k st => match left[k]?, K[k]? with
    | some v, some key => if v = 0 then st else tryP K old ok n (pre ++ [key]) (left.set k (v - 1)) (d + dif1 old pre.length key) st
    | _, _ => st) 0 left.length st
/-- the same, with the hopeless ones left out; bad: what cannot be put next -/
def filP (K old : List ByteArray) (bad : List ByteArray → ByteArray → Bool) : Nat → List ByteArray → List Int → Int → PS → PS
  | 0, pre, _, d, _ => (pre, d)
  | n + 1, pre, left, d, st => itF (fun k st => match left[k]?, K[k]? with
    | some v, some key => if v = 0 then st else if (0 ≤ st.2 ∧ st.2 ≤ d + dif1 old pre.length key) ∨ bad pre key = true then st else filP K old bad n (pre ++ [key]) (left.set k (v - 1)) (d + dif1 old pre.length key) st
    | _, _ => st) 0 left.length st
theorem itF_same {σ : Type} {f g : Nat → σ → σ} {D : Nat} (h : ∀ k s, k < D → f k s = g k s) : ∀ (n k : Nat) (s : σ), k + n ≤ D → itF f k n s = itF g k n s
  | 0, _, _, _ => rfl
  | n + 1, k, s, hk => by rw [itF, itF, h k s (by omega), itF_same h n (k + 1) _ (by omega)]
theorem itF_id {σ : Type} {f : Nat → σ → σ} {D : Nat} {s : σ} (h : ∀ k, k < D → f k s = s) : ∀ (n k : Nat), k + n ≤ D → itF f k n s = s
  | 0, _, _ => rfl
  | n + 1, k, hk => by rw [itF, h k (by omega), itF_id h n (k + 1) (by omega)]
section plc
variable {K old : List ByteArray} {ok : List ByteArray → Bool} {bad : List ByteArray → ByteArray → Bool}
theorem dif1_bd (i : Nat) (key : ByteArray) : 0 ≤ dif1 old i key ∧ dif1 old i key ≤ 1 := by
  unfold dif1
  split <;> omega
theorem tryP_cut : ∀ (n : Nat) (pre : List ByteArray) (left : List Int) (d : Int) (st : PS), 0 ≤ st.2 → st.2 ≤ d → tryP K old ok n pre left d st = st
  | 0, pre, left, d, st, h1, h2 => by rw [tryP, if_neg (by omega)]
  | n + 1, pre, left, d, st, h1, h2 => by
    rw [tryP]
    refine itF_id (D := left.length) (fun k _ => ?_) _ _ (by omega)
    cases left[k]? with
    | none => rfl
    | some v =>
      cases K[k]? with
      | none => rfl
      | some key =>
        simp only
        have := dif1_bd (old := old) pre.length key
        split
        · rfl
        · exact tryP_cut n _ _ _ _ h1 (by omega)
/-- nothing can be made of a beginning -/
def dead (ok : List ByteArray → Bool) (pre : List ByteArray) (n : Nat) : Prop := ∀ s : List ByteArray, s.length = n → ok (pre ++ s) = false
theorem tryP_dead : ∀ (n : Nat) (pre : List ByteArray) (left : List Int) (d : Int) (st : PS), dead ok pre n → tryP K old ok n pre left d st = st
  | 0, pre, left, d, st, h => by
    have := h [] rfl
    rw [List.append_nil] at this
    rw [tryP, if_neg (by rw [this]; exact fun h => nomatch h.2)]
  | n + 1, pre, left, d, st, h => by
    rw [tryP]
    refine itF_id (D := left.length) (fun k _ => ?_) _ _ (by omega)
    cases left[k]? with
    | none => rfl
    | some v =>
      cases K[k]? with
      | none => rfl
      | some key =>
        simp only
        split
        · rfl
        · refine tryP_dead n _ _ _ _ fun s hs => ?_
          rw [List.append_assoc]
          exact h _ (by simp [hs])
/-- what is good so far -/
def goodP (bad : List ByteArray → ByteArray → Bool) (pre : List ByteArray) : Prop := ∀ (i : Nat) (key : ByteArray), pre[i]? = some key → bad (pre.take i) key = false
theorem goodP_nil : goodP bad [] := fun i key h => by simp at h
theorem goodP_snoc {pre : List ByteArray} {key : ByteArray} (h : goodP bad pre) (hk : bad pre key = false) : goodP bad (pre ++ [key]) := by
  intro i k hi
  by_cases hl : i < pre.length
  · rw [List.getElem?_append_left hl] at hi
    rw [List.take_append_of_le_length (by omega)]
    exact h i k hi
  · have := (List.getElem?_eq_some_iff.1 hi).1
    simp at this
    have e : i = pre.length := by omega
    subst e
    rw [List.getElem?_append_right (Nat.le_refl _), Nat.sub_self] at hi
    simp at hi
    subst hi
    rw [List.take_left]
    exact hk
theorem dead_of_bad {pre : List ByteArray} {key : ByteArray} {n : Nat} (hok : ∀ xs : List ByteArray, xs.length = old.length → (ok xs = true ↔ goodP bad xs)) (hn : pre.length + (n + 1) = old.length) (hb : bad pre key = true) : dead ok (pre ++ [key]) n := by
  intro s hs
  have h1 := hok (pre ++ [key] ++ s) (by simp [hs]; omega)
  cases h2 : ok (pre ++ [key] ++ s) with
  | false => rfl
  | true =>
    have := h1.1 h2 pre.length key (by simp)
    rw [List.append_assoc, List.take_left, hb] at this
    cases this
theorem fil_try (hok : ∀ xs : List ByteArray, xs.length = old.length → (ok xs = true ↔ goodP bad xs)) : ∀ (n : Nat) (pre : List ByteArray) (left : List Int) (d : Int) (st : PS), pre.length + n = old.length → goodP bad pre → (st.2 < 0 ∨ d < st.2) → filP K old bad n pre left d st = tryP K old ok n pre left d st
  | 0, pre, left, d, st, hn, hg, hs => by
    rw [filP, tryP, if_pos ⟨hs, (hok pre (by omega)).2 hg⟩]
  | n + 1, pre, left, d, st, hn, hg, hs => by
    rw [filP, tryP]
    refine itF_same (D := left.length) (fun k st _ => ?_) _ _ _ (by omega)
    cases left[k]? with
    | none => rfl
    | some v =>
      cases K[k]? with
      | none => rfl
      | some key =>
        simp only
        by_cases hv : v = 0
        · rw [if_pos hv, if_pos hv]
        · rw [if_neg hv, if_neg hv]
          by_cases hc : 0 ≤ st.2 ∧ st.2 ≤ d + dif1 old pre.length key
          · rw [if_pos (.inl hc), tryP_cut n _ _ _ _ hc.1 hc.2]
          · by_cases hb : bad pre key = true
            · rw [if_pos (.inr hb), tryP_dead n _ _ _ _ (dead_of_bad hok hn hb)]
            · rw [if_neg (fun h => h.elim hc hb)]
              exact fil_try hok n _ _ _ _ (by simp; omega) (goodP_snoc hg (by simpa using hb)) (by omega)
end plc
/-- what clashes with a slot above or beside it -/
def badC (l : List Offer) (C : Nat) (pre : List ByteArray) (key : ByteArray) : Bool := (decide (C ≤ pre.length) && hatedB l (pre.getD (pre.length - C) eS) key) || (decide (0 < pre.length % C) && hatedB l (pre.getD (pre.length - 1) eS) key)
def okC (r c : Int) (l : List Offer) (xs : List ByteArray) : Bool := (clashX r c l xs).isEmpty
theorem getD_take {xs : List ByteArray} {i j : Nat} (h : j < i) : (xs.take i).getD j eS = xs.getD j eS := by
  rw [List.getD_eq_getElem?_getD, List.getD_eq_getElem?_getD, List.getElem?_take, if_pos h]
theorem clashX_nil {R C : Nat} (hC : 0 < C) {l : List Offer} {xs : List ByteArray} (hn : xs.length = R * C) : okC R C l xs = true ↔ goodP (badC l C) xs := by
  have h1 : okC R C l xs = true ↔ ∀ a, a < xs.length → ∀ b ∈ touchN C xs.length a, hX l xs a b = false := by
    unfold okC clashX clAll clA
    rw [List.isEmpty_iff, List.flatMap_eq_nil_iff, Int.toNat_natCast]
    constructor
    · intro h a ha b hb
      have := h a (List.mem_range.2 ha)
      rw [List.map_eq_nil_iff, List.filter_eq_nil_iff] at this
      simpa using this b hb
    · intro h a ha
      rw [List.map_eq_nil_iff, List.filter_eq_nil_iff]
      intro b hb
      rw [h a (List.mem_range.1 ha) b hb]
      simp
  rw [h1]
  have ht : ∀ a b, b ∈ touchN C xs.length a ↔ (a % C + 1 < C ∧ b = a + 1) ∨ (a + C < xs.length ∧ b = a + C) := by
    intro a b
    unfold touchN
    by_cases h1 : a % C + 1 < C <;> by_cases h2 : a + C < xs.length <;> simp only [h1, h2, if_true, if_false, List.mem_append, List.mem_singleton, List.not_mem_nil, true_and, false_and, or_false, false_or]
  constructor
  · intro h i key hi
    have hil := (List.getElem?_eq_some_iff.1 hi).1
    have hkd : key = xs.getD i eS := by rw [List.getD_eq_getElem?_getD, hi]; rfl
    have hlen : (xs.take i).length = i := by rw [List.length_take]; omega
    unfold badC
    rw [hlen]
    rw [Bool.or_eq_false_iff, Bool.and_eq_false_imp, Bool.and_eq_false_imp]
    refine ⟨fun h2 => ?_, fun h2 => ?_⟩
    · have h2 := of_decide_eq_true h2
      rw [getD_take (by omega), hkd]
      have := h (i - C) (by omega) i ((ht _ _).2 (.inr ⟨by omega, by omega⟩))
      exact this
    · have h2 := of_decide_eq_true h2
      have hi0 : 0 < i := by
        rcases Nat.eq_zero_or_pos i with e | e
        · rw [e, Nat.zero_mod] at h2; omega
        · exact e
      rw [getD_take (by omega), hkd]
      have hm : (i - 1) % C + 1 < C := by
        have h3 := Nat.mod_lt i hC
        have h4 : (i - 1) % C = i % C - 1 := by
          have h5 := Nat.div_add_mod i C
          have h6 : i - 1 = C * (i / C) + (i % C - 1) := by omega
          rw [h6, Nat.mul_add_mod]
          exact Nat.mod_eq_of_lt (by omega)
        omega
      have := h (i - 1) (by omega) i ((ht _ _).2 (.inl ⟨hm, by omega⟩))
      exact this
  · intro h a ha b hb
    have hb2 : b < xs.length := touchN_lt hC R hn ha hb
    have hkey : xs[b]? = some (xs.getD b eS) := by
      rw [List.getD_eq_getElem?_getD, List.getElem?_eq_getElem hb2]
      rfl
    have h2 := h b _ hkey
    have hlen : (xs.take b).length = b := by rw [List.length_take]; omega
    unfold badC at h2
    rw [hlen, Bool.or_eq_false_iff, Bool.and_eq_false_imp, Bool.and_eq_false_imp] at h2
    rcases (ht a b).1 hb with ⟨h3, rfl⟩ | ⟨h3, rfl⟩
    · have hm : 0 < (a + 1) % C := by
        have h4 := Nat.div_add_mod a C
        have h6 : a + 1 = C * (a / C) + (a % C + 1) := by omega
        rw [h6, Nat.mul_add_mod, Nat.mod_eq_of_lt (by omega)]
        omega
      have := h2.2 (by simpa using hm)
      rw [getD_take (by omega), show a + 1 - 1 = a by omega] at this
      exact this
    · have := h2.1 (by simp)
      rw [getD_take (by omega), show a + C - C = a by omega] at this
      exact this
end Lg
end
