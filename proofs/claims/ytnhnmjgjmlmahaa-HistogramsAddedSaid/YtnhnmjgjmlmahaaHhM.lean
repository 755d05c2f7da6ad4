/- A part of the proof of a law of this seat: it adds no condition. By an AI agent. -/
import Derived.Test.YtnhnmjgjmlmahaaHh2
set_option linter.all false
set_option maxRecDepth 100000
set_option maxHeartbeats 1000000
namespace Lg
open Go Go.Proofs

def NN (l : List Int) : Prop := ∀ x ∈ l, 0 ≤ x
theorem NN.sum : ∀ {l : List Int}, NN l → 0 ≤ sumI l
  | [], _ => by simp [sumI]
  | x :: l, h => by
    have := NN.sum (l := l) fun y hy => h y (by simp [hy])
    have := h x (by simp)
    rw [sumI_cons]
    omega
theorem NN.le : ∀ {l : List Int} {i : Nat} {y : Int}, NN l → l[i]? = some y → y ≤ sumI l
  | [], i, y, _, h => by simp at h
  | x :: l, i, y, hn, h => by
    have h1 := NN.sum (l := l) fun y hy => hn y (by simp [hy])
    have h2 := hn x (by simp)
    rw [sumI_cons]
    cases i with
    | zero => simp at h; omega
    | succ i =>
      have := NN.le (l := l) (fun y hy => hn y (by simp [hy])) (by simpa using h)
      omega
theorem sumI_set : ∀ {l : List Int} {i : Nat} {x y : Int}, l[i]? = some y → sumI (l.set i x) = sumI l + x - y
  | [], i, x, y, h => by simp at h
  | z :: l, 0, x, y, h => by
    simp at h
    subst h
    simp only [List.set_cons_zero, sumI_cons]
    omega
  | z :: l, i + 1, x, y, h => by
    have := sumI_set (l := l) (i := i) (x := x) (y := y) (by simpa using h)
    simp only [List.set_cons_succ, sumI_cons]
    omega
theorem NN.set {l : List Int} (h : NN l) (i : Nat) {x : Int} (hx : 0 ≤ x) : NN (l.set i x) := by
  intro z hz
  rcases List.mem_or_eq_of_mem_set hz with hz | hz
  · exact h z hz
  · omega
theorem sumI_rep (n : Nat) : sumI (List.replicate n 0) = 0 := by
  induction n with
  | zero => rfl
  | succ n ih => rw [List.replicate_succ, sumI_cons, ih]; rfl

def cIn (a : Nat) (m : Int) : List Int → Nat → List Int → List Int
  | nx, _, [] => nx
  | nx, b, n :: t => cIn a m (nx.set (a + b) (nx.getD (a + b) 0 + m * n)) (b + 1) t
theorem cIn_cons (a : Nat) (m : Int) (nx : List Int) (b : Nat) (n : Int) (t : List Int) : cIn a m nx b (n :: t) = cIn a m (nx.set (a + b) (nx.getD (a + b) 0 + m * n)) (b + 1) t := rfl
def cOut (T : List Int) : List Int → Nat → List Int → List Int
  | nx, _, [] => nx
  | nx, a, m :: o => cOut T (cIn a m nx 0 T) (a + 1) o
theorem cOut_cons (T nx : List Int) (a : Nat) (m : Int) (o : List Int) : cOut T nx a (m :: o) = cOut T (cIn a m nx 0 T) (a + 1) o := rfl
def conv (out T : List Int) : List Int := cOut T (List.replicate (out.length + T.length - 1) 0) 0 out
def convN (T : List Int) : Nat → List Int
  | 0 => [1]
  | d + 1 => conv (convN T d) T
def pw (s : Int) : Nat → Int
  | 0 => 1
  | d + 1 => pw s d * s

theorem cIn_spec {a : Nat} {m : Int} (hm : 0 ≤ m) : ∀ {t nx : List Int} {b : Nat}, NN nx → NN t → a + b + t.length ≤ nx.length → NN (cIn a m nx b t) ∧ sumI (cIn a m nx b t) = sumI nx + m * sumI t ∧ (cIn a m nx b t).length = nx.length
  | [], nx, b, h1, _, _ => ⟨h1, by simp [cIn, sumI], rfl⟩
  | n :: t, nx, b, h1, h2, h3 => by
    simp only [List.length_cons] at h3
    have hn := h2 n (by simp)
    obtain ⟨y, hy⟩ := at_lt (l := nx) (k := a + b) (by omega)
    have hgd : nx.getD (a + b) 0 = y := by rw [List.getD_eq_getElem?_getD, hy]; rfl
    have hy0 := h1 y (List.mem_of_getElem? hy)
    have hmn : 0 ≤ m * n := Int.mul_nonneg hm hn
    rw [cIn_cons, hgd]
    obtain ⟨g1, g2, g3⟩ := cIn_spec (a := a) hm (t := t) (nx := nx.set (a + b) (y + m * n)) (b := b + 1) (h1.set _ (by omega)) (fun x hx => h2 x (by simp [hx])) (by rw [List.length_set]; omega)
    refine ⟨g1, ?_, by rw [g3, List.length_set]⟩
    rw [g2, sumI_set hy, sumI_cons, Int.mul_add]
    omega
theorem cOut_spec {T : List Int} (hT : NN T) : ∀ {o nx : List Int} {a : Nat}, NN nx → NN o → a + o.length + T.length ≤ nx.length + 1 → NN (cOut T nx a o) ∧ sumI (cOut T nx a o) = sumI nx + sumI o * sumI T ∧ (cOut T nx a o).length = nx.length
  | [], nx, a, h1, _, _ => ⟨h1, by simp [cOut, sumI], rfl⟩
  | m :: o, nx, a, h1, h2, h3 => by
    simp only [List.length_cons] at h3
    have hm := h2 m (by simp)
    obtain ⟨e1, e2, e3⟩ := cIn_spec (a := a) hm (t := T) (nx := nx) (b := 0) h1 hT (by omega)
    obtain ⟨g1, g2, g3⟩ := cOut_spec hT (o := o) (nx := cIn a m nx 0 T) (a := a + 1) e1 (fun x hx => h2 x (by simp [hx])) (by rw [e3]; omega)
    refine ⟨g1, ?_, by rw [cOut_cons, g3, e3]⟩
    rw [cOut_cons, g2, e2, sumI_cons, Int.add_mul]
    omega
theorem convN_spec {T : List Int} (hT : NN T) (hne : 1 ≤ T.length) : ∀ d, NN (convN T d) ∧ sumI (convN T d) = pw (sumI T) d ∧ (convN T d).length = d * (T.length - 1) + 1
  | 0 => ⟨fun x hx => by simp [convN] at hx; omega, rfl, by simp [convN]⟩
  | d + 1 => by
    obtain ⟨h1, h2, h3⟩ := convN_spec hT hne d
    obtain ⟨g1, g2, g3⟩ := cOut_spec hT (o := convN T d) (nx := List.replicate ((convN T d).length + T.length - 1) 0) (a := 0) (fun x hx => by have := List.eq_of_mem_replicate hx; omega) h1 (by rw [List.length_replicate]; omega)
    refine ⟨g1, ?_, ?_⟩
    · show sumI (conv (convN T d) T) = _
      unfold conv
      rw [g2, sumI_rep, h2]
      show 0 + pw (sumI T) d * sumI T = pw (sumI T) d * sumI T
      omega
    · show (conv (convN T d) T).length = _
      unfold conv
      rw [g3, List.length_replicate, h3, Nat.add_mul]
      omega

def bigGo (s : Int) : Nat → Int → Bool
  | 0, _ => false
  | d + 1, w => if 1000000000 < w * s then true else bigGo s d (w * s)
theorem bigGo_no {s : Int} : ∀ {d : Nat} {w : Int}, bigGo s d w = false → w ≤ 1000000000 → ∀ i, i ≤ d → w * pw s i ≤ 1000000000
  | d, w, _, hw, 0, _ => by unfold pw; omega
  | 0, w, _, _, i + 1, hi => absurd hi (by omega)
  | d + 1, w, h, hw, i + 1, hi => by
    unfold bigGo at h
    by_cases hc : 1000000000 < w * s
    · rw [if_pos hc] at h; cases h
    · rw [if_neg hc] at h
      have := bigGo_no h (by omega) i (by omega)
      unfold pw
      rw [Int.mul_comm (pw s i) s, ← Int.mul_assoc]
      exact this

def trimN (h : List Int) : Nat → Nat
  | 0 => 0
  | n + 1 => if h.getD n 0 = 0 then trimN h n else n + 1
def trimT (h : List Int) : List Int := h.take (trimN h h.length)
theorem trimN_le (h : List Int) : ∀ n, trimN h n ≤ n
  | 0 => Nat.le_refl _
  | n + 1 => by
    have := trimN_le h n
    unfold trimN
    split <;> omega
theorem trimN_sum (h : List Int) : ∀ n, n ≤ h.length → sumI (h.take (trimN h n)) = sumI (h.take n)
  | 0, _ => rfl
  | n + 1, hn => by
    obtain ⟨x, hx⟩ := at_lt (l := h) (k := n) (by omega)
    have hg : h.getD n 0 = x := by rw [List.getD_eq_getElem?_getD, hx]; rfl
    unfold trimN
    rw [hg]
    split
    · rw [trimN_sum h n (by omega), sumI_take_next hx]; omega
    · rfl
theorem trim_facts {h : List Int} (ho : HOk h) : (trimT h).length ≤ 2001 ∧ NN (trimT h) ∧ (∀ x ∈ trimT h, 0 ≤ x ∧ x ≤ 1000000000) ∧ sumI (trimT h) = sumI h ∧ 1 ≤ (trimT h).length := by
  have h1 : sumI (trimT h) = sumI h := by
    unfold trimT
    rw [trimN_sum h h.length (Nat.le_refl _), List.take_length]
  have hb : ∀ x ∈ trimT h, 0 ≤ x ∧ x ≤ 1000000000 := fun x hx => ho.all x (List.mem_of_mem_take hx)
  refine ⟨?_, fun x hx => (hb x hx).1, hb, h1, ?_⟩
  · have := ho.len
    unfold trimT
    rw [List.length_take]
    omega
  · rcases Nat.eq_zero_or_pos (trimT h).length with e | e
    · have : trimT h = [] := List.eq_nil_of_length_eq_zero e
      rw [this] at h1
      have := ho.pos
      simp [sumI] at h1
      omega
    · exact e
end Lg
