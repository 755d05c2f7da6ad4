/- A part of the proof of a law of this seat: it adds no condition. By an AI agent. -/
import Derived.Test.YtnhnmjgjmlmahaaTk1
set_option linter.all false
set_option maxRecDepth 100000
set_option maxHeartbeats 8000000
namespace Lg
open Go Go.Proofs

def b6 (n : Int) : Bool := decide (n < 0 ∨ 1000000 < n)
theorem b6_ok {l : List Int} (h : l.any b6 = false) : ∀ x ∈ l, 0 ≤ x ∧ x ≤ 1000000 := by
  intro x hx
  have : b6 x = false := by
    cases h2 : b6 x
    · rfl
    · rw [List.any_eq_true.2 ⟨x, hx, h2⟩] at h; cases h
  simp [b6] at this
  omega
def insE (L : List (List Int)) (w s : List Int) : Int := if tableE L ≠ 0 then tableE L else if w.length ≠ L.length ∨ s.length ≠ L.length then 3 else if (w.any b6 || s.any b6) then 1 else 0
theorem if1_fn (n : Int) : PFn Try.prog 94 [.int n] (· = .bool (b6 n)) := by
  refine PFn.mk (Spec.body Try.func94 rfl rfl (Try.ntmps94) rfl fun w0 own0 M => ?_)
  by_cases h1 : n < 0
  · repeat' (first | refine goH ?_ | refine goV ?_ | refine goG ?_ | (refine Ops.k_guard ?_; first | (refine Ops.guard_dec rfl rfl (fun hc => ?_) (fun hc => ?_) <;> try (exfalso; omega)) | refine Ops.guard_split rfl rfl (fun hc => ?_) (fun hc => ?_)) | refine goI ?_ | (refine Cw.k_cond ?_; first | (refine Cw.cond_dec rfl (fun hc => ?_) (fun hc => ?_) <;> try (exfalso; omega)) | refine Cw.cond_bool rfl (fun hc => ?_) (fun hc => ?_)) | fail)
    refine Fin.ret Ent.refl (Outs.one rfl rfl) ⟨rfl, congrArg Tr.bool ?_⟩
    simp [b6, h1]
  · repeat' (first | refine goH ?_ | refine goV ?_ | refine goG ?_ | (refine Ops.k_guard ?_; first | (refine Ops.guard_dec rfl rfl (fun hc => ?_) (fun hc => ?_) <;> try (exfalso; omega)) | refine Ops.guard_split rfl rfl (fun hc => ?_) (fun hc => ?_)) | refine goI ?_ | (refine Cw.k_cond ?_; first | (refine Cw.cond_dec rfl (fun hc => ?_) (fun hc => ?_) <;> try (exfalso; omega)) | refine Cw.cond_bool rfl (fun hc => ?_) (fun hc => ?_)) | fail)
    refine Fin.ret Ent.refl (Outs.one rfl rfl) ⟨rfl, congrArg Tr.bool ?_⟩
    simp [b6, h1]
theorem in1_fn (n : Int) : PFn Try.prog 91 [.int n] (· = .bool (b6 n)) := by
  refine PFn.mk (Spec.body Try.func91 rfl rfl (Try.ntmps91) rfl fun w0 own0 M => ?_)
  repeat' (first | refine goH ?_ | refine goV ?_ | refine goI ?_ | (refine Cw.k_cond ?_; first | (refine Cw.cond_dec rfl (fun hc => ?_) (fun hc => ?_) <;> try (exfalso; omega)) | refine Cw.cond_bool rfl (fun hc => ?_) (fun hc => ?_)) | (refine Ops.k_calla ?_; first | (refine Ops.k_callf 61 ?_; refine Ops.callV (out_fn n 0 1000000) (Evs.cons rfl (Evs.cons rfl (Evs.cons rfl Evs.nil))) rfl ?_)) | fail)
  exact Fin.ret Ent.refl (Outs.one rfl rfl) ⟨rfl, rfl⟩
theorem insteadFault_fn (L : List (List Int)) (hB : LBd L) (w s : List Int) (hw : w.length ≤ 1000) (hs : s.length ≤ 1000) : PFn Try.prog 47 [.table L, .ints w, .ints s] (· = .int (insE L w s)) := by
  have hL := intsR_len L
  have hW := intRows_len w
  have hS := intRows_len s
  have hll := hB.1
  have k1 := tableFault_fn L hB
  have hfl : ([w, s] : List (List Int)).flatten = w ++ s := by simp
  have k2 := (concat_fn [w, s] (by simp) (by rw [hfl, List.length_append]; omega)).val
  rw [hfl] at k2
  have k3 : Spec Try.prog 73 [.ints (w ++ s), Tr.raw (.func (.func 94) #[] #[])] [] (fun r cs => r = .bool ((w ++ s).any b6) ∧ cs = []) := containsFunc_int (p := b6) (g := 94) (caps := []) (cin := []) (l := w ++ s) (by rw [List.length_append]; omega) (fun x _ => (if1_fn x).lend)
  rw [List.any_append] at k3
  have he : insE L w s = if tableE L ≠ 0 then tableE L else if w.length ≠ L.length ∨ s.length ≠ L.length then 3 else if (w.any b6 || s.any b6) then 1 else 0 := rfl
  refine PFn.mk (Spec.body Try.func47 rfl rfl (Try.ntmps47) rfl fun w0 own0 M => ?_)
  by_cases h1 : tableE L ≠ 0
  · rw [if_pos h1] at he
    rw [he]
    generalize tableE L = te at *
    repeat' (first | refine goH ?_ | refine goV ?_ | refine goB (fun b => ?_) | refine goG ?_ | (refine Ops.k_guard ?_; first | (refine Ops.guard_dec rfl rfl (fun hc => ?_) (fun hc => ?_) <;> try (exfalso; omega)) | refine Ops.guard_split rfl rfl (fun hc => ?_) (fun hc => ?_)) | refine goI ?_ | (refine Cw.k_cond ?_; first | (refine Cw.cond_dec rfl (fun hc => ?_) (fun hc => ?_) <;> try (exfalso; omega)) | refine Cw.cond_bool rfl (fun hc => ?_) (fun hc => ?_)) | (refine Ops.k_calla ?_; first | (refine Ops.k_callf 45 ?_; refine Ops.callV k1 (Evs.cons rfl Evs.nil) rfl ?_)) | fail)
    exact Fin.ret (Ent.take (by repeat' (first | exact Take.nil | refine Take.cons (by first | exact pick0 | exact pickS pick0 | exact pickS (pickS pick0) | exact pickS (pickS (pickS pick0)) | exact pickS (pickS (pickS (pickS pick0)))) ?_))) (Outs.one rfl rfl) ⟨rfl, rfl⟩
  rw [if_neg h1] at he
  rw [show tableE L = 0 by omega] at k1
  rw [he]
  clear he
  by_cases h2 : w.length = L.length
  rotate_left
  · rw [if_pos (by omega)]
    repeat' (first | refine goH ?_ | refine goV ?_ | refine goB (fun b => ?_) | refine goG ?_ | (refine Ops.k_guard ?_; first | (refine Ops.guard_dec rfl rfl (fun hc => ?_) (fun hc => ?_) <;> try (exfalso; omega)) | refine Ops.guard_split rfl rfl (fun hc => ?_) (fun hc => ?_)) | refine goI ?_ | (refine Cw.k_cond ?_; first | (refine Cw.cond_dec rfl (fun hc => ?_) (fun hc => ?_) <;> try (exfalso; omega)) | refine Cw.cond_bool rfl (fun hc => ?_) (fun hc => ?_)) | (refine Ops.k_calla ?_; first | (refine Ops.k_callf 45 ?_; refine Ops.callV k1 (Evs.cons rfl Evs.nil) rfl ?_)) | fail)
    exact Fin.ret (Ent.take (by repeat' (first | exact Take.nil | refine Take.cons (by first | exact pick0 | exact pickS pick0 | exact pickS (pickS pick0) | exact pickS (pickS (pickS pick0)) | exact pickS (pickS (pickS (pickS pick0)))) ?_))) (Outs.one rfl rfl) ⟨rfl, rfl⟩
  by_cases h3 : s.length = L.length
  rotate_left
  · rw [if_pos (by omega)]
    repeat' (first | refine goH ?_ | refine goV ?_ | refine goB (fun b => ?_) | refine goG ?_ | (refine Ops.k_guard ?_; first | (refine Ops.guard_dec rfl rfl (fun hc => ?_) (fun hc => ?_) <;> try (exfalso; omega)) | refine Ops.guard_split rfl rfl (fun hc => ?_) (fun hc => ?_)) | refine goI ?_ | (refine Cw.k_cond ?_; first | (refine Cw.cond_dec rfl (fun hc => ?_) (fun hc => ?_) <;> try (exfalso; omega)) | refine Cw.cond_bool rfl (fun hc => ?_) (fun hc => ?_)) | (refine Ops.k_calla ?_; first | (refine Ops.k_callf 45 ?_; refine Ops.callV k1 (Evs.cons rfl Evs.nil) rfl ?_)) | fail)
    exact Fin.ret (Ent.take (by repeat' (first | exact Take.nil | refine Take.cons (by first | exact pick0 | exact pickS pick0 | exact pickS (pickS pick0) | exact pickS (pickS (pickS pick0)) | exact pickS (pickS (pickS (pickS pick0)))) ?_))) (Outs.one rfl rfl) ⟨rfl, rfl⟩
  rw [if_neg (by omega)]
  cases hc : (w.any b6 || s.any b6)
  · rw [hc] at k3
    repeat' (first | refine goH ?_ | refine goV ?_ | refine goB (fun b => ?_) | refine goG ?_ | (refine Ops.k_guard ?_; first | (refine Ops.guard_dec rfl rfl (fun hc => ?_) (fun hc => ?_) <;> try (exfalso; omega)) | refine Ops.guard_split rfl rfl (fun hc => ?_) (fun hc => ?_)) | refine goI ?_ | (refine Cw.k_cond ?_; first | (refine Cw.cond_dec rfl (fun hc => ?_) (fun hc => ?_) <;> try (exfalso; omega)) | refine Cw.cond_bool rfl (fun hc => ?_) (fun hc => ?_)) | (refine Ops.k_calla ?_; first | (refine Ops.k_callf 45 ?_; refine Ops.callV k1 (Evs.cons rfl Evs.nil) rfl ?_) | (refine Ops.k_callf 93 ?_; refine Ops.callV k2 (Evs.cons rfl Evs.nil) rfl ?_) | (refine Ops.k_callf 73 ?_; refine Ops.callS k3 (Evs.cons rfl (Evs.cons rfl Evs.nil)) (by first | exact pick0 | exact pickS pick0 | exact pickS (pickS pick0) | exact pickS (pickS (pickS pick0)) | exact pickS (pickS (pickS (pickS pick0)))) rfl ?_)) | fail)
    exact Fin.ret (Ent.take (by repeat' (first | exact Take.nil | refine Take.cons (by first | exact pick0 | exact pickS pick0 | exact pickS (pickS pick0) | exact pickS (pickS (pickS pick0)) | exact pickS (pickS (pickS (pickS pick0)))) ?_))) (Outs.one rfl rfl) ⟨rfl, rfl⟩
  · rw [hc] at k3
    repeat' (first | refine goH ?_ | refine goV ?_ | refine goB (fun b => ?_) | refine goG ?_ | (refine Ops.k_guard ?_; first | (refine Ops.guard_dec rfl rfl (fun hc => ?_) (fun hc => ?_) <;> try (exfalso; omega)) | refine Ops.guard_split rfl rfl (fun hc => ?_) (fun hc => ?_)) | refine goI ?_ | (refine Cw.k_cond ?_; first | (refine Cw.cond_dec rfl (fun hc => ?_) (fun hc => ?_) <;> try (exfalso; omega)) | refine Cw.cond_bool rfl (fun hc => ?_) (fun hc => ?_)) | (refine Ops.k_calla ?_; first | (refine Ops.k_callf 45 ?_; refine Ops.callV k1 (Evs.cons rfl Evs.nil) rfl ?_) | (refine Ops.k_callf 93 ?_; refine Ops.callV k2 (Evs.cons rfl Evs.nil) rfl ?_) | (refine Ops.k_callf 73 ?_; refine Ops.callS k3 (Evs.cons rfl (Evs.cons rfl Evs.nil)) (by first | exact pick0 | exact pickS pick0 | exact pickS (pickS pick0) | exact pickS (pickS (pickS pick0)) | exact pickS (pickS (pickS (pickS pick0)))) rfl ?_)) | fail)
    exact Fin.ret (Ent.take (by repeat' (first | exact Take.nil | refine Take.cons (by first | exact pick0 | exact pickS pick0 | exact pickS (pickS pick0) | exact pickS (pickS (pickS pick0)) | exact pickS (pickS (pickS (pickS pick0)))) ?_))) (Outs.one rfl rfl) ⟨rfl, rfl⟩

/-! ### what is sold, left and lost -/
abbrev St3 := List Int × List Int × List Int
def stepJ (f : Int) (i : Nat) (st : St3) (j : Nat) (sh : Int) : St3 :=
  (st.1.set j (st.1.getD j 0 + min (f * sh / 100) (st.2.1.getD j 0)), st.2.1.set j (st.2.1.getD j 0 - min (f * sh / 100) (st.2.1.getD j 0)), st.2.2.set i (st.2.2.getD i 0 - min (f * sh / 100) (st.2.1.getD j 0)))
def rowF (f : Int) (i : Nat) : St3 → Nat → List Int → St3
  | st, _, [] => st
  | st, j, sh :: l => rowF f i (stepJ f i st j sh) (j + 1) l
def tabF : St3 → Nat → List (List Int) → St3
  | st, _, [] => st
  | st, i, l :: L => tabF (rowF (st.2.2.getD i 0) i st 0 l) (i + 1) L
def z1 (w s : List Int) : List Int := List.zipWith (fun a b => min a b) w s
def z2 (w s : List Int) : List Int := List.zipWith (fun a b => b - min a b) w s
def z3 (w s : List Int) : List Int := List.zipWith (fun a b => a - min a b) w s
def insF (L : List (List Int)) (w s : List Int) : St3 := tabF (z1 w s, z2 w s, z3 w s) 0 L
/-- bounds -/
structure BD (n : Nat) (m i j : Int) (st : St3) : Prop where
  l1 : st.1.length = n
  l2 : st.2.1.length = n
  l3 : st.2.2.length = n
  s : ∀ x ∈ st.1, 0 ≤ x ∧ x ≤ 1000000 * m
  f : ∀ x ∈ st.2.1, 0 ≤ x ∧ x ≤ 1000000
  o : ∀ (a : Nat) (x : Int), st.2.2[a]? = some x → x ≤ 1000000 ∧ -1000000000 ≤ x ∧ ((a : Int) = i → -(1000000 * j) ≤ x) ∧ (i < (a : Int) → 0 ≤ x)
theorem set_mem {l : List Int} {i : Nat} {y x : Int} (h : x ∈ l.set i y) : x = y ∨ x ∈ l := by
  rcases List.mem_or_eq_of_mem_set h with h | h
  · exact .inr h
  · exact .inl h
theorem stepJ_eq {f : Int} {i j : Nat} {st : St3} {sh a b c : Int} (ha : st.1[j]? = some a) (hb : st.2.1[j]? = some b) (hc : st.2.2[i]? = some c) : stepJ f i st j sh = (st.1.set j (a + min (f * sh / 100) b), st.2.1.set j (b - min (f * sh / 100) b), st.2.2.set i (c - min (f * sh / 100) b)) := by
  unfold stepJ
  rw [List.getD_eq_getElem?_getD, List.getD_eq_getElem?_getD, List.getD_eq_getElem?_getD, ha, hb, hc]
  rfl
theorem BD.step {n : Nat} {m : Int} {i j : Nat} {st : St3} (h : BD n m i j st) (hj : j < 31) (hm : 0 ≤ m) {f sh a b c : Int} (ha : st.1[j]? = some a) (hb : st.2.1[j]? = some b) (hc : st.2.2[i]? = some c) (hk : 0 ≤ f * sh / 100) (hk2 : f * sh / 100 ≤ 1000000) : BD n (m + 1) i (j + 1 : Nat) (stepJ f i st j sh) := by
  rw [stepJ_eq ha hb hc]
  have hbb := h.f b (List.mem_of_getElem? hb)
  have haa := h.s a (List.mem_of_getElem? ha)
  have hcc := h.o i c hc
  refine ⟨by simp [h.l1], by simp [h.l2], by simp [h.l3], ?_, ?_, ?_⟩
  · intro x hx
    rcases set_mem hx with rfl | hx
    · omega
    · have := h.s x hx; omega
  · intro x hx
    rcases set_mem hx with rfl | hx
    · omega
    · exact h.f x hx
  · intro q x hx
    simp only [List.getElem?_set] at hx
    split at hx
    · rename_i e
      subst e
      split at hx
      · cases hx
        have h5 := hcc.2.2.1 rfl
        refine ⟨by omega, by omega, fun _ => by omega, fun h => by omega⟩
      · cases hx
    · have h5 := h.o q x hx
      exact ⟨h5.1, h5.2.1, fun e => by rename_i ne; exact absurd (by omega) ne, h5.2.2.2⟩
theorem BD.next {n : Nat} {m : Int} {i j : Nat} {st : St3} (h : BD n m i j st) : BD n m (i + 1 : Nat) 0 st := by
  refine ⟨h.l1, h.l2, h.l3, h.s, h.f, fun a x hx => ?_⟩
  obtain ⟨o1, o2, o3, o4⟩ := h.o a x hx
  exact ⟨o1, o2, fun e => by have := o4 (by omega); omega, fun e => o4 (by omega)⟩
theorem z_at {g : Int → Int → Int} {w s : List Int} {i : Nat} {a b : Int} (ha : w[i]? = some a) (hb : s[i]? = some b) : (List.zipWith g w s)[i]? = some (g a b) := by
  rw [List.getElem?_zipWith, ha, hb]
theorem z_len {g : Int → Int → Int} {w s : List Int} (h : w.length = s.length) : (List.zipWith g w s).length = w.length := by rw [List.length_zipWith]; omega
theorem zip_mem {g : Int → Int → Int} {p : Int → Prop} : ∀ {w s : List Int}, (∀ a ∈ w, 0 ≤ a ∧ a ≤ 1000000) → (∀ b ∈ s, 0 ≤ b ∧ b ≤ 1000000) → (∀ a b : Int, 0 ≤ a → a ≤ 1000000 → 0 ≤ b → b ≤ 1000000 → p (g a b)) → ∀ x ∈ List.zipWith g w s, p x
  | [], s, _, _, _, x, h => by simp at h
  | a :: w, [], _, _, _, x, h => by simp at h
  | a :: w, b :: s, hw, hs, hp, x, h => by
    rw [List.zipWith_cons_cons] at h
    rcases List.mem_cons.1 h with rfl | h
    · have h1 := hw a (by simp)
      have h2 := hs b (by simp)
      exact hp a b h1.1 h1.2 h2.1 h2.2
    · exact zip_mem (fun a ha => hw a (List.mem_cons_of_mem _ ha)) (fun b hb => hs b (List.mem_cons_of_mem _ hb)) hp x h
theorem BD.start {w s : List Int} (h : w.length = s.length) (hw : ∀ a ∈ w, 0 ≤ a ∧ a ≤ 1000000) (hs : ∀ b ∈ s, 0 ≤ b ∧ b ≤ 1000000) : BD w.length 1 (0 : Nat) 0 (z1 w s, z2 w s, z3 w s) := by
  refine ⟨z_len h, z_len h, z_len h, ?_, ?_, ?_⟩
  · exact zip_mem (p := fun x => 0 ≤ x ∧ x ≤ 1000000 * 1) hw hs (fun a b _ _ _ _ => by omega)
  · exact zip_mem (p := fun x => 0 ≤ x ∧ x ≤ 1000000) hw hs (fun a b _ _ _ _ => by omega)
  · intro a x hx
    have := zip_mem (g := fun a b => a - min a b) (p := fun x => 0 ≤ x ∧ x ≤ 1000000) hw hs (fun a b _ _ _ _ => by omega) x (List.mem_of_getElem? hx)
    exact ⟨by omega, by omega, fun _ => by omega, fun _ => by omega⟩
theorem mix_at {A B : List Int} {i : Nat} {b : Int} (hl : A.length = B.length) (hb : B[i]? = some b) : (A.take i ++ B.drop i)[i]? = some b := by
  obtain ⟨hi, _⟩ := List.getElem?_eq_some_iff.1 hb
  rw [List.getElem?_append_right (by rw [List.length_take]; omega), List.length_take, List.getElem?_drop, show i + (i - min i A.length) = i by omega]
  exact hb
theorem mix_set {A B : List Int} {i : Nat} {a : Int} (hl : A.length = B.length) (ha : A[i]? = some a) : (A.take i ++ B.drop i).set i a = A.take (i + 1) ++ B.drop (i + 1) := by
  obtain ⟨hi, _⟩ := List.getElem?_eq_some_iff.1 ha
  obtain ⟨b, hb⟩ : ∃ b, B[i]? = some b := at_lt (by omega)
  rw [take_at ha, drop_at hb, List.set_append, if_neg (by rw [List.length_take]; omega), List.length_take, show i - min i A.length = 0 by omega]
  simp
theorem mix_len {A B : List Int} {i : Nat} (hl : A.length = B.length) (hi : i ≤ A.length) : (A.take i ++ B.drop i).length = A.length := by
  rw [List.length_append, List.length_take, List.length_drop]
  omega
theorem shares_ok {L : List (List Int)} (h : tableE L = 0) : (1 ≤ L.length ∧ L.length ≤ 30) ∧ ∀ (k : Nat) (l : List Int), L[k]? = some l → l.length = L.length ∧ ∀ x ∈ l, 0 ≤ x ∧ x ≤ 100 := by
  unfold tableE at h
  split at h
  · omega
  split at h
  · omega
  refine ⟨by omega, fun k l hl => ?_⟩
  have h2 := firstE_zero h k (Nat.zero_le _) (by have := (List.getElem?_eq_some_iff.1 hl).1; omega)
  unfold tblE at h2
  rw [hl] at h2
  simp only [tbl1] at h2
  split at h2
  · omega
  split at h2
  · omega
  · rename_i h3
    exact ⟨by omega, b100_ok (by simpa using h3)⟩
end Lg
