/- A part of the proof of a law of this seat: it adds no condition. By an AI agent. -/
import Derived.Test.YtkmelphaecmfmaaGreatLgIns
import Derived.Test.YtkmelphaecmfmaaGreatIdx
section
set_option linter.all false
set_option maxRecDepth 100000
set_option maxHeartbeats 4000000
namespace Lg
open Go Go.Proofs

/-! ### readings, in plain terms -/
structure Rdg where
  t : Int
  vs : List Int
theorem Rdg.ext' {x y : Rdg} (h1 : x.t = y.t) (h2 : x.vs = y.vs) : x = y := by
  cases x
  cases y
  simp at h1 h2
  rw [h1, h2]
/-- two lists in strict order with the same members -/
theorem strict_ext {α : Type} (key : α → Int) : ∀ {l1 l2 : List α}, l1.Pairwise (fun a b => key a < key b) → l2.Pairwise (fun a b => key a < key b) → (∀ x, x ∈ l1 ↔ x ∈ l2) → l1 = l2
  | [], [], _, _, _ => rfl
  | [], y :: l2, _, _, h => by
    have := (h y).2 (List.mem_cons_self ..)
    cases this
  | x :: l1, [], _, _, h => by
    have := (h x).1 (List.mem_cons_self ..)
    cases this
  | x :: l1, y :: l2, h1, h2, h => by
    rw [List.pairwise_cons] at h1 h2
    obtain ⟨a1, b1⟩ := h1
    obtain ⟨a2, b2⟩ := h2
    have hxy : x = y := by
      rcases List.mem_cons.1 ((h x).1 (List.mem_cons_self ..)) with e | hx
      · exact e
      rcases List.mem_cons.1 ((h y).2 (List.mem_cons_self ..)) with e | hy
      · exact e.symm
      have := a2 x hx
      have := a1 y hy
      omega
    subst hxy
    have : l1 = l2 := strict_ext key b1 b2 fun z => by
      constructor
      · intro hz
        rcases List.mem_cons.1 ((h z).1 (List.mem_cons_of_mem _ hz)) with e | h3
        · subst e
          have := a1 z hz
          omega
        · exact h3
      · intro hz
        rcases List.mem_cons.1 ((h z).2 (List.mem_cons_of_mem _ hz)) with e | h3
        · subst e
          have := a2 z hz
          omega
        · exact h3
    rw [this]
/-- one after the other: the same moment as the last one -/
def dedA : List Rdg → List Rdg → Option (List Rdg)
  | acc, [] => some acc
  | acc, r :: l => match acc.getLast? with
    | none => dedA (acc ++ [r]) l
    | some x => if x.t = r.t then (if x.vs = r.vs then dedA acc l else none) else dedA (acc ++ [r]) l
/-- the same moment as any one before -/
def dedF : List Rdg → List Rdg → Option (List Rdg)
  | acc, [] => some acc
  | acc, r :: l => match acc.find? (fun x => decide (x.t = r.t)) with
    | none => dedF (acc ++ [r]) l
    | some x => if x.vs = r.vs then dedF acc l else none
def Agr (l : List Rdg) : Prop := ∀ x ∈ l, ∀ y ∈ l, x.t = y.t → x = y
theorem agr_snoc {acc : List Rdg} {r : Rdg} (h : Agr acc) (hn : ∀ x ∈ acc, x.t ≠ r.t) : Agr (acc ++ [r]) := by
  intro x hx y hy e
  rcases List.mem_append.1 hx with h1 | h1 <;> rcases List.mem_append.1 hy with h2 | h2
  · exact h x h1 y h2 e
  · rw [List.mem_singleton.1 h2] at e; exact absurd e (hn x h1)
  · rw [List.mem_singleton.1 h1] at e; exact absurd e.symm (hn y h2)
  · rw [List.mem_singleton.1 h1, List.mem_singleton.1 h2]
theorem dedF_spec : ∀ (l acc : List Rdg), Agr acc → (acc.map Rdg.t).Nodup →
    (∀ D, dedF acc l = some D → Agr (acc ++ l) ∧ (D.map Rdg.t).Nodup ∧ ∀ x, x ∈ D ↔ x ∈ acc ++ l) ∧ (dedF acc l = none → ¬ Agr (acc ++ l))
  | [], acc, ha, hn => by
    constructor
    · intro D h
      rw [dedF] at h
      cases h
      exact ⟨by rw [List.append_nil]; exact ha, hn, fun x => by rw [List.append_nil]⟩
    · intro h
      rw [dedF] at h
      cases h
  | r :: l, acc, ha, hn => by
    cases hf : acc.find? (fun x => decide (x.t = r.t)) with
    | none =>
      have hno : ∀ x ∈ acc, x.t ≠ r.t := fun x hx e => by
        have := List.find?_eq_none.1 hf x hx
        simp [e] at this
      have ih := dedF_spec l (acc ++ [r]) (agr_snoc ha hno) (by
        rw [List.map_append, List.nodup_append]
        refine ⟨hn, by simp, ?_⟩
        intro a h1 b h2 e
        obtain ⟨x, hx, rfl⟩ := List.mem_map.1 h1
        simp at h2
        subst h2
        exact hno x hx e)
      rw [dedF, hf]
      simp only [List.append_assoc, List.singleton_append] at ih
      exact ih
    | some x =>
      have hx := List.mem_of_find?_eq_some hf
      have ht : x.t = r.t := by have := List.find?_some hf; simpa using this
      by_cases hv : x.vs = r.vs
      · have hxr : x = r := Rdg.ext' ht hv
        subst hxr
        have ih := dedF_spec l acc ha hn
        have hm : ∀ y, y ∈ acc ++ x :: l ↔ y ∈ acc ++ l := by
          intro y
          simp only [List.mem_append, List.mem_cons]
          constructor
          · rintro (h | rfl | h)
            · exact .inl h
            · exact .inl hx
            · exact .inr h
          · rintro (h | h)
            · exact .inl h
            · exact .inr (.inr h)
        have hA : Agr (acc ++ x :: l) ↔ Agr (acc ++ l) := by
          constructor
          · intro h a ha b hb e
            exact h a ((hm a).2 ha) b ((hm b).2 hb) e
          · intro h a ha b hb e
            exact h a ((hm a).1 ha) b ((hm b).1 hb) e
        simp only [dedF, hf, ht, if_pos]
        constructor
        · intro D hD
          obtain ⟨h1, h2, h3⟩ := ih.1 D hD
          exact ⟨hA.2 h1, h2, fun y => (h3 y).trans (hm y).symm⟩
        · intro hD h
          exact ih.2 hD (hA.1 h)
      · simp only [dedF, hf, if_neg hv]
        constructor
        · intro D h; cases h
        · intro _ h
          have := h x (List.mem_append_left _ hx) r (List.mem_append_right _ (List.mem_cons_self ..)) ht
          exact hv (by rw [this])
theorem dedA_spec : ∀ (l acc : List Rdg), Agr acc → acc.Pairwise (fun a b => a.t < b.t) → (acc ++ l).Pairwise (fun a b => a.t ≤ b.t) →
    (∀ D, dedA acc l = some D → Agr (acc ++ l) ∧ D.Pairwise (fun a b => a.t < b.t) ∧ ∀ x, x ∈ D ↔ x ∈ acc ++ l) ∧ (dedA acc l = none → ¬ Agr (acc ++ l))
  | [], acc, ha, hn, hs => by
    constructor
    · intro D h
      rw [dedA] at h
      cases h
      exact ⟨by rw [List.append_nil]; exact ha, hn, fun x => by rw [List.append_nil]⟩
    · intro h
      rw [dedA] at h
      cases h
  | r :: l, acc, ha, hn, hs => by
    have hsa := List.pairwise_append.1 hs
    have step : (∀ x ∈ acc, x.t ≠ r.t) → (dedA acc (r :: l) = dedA (acc ++ [r]) l) → (∀ D, dedA acc (r :: l) = some D → Agr (acc ++ r :: l) ∧ D.Pairwise (fun a b => a.t < b.t) ∧ ∀ x, x ∈ D ↔ x ∈ acc ++ r :: l) ∧ (dedA acc (r :: l) = none → ¬ Agr (acc ++ r :: l)) := by
      intro hno he
      have ih := dedA_spec l (acc ++ [r]) (agr_snoc ha hno) (by
        rw [List.pairwise_append]
        refine ⟨hn, by simp, ?_⟩
        intro a h1 b h2
        rw [List.mem_singleton.1 h2]
        have h3 := hsa.2.2 a h1 r (List.mem_cons_self ..)
        have h4 := hno a h1
        omega) (by rw [List.append_assoc]; exact hs)
      rw [he]
      simp only [List.append_assoc, List.singleton_append] at ih
      exact ih
    cases hf : acc.getLast? with
    | none =>
      have e : acc = [] := List.getLast?_eq_none_iff.1 hf
      exact step (by rw [e]; simp) (by rw [dedA, hf])
    | some x =>
      obtain ⟨A, hA⟩ : ∃ A, acc = A ++ [x] := List.getLast?_eq_some_iff.1 hf
      have hx : x ∈ acc := by rw [hA]; simp
      by_cases ht : x.t = r.t
      · by_cases hv : x.vs = r.vs
        · have hxr : x = r := Rdg.ext' ht hv
          subst hxr
          have hm : ∀ y, y ∈ acc ++ x :: l ↔ y ∈ acc ++ l := by
            intro y
            simp only [List.mem_append, List.mem_cons]
            constructor
            · rintro (h | rfl | h)
              · exact .inl h
              · exact .inl hx
              · exact .inr h
            · rintro (h | h)
              · exact .inl h
              · exact .inr (.inr h)
          have ih := dedA_spec l acc ha hn (by
            rw [List.pairwise_append]
            exact ⟨hsa.1, (List.pairwise_cons.1 hsa.2.1).2, fun a h1 b h2 => hsa.2.2 a h1 b (List.mem_cons_of_mem _ h2)⟩)
          have hAg : Agr (acc ++ x :: l) ↔ Agr (acc ++ l) := by
            constructor
            · intro h a ha b hb e
              exact h a ((hm a).2 ha) b ((hm b).2 hb) e
            · intro h a ha b hb e
              exact h a ((hm a).1 ha) b ((hm b).1 hb) e
          simp only [dedA, hf, if_pos]
          constructor
          · intro D hD
            obtain ⟨h1, h2, h3⟩ := ih.1 D hD
            exact ⟨hAg.2 h1, h2, fun y => (h3 y).trans (hm y).symm⟩
          · intro hD h
            exact ih.2 hD (hAg.1 h)
        · simp only [dedA, hf, if_pos ht, if_neg hv]
          constructor
          · intro D h; cases h
          · intro _ h
            have := h x (List.mem_append_left _ hx) r (List.mem_append_right _ (List.mem_cons_self ..)) ht
            exact hv (by rw [this])
      · refine step (fun y hy e => ?_) (by rw [dedA, hf]; simp only [if_neg ht])
        have h1 : y.t ≤ x.t := by
          rw [hA] at hy hn
          rcases List.mem_append.1 hy with h2 | h2
          · have := (List.pairwise_append.1 hn).2.2 y h2 x (by simp)
            omega
          · rw [List.mem_singleton.1 h2]
            omega
        have h3 := hsa.2.2 x hx r (List.mem_cons_self ..)
        omega
def rlt : Rdg → Rdg → Bool := fun a b => decide (a.t < b.t)
theorem ded_eq (l : List Rdg) : dedA [] (isort rlt l) = (dedF [] l).map (isort rlt) := by
  have hp := isort_perm rlt l
  have hs : (isort rlt l).Pairwise (fun a b => a.t ≤ b.t) := isort_key_sorted Rdg.t l
  have hA := dedA_spec (isort rlt l) [] (by intro x hx; cases hx) List.Pairwise.nil (by simpa using hs)
  have hF := dedF_spec l [] (by intro x hx; cases hx) (by simp)
  simp only [List.nil_append] at hA hF
  have hag : Agr (isort rlt l) ↔ Agr l := by
    constructor
    · intro h a ha b hb e
      exact h a (hp.mem_iff.2 ha) b (hp.mem_iff.2 hb) e
    · intro h a ha b hb e
      exact h a (hp.mem_iff.1 ha) b (hp.mem_iff.1 hb) e
  cases h1 : dedF [] l with
  | none =>
    cases h2 : dedA [] (isort rlt l) with
    | none => rfl
    | some D => exact absurd (hag.1 (hA.1 D h2).1) (hF.2 h1)
  | some D =>
    obtain ⟨f1, f2, f3⟩ := hF.1 D h1
    cases h2 : dedA [] (isort rlt l) with
    | none => exact absurd (hag.2 f1) (hA.2 h2)
    | some D' =>
      obtain ⟨a1, a2, a3⟩ := hA.1 D' h2
      rw [Option.map_some]
      congr 1
      refine strict_ext Rdg.t a2 ?_ fun x => ?_
      · have hpD := isort_perm rlt D
        have hsD : (isort rlt D).Pairwise (fun a b => a.t ≤ b.t) := isort_key_sorted Rdg.t D
        have hnd : ((isort rlt D).map Rdg.t).Nodup := (hpD.map Rdg.t).nodup_iff.2 f2
        have hnd2 : (isort rlt D).Pairwise (fun a b => a.t ≠ b.t) := by
          have := hnd
          unfold List.Nodup at this
          rw [List.pairwise_map] at this
          exact this
        exact (hsD.and hnd2).imp fun ⟨h3, h4⟩ => by omega
      · rw [a3, (isort_perm rlt D).mem_iff, f3, hp.mem_iff]

/-! ### what happened between two readings -/
structure Stp where
  a : Int
  b : Int
  r : Bool
  s : List Int
def Stp.row (x : Stp) : List Tr := [.int x.a, .int x.b, .bool x.r, .ints x.s]
def limE (tn fast a b : Int) : Int := min (fast * (b / 1440 - a / 1440 + 1)) (tn - 1)
def difE (tn x y : Int) : Int := if y - x < 0 then y - x + tn else y - x
def difL (tn : Int) : List Int → List Int → List Int
  | x :: xs, y :: ys => difE tn x y :: difL tn xs ys
  | _, _ => []
def overB (lim : Int) (d : Int) : Bool := decide (lim < d)
def stpOf (tn fast : Int) (a b : Rdg) : Stp :=
  if (difL tn a.vs b.vs).any (overB (limE tn fast a.t b.t)) = true then ⟨a.t, b.t, true, b.vs⟩ else ⟨a.t, b.t, false, difL tn a.vs b.vs⟩
def stpsOf (tn fast : Int) : List Rdg → List Stp
  | a :: b :: l => stpOf tn fast a b :: stpsOf tn fast (b :: l)
  | _ => []
theorem difL_len (tn : Int) : ∀ {x y : List Int}, y.length = x.length → (difL tn x y).length = x.length
  | [], [], _ => rfl
  | x :: xs, y :: ys, h => by
    unfold difL
    rw [List.length_cons, List.length_cons, difL_len tn (x := xs) (y := ys) (by simpa using h)]
theorem difL_at (tn : Int) : ∀ {x y : List Int} {k : Nat} {p q : Int}, x[k]? = some p → y[k]? = some q → (difL tn x y)[k]? = some (difE tn p q)
  | [], _, k, p, q, h, _ => by simp at h
  | x :: xs, [], k, p, q, _, h => by simp at h
  | x :: xs, y :: ys, 0, p, q, h1, h2 => by
    simp at h1 h2
    subst h1
    subst h2
    rfl
  | x :: xs, y :: ys, k + 1, p, q, h1, h2 => by
    simp at h1 h2
    unfold difL
    rw [List.getElem?_cons_succ]
    exact difL_at tn h1 h2
theorem stpsOf_len (tn fast : Int) : ∀ l : List Rdg, (stpsOf tn fast l).length = l.length - 1
  | [] => rfl
  | [a] => rfl
  | a :: b :: l => by
    unfold stpsOf
    rw [List.length_cons, stpsOf_len tn fast (b :: l)]
    simp
theorem stpsOf_at (tn fast : Int) : ∀ {l : List Rdg} {k : Nat} {a b : Rdg}, l[k]? = some a → l[k + 1]? = some b → (stpsOf tn fast l)[k]? = some (stpOf tn fast a b)
  | [], k, a, b, h, _ => by simp at h
  | [x], k, a, b, _, h => by simp at h
  | x :: y :: l, 0, a, b, h1, h2 => by
    simp at h1 h2
    subst h1
    subst h2
    rfl
  | x :: y :: l, k + 1, a, b, h1, h2 => by
    rw [List.getElem?_cons_succ] at h1 h2
    unfold stpsOf
    rw [List.getElem?_cons_succ]
    exact stpsOf_at tn fast h1 h2
/-- what the loop that counts up finds -/
theorem dif_found {tn x y d : Int} (ht : 0 < tn) (hx : 0 ≤ x ∧ x < tn) (hy : 0 ≤ y ∧ y < tn) (hd : 0 ≤ d) (hlt : d ≤ difE tn x y) : (x + d) % tn = y ↔ d = difE tn x y := by
  unfold difE at *
  split at hlt
  · rename_i h
    rw [if_pos h]
    by_cases h2 : x + d < tn
    · rw [Int.emod_eq_of_lt (by omega) h2]
      omega
    · have e : (x + d) % tn = x + d - tn := by
        rw [← Int.sub_emod_right (x + d) tn]
        exact Int.emod_eq_of_lt (by omega) (by omega)
      rw [e]
      omega
  · rename_i h
    rw [if_neg h]
    rw [Int.emod_eq_of_lt (by omega) (by omega)]
    omega
theorem difE_bd {tn x y : Int} (hx : 0 ≤ x ∧ x < tn) (hy : 0 ≤ y ∧ y < tn) : 0 ≤ difE tn x y ∧ difE tn x y < tn := by
  unfold difE
  split <;> omega
/-- the numbers that were sold, and the moments behind which counters were reset -/
def addL : List Int → List Int → List Int := List.zipWith (· + ·)
def soldF (acc : List Int) : List Stp → List Int
  | [] => acc
  | s :: l => soldF (addL acc s.s) l
end Lg
end
section
set_option linter.all false
set_option maxRecDepth 100000
set_option maxHeartbeats 8000000
namespace Lg
open Go Go.Proofs

abbrev Tr.mtr (c t f : Int) : Tr := .agg [.int c, .int t, .int f]
abbrev Tr.rdg (r : Rdg) : Tr := .agg [.int r.t, .ints r.vs]
def Rdg.row (r : Rdg) : List Tr := [.int r.t, .ints r.vs]
def mtrE (c t f : Int) : Int := if c < 1 ∨ 60 < c then 1 else if t < 10 ∨ 1000000 < t then 1 else if f < 1 ∨ t - 1 < f then 1 else 0
theorem mtrE_ok {c t f : Int} (h : mtrE c t f = 0) : (1 ≤ c ∧ c ≤ 60) ∧ (10 ≤ t ∧ t ≤ 1000000) ∧ 1 ≤ f ∧ f ≤ t - 1 := by
  unfold mtrE at h
  by_cases h1 : c < 1 ∨ 60 < c
  · rw [if_pos h1] at h; omega
  rw [if_neg h1] at h
  by_cases h2 : t < 10 ∨ 1000000 < t
  · rw [if_pos h2] at h; omega
  rw [if_neg h2] at h
  by_cases h3 : f < 1 ∨ t - 1 < f
  · rw [if_pos h3] at h; omega
  omega
theorem mtrE_01 (c t f : Int) : mtrE c t f = 0 ∨ mtrE c t f = 1 := by
  unfold mtrE
  split
  · exact .inr rfl
  · split
    · exact .inr rfl
    · split
      · exact .inr rfl
      · exact .inl rfl
theorem checkMeter_fn (c t f : Int) : PFn Tryz.prog 84 [.mtr c t f] (· = .int (mtrE c t f)) := by
  have k1 := out_fn c 1 60
  have k2 := out_fn t 10 1000000
  have k3 := out_fn f 1 (t - 1)
  unfold mtrE
  refine PFn.mk (Spec.body Tryz.func84 rfl rfl (Tryz.ntmps84) rfl fun w0 own0 M => ?_)
  by_cases h1 : c < 1 ∨ 60 < c
  · have e1 : outB c 1 60 = true := decide_eq_true h1
    rw [if_pos h1]
    rw [e1] at k1
    repeat' (first | refine goH ?_ | refine goV ?_ | refine goB (fun b => ?_) | refine goG ?_ | (refine Ops.k_guard ?_; first | (refine Ops.guard_dec rfl rfl (fun hc => ?_) (fun hc => ?_) <;> try (exfalso; omega)) | refine Ops.guard_split rfl rfl (fun hc => ?_) (fun hc => ?_)) | refine goI ?_ | (refine Cw.k_cond ?_; first | (refine Cw.cond_dec rfl (fun hc => ?_) (fun hc => ?_) <;> try (exfalso; omega)) | refine Cw.cond_bool rfl (fun hc => ?_) (fun hc => ?_)) | (refine Ops.k_calla ?_; first | (refine Ops.k_callf 28 ?_; refine Ops.callV k1 (Evs.cons rfl (Evs.cons rfl (Evs.cons rfl Evs.nil))) rfl ?_)) | fail)
    exact Fin.ret (Ent.take goTk) (Outs.one rfl rfl) ⟨rfl, rfl⟩
  have e1 : outB c 1 60 = false := decide_eq_false h1
  rw [if_neg h1]
  rw [e1] at k1
  by_cases h2 : t < 10 ∨ 1000000 < t
  · have e2 : outB t 10 1000000 = true := decide_eq_true h2
    rw [if_pos h2]
    rw [e2] at k2
    repeat' (first | refine goH ?_ | refine goV ?_ | refine goB (fun b => ?_) | refine goG ?_ | (refine Ops.k_guard ?_; first | (refine Ops.guard_dec rfl rfl (fun hc => ?_) (fun hc => ?_) <;> try (exfalso; omega)) | refine Ops.guard_split rfl rfl (fun hc => ?_) (fun hc => ?_)) | refine goI ?_ | (refine Cw.k_cond ?_; first | (refine Cw.cond_dec rfl (fun hc => ?_) (fun hc => ?_) <;> try (exfalso; omega)) | refine Cw.cond_bool rfl (fun hc => ?_) (fun hc => ?_)) | (refine Ops.k_calla ?_; first | (refine Ops.k_callf 28 ?_; refine Ops.callV k1 (Evs.cons rfl (Evs.cons rfl (Evs.cons rfl Evs.nil))) rfl ?_) | (refine Ops.k_callf 28 ?_; refine Ops.callV k2 (Evs.cons rfl (Evs.cons rfl (Evs.cons rfl Evs.nil))) rfl ?_)) | fail)
    exact Fin.ret (Ent.take goTk) (Outs.one rfl rfl) ⟨rfl, rfl⟩
  have e2 : outB t 10 1000000 = false := decide_eq_false h2
  rw [if_neg h2]
  rw [e2] at k2
  by_cases h3 : f < 1 ∨ t - 1 < f
  · have e3 : outB f 1 (t - 1) = true := decide_eq_true h3
    rw [if_pos h3]
    rw [e3] at k3
    repeat' (first | refine goH ?_ | refine goV ?_ | refine goB (fun b => ?_) | refine goG ?_ | (refine Ops.k_guard ?_; first | (refine Ops.guard_dec rfl rfl (fun hc => ?_) (fun hc => ?_) <;> try (exfalso; omega)) | refine Ops.guard_split rfl rfl (fun hc => ?_) (fun hc => ?_)) | refine goI ?_ | (refine Cw.k_cond ?_; first | (refine Cw.cond_dec rfl (fun hc => ?_) (fun hc => ?_) <;> try (exfalso; omega)) | refine Cw.cond_bool rfl (fun hc => ?_) (fun hc => ?_)) | (refine Ops.k_calla ?_; first | (refine Ops.k_callf 28 ?_; refine Ops.callV k1 (Evs.cons rfl (Evs.cons rfl (Evs.cons rfl Evs.nil))) rfl ?_) | (refine Ops.k_callf 28 ?_; refine Ops.callV k2 (Evs.cons rfl (Evs.cons rfl (Evs.cons rfl Evs.nil))) rfl ?_) | (refine Ops.k_callf 28 ?_; refine Ops.callV k3 (Evs.cons rfl (Evs.cons rfl (Evs.cons rfl Evs.nil))) rfl ?_)) | fail)
    exact Fin.ret (Ent.take goTk) (Outs.one rfl rfl) ⟨rfl, rfl⟩
  · have e3 : outB f 1 (t - 1) = false := decide_eq_false h3
    rw [if_neg h3]
    rw [e3] at k3
    repeat' (first | refine goH ?_ | refine goV ?_ | refine goB (fun b => ?_) | refine goG ?_ | (refine Ops.k_guard ?_; first | (refine Ops.guard_dec rfl rfl (fun hc => ?_) (fun hc => ?_) <;> try (exfalso; omega)) | refine Ops.guard_split rfl rfl (fun hc => ?_) (fun hc => ?_)) | refine goI ?_ | (refine Cw.k_cond ?_; first | (refine Cw.cond_dec rfl (fun hc => ?_) (fun hc => ?_) <;> try (exfalso; omega)) | refine Cw.cond_bool rfl (fun hc => ?_) (fun hc => ?_)) | (refine Ops.k_calla ?_; first | (refine Ops.k_callf 28 ?_; refine Ops.callV k1 (Evs.cons rfl (Evs.cons rfl (Evs.cons rfl Evs.nil))) rfl ?_) | (refine Ops.k_callf 28 ?_; refine Ops.callV k2 (Evs.cons rfl (Evs.cons rfl (Evs.cons rfl Evs.nil))) rfl ?_) | (refine Ops.k_callf 28 ?_; refine Ops.callV k3 (Evs.cons rfl (Evs.cons rfl (Evs.cons rfl Evs.nil))) rfl ?_)) | fail)
    exact Fin.ret (Ent.take goTk) (Outs.one rfl rfl) ⟨rfl, rfl⟩
theorem meterFault_fn (c t f : Int) : PFn Tryz.prog 37 [.mtr c t f] (· = .int (mtrE c t f)) := by
  unfold mtrE
  refine PFn.mk (Spec.body Tryz.func37 rfl rfl (Tryz.ntmps37) rfl fun w0 own0 M => ?_)
  repeat' (first | refine goH ?_ | refine goV ?_ | refine goB (fun b => ?_) | refine goG ?_ | (refine Ops.k_guard ?_; first | (refine Ops.guard_dec rfl rfl (fun hc => ?_) (fun hc => ?_) <;> try (exfalso; omega)) | refine Ops.guard_split rfl rfl (fun hc => ?_) (fun hc => ?_)) | refine goI ?_ | (refine Cw.k_cond ?_; first | (refine Cw.cond_dec rfl (fun hc => ?_) (fun hc => ?_) <;> try (exfalso; omega)) | refine Cw.cond_bool rfl (fun hc => ?_) (fun hc => ?_)) | fail)
  all_goals first
    | exact Fin.ret (Ent.take goTk) (Outs.one rfl rfl) ⟨rfl, congrArg Tr.int (if_pos (by omega)).symm⟩
    | (refine Fin.ret (Ent.take goTk) (Outs.one rfl rfl) ⟨rfl, congrArg Tr.int ?_⟩
       rw [if_neg (by omega)]
       first | exact (if_pos (by omega)).symm | (rw [if_neg (by omega)]; first | exact (if_pos (by omega)).symm | exact (if_neg (by omega)).symm))
theorem momentD_fn (n : Int) : PFn Tryz.prog 51 [.int n] (· = .bool (decide (0 ≤ n ∧ n < 5761440))) := by
  have k := out_fn n 0 5761439
  refine PFn.mk (Spec.body Tryz.func51 rfl rfl (Tryz.ntmps51) rfl fun w0 own0 M => ?_)
  repeat' (first | refine goH ?_ | refine goV ?_ | refine goI ?_ | (refine Cw.k_cond ?_; first | (refine Cw.cond_dec rfl (fun hc => ?_) (fun hc => ?_) <;> try (exfalso; omega)) | refine Cw.cond_bool rfl (fun hc => ?_) (fun hc => ?_)) | (refine Ops.k_calla ?_; first | (refine Ops.k_callf 28 ?_; refine Ops.callV k (Evs.cons rfl (Evs.cons rfl (Evs.cons rfl Evs.nil))) rfl ?_)) | fail)
  refine Fin.ret (Ent.take goTk) (Outs.one rfl rfl) ⟨rfl, congrArg Tr.bool ?_⟩
  rw [Bool.eq_iff_iff]
  simp
  omega
theorem momentR_fn (n : Int) : PFn Tryz.prog 55 [.int n] (· = .bool (decide (0 ≤ n ∧ n < 5761440))) := by
  refine PFn.mk (Spec.body Tryz.func55 rfl rfl (Tryz.ntmps55) rfl fun w0 own0 M => ?_)
  repeat' (first | refine goH ?_ | refine goV ?_ | refine goG ?_ | (refine Ops.k_guard ?_; first | (refine Ops.guard_dec rfl rfl (fun hc => ?_) (fun hc => ?_) <;> try (exfalso; omega)) | refine Ops.guard_split rfl rfl (fun hc => ?_) (fun hc => ?_)) | refine goI ?_ | (refine Cw.k_cond ?_; first | (refine Cw.cond_dec rfl (fun hc => ?_) (fun hc => ?_) <;> try (exfalso; omega)) | refine Cw.cond_bool rfl (fun hc => ?_) (fun hc => ?_)) | fail)
  all_goals
    refine Fin.ret (Ent.take goTk) (Outs.one rfl rfl) ⟨rfl, congrArg Tr.bool ?_⟩
    rw [Bool.eq_iff_iff]
    simp
    try omega
def valB (t : Int) (x : Int) : Bool := decide (x < 0 ∨ t - 1 < x)
def rdgE (c t f : Int) (r : Rdg) : Int := if mtrE c t f ≠ 0 then 1 else if ¬ (0 ≤ r.t ∧ r.t < 5761440) then 1 else if (r.vs.length : Int) ≠ c then 3 else if r.vs.any (valB t) = true then 1 else 0
structure ROk (c t : Int) (r : Rdg) : Prop where
  t0 : 0 ≤ r.t ∧ r.t < 5761440
  n : (r.vs.length : Int) = c
  v : ∀ x ∈ r.vs, 0 ≤ x ∧ x < t
theorem rdgE_ok {c t f : Int} {r : Rdg} (h : rdgE c t f r = 0) : ROk c t r := by
  unfold rdgE at h
  by_cases h1 : mtrE c t f ≠ 0
  · rw [if_pos h1] at h; omega
  rw [if_neg h1] at h
  by_cases h2 : ¬ (0 ≤ r.t ∧ r.t < 5761440)
  · rw [if_pos h2] at h; omega
  rw [if_neg h2] at h
  by_cases h3 : (r.vs.length : Int) ≠ c
  · rw [if_pos h3] at h; omega
  rw [if_neg h3] at h
  cases h4 : r.vs.any (valB t)
  · refine ⟨by omega, by omega, fun x hx => ?_⟩
    rw [List.any_eq_false] at h4
    have := h4 x hx
    simp [valB] at this
    omega
  · rw [h4, if_pos rfl] at h; omega
theorem valD_fn (c t f : Int) (b : Nat) (x : Int) (ht : -1000000000000 ≤ t ∧ t ≤ 1000000000000) : Spec Tryz.prog 112 ([.int x] ++ [Value.pointer (some ⟨b, 0, none⟩)].map Tr.raw) [Chunk.box b 35 [.int c, .int t, .int f]] (fun r cs => r = .bool (valB t x) ∧ cs = [Chunk.box b 35 [.int c, .int t, .int f]]) := by
  refine Spec.body Tryz.func112 rfl rfl (Tryz.ntmps112) rfl fun w0 own0 M => ?_
  have k := out_fn x 0 (t - 1)
  repeat' (first | refine goH ?_ | refine goV ?_ | refine goI ?_ | (refine Cw.k_cond ?_; first | (refine Cw.cond_dec rfl (fun hc => ?_) (fun hc => ?_) <;> try (exfalso; omega)) | refine Cw.cond_bool rfl (fun hc => ?_) (fun hc => ?_)) | (refine Ops.k_calla ?_; first | (refine Ops.k_callf 28 ?_; refine Ops.callV k (Evs.cons rfl (Evs.cons rfl (Evs.cons rfl Evs.nil))) rfl ?_)) | fail)
  exact Fin.ret (Ent.take goTk) (Outs.one rfl rfl) ⟨rfl, rfl⟩
theorem valR_fn (c t f : Int) (b : Nat) (x : Int) (ht : -1000000000000 ≤ t ∧ t ≤ 1000000000000) : Spec Tryz.prog 65 ([.int x] ++ [Value.pointer (some ⟨b, 0, none⟩)].map Tr.raw) [Chunk.box b 35 [.int c, .int t, .int f]] (fun r cs => r = .bool (valB t x) ∧ cs = [Chunk.box b 35 [.int c, .int t, .int f]]) := by
  refine Spec.body Tryz.func65 rfl rfl (Tryz.ntmps65) rfl fun w0 own0 M => ?_
  repeat' (first | refine goH ?_ | refine goV ?_ | refine goG ?_ | (refine Ops.k_guard ?_; first | (refine Ops.guard_dec rfl rfl (fun hc => ?_) (fun hc => ?_) <;> try (exfalso; omega)) | refine Ops.guard_split rfl rfl (fun hc => ?_) (fun hc => ?_)) | refine goI ?_ | (refine Cw.k_cond ?_; first | (refine Cw.cond_dec rfl (fun hc => ?_) (fun hc => ?_) <;> try (exfalso; omega)) | refine Cw.cond_bool rfl (fun hc => ?_) (fun hc => ?_)) | fail)
  all_goals
    refine Fin.ret (Ent.take goTk) (Outs.one rfl rfl) ⟨congrArg Tr.bool ?_, rfl⟩
    unfold valB
    rw [Bool.eq_iff_iff]
    simp
    try omega
theorem checkReading_fn (c t f : Int) (r : Rdg) (ht : -1000000000000 ≤ t ∧ t ≤ 1000000000000) (hl : r.vs.length ≤ 1000000) : PFn Tryz.prog 85 [.mtr c t f, .rdg r] (· = .int (rdgE c t f r)) := by
  have k1 := checkMeter_fn c t f
  have k2 := momentD_fn r.t
  have hL := intRows_len r.vs
  have k3 : ∀ b : Nat, Spec Tryz.prog 30 [.ints r.vs, Tr.raw (.func (.func 112) #[] [Value.pointer (some ⟨b, 0, none⟩)].toArray)] [Chunk.box b 35 [.int c, .int t, .int f]] (fun x cs => x = .bool (r.vs.any (valB t)) ∧ cs = [Chunk.box b 35 [.int c, .int t, .int f]]) := fun b => containsFunc_int (p := valB t) (caps := [.pointer (some ⟨b, 0, none⟩)]) (cin := [Chunk.box b 35 [.int c, .int t, .int f]]) (l := r.vs) (by omega) (fun x _ => valD_fn c t f b x ht)
  unfold rdgE
  refine PFn.mk (Spec.body Tryz.func85 rfl rfl (Tryz.ntmps85) rfl fun w0 own0 M => ?_)
  by_cases h1 : mtrE c t f ≠ 0
  · rw [if_pos h1]
    have e : mtrE c t f = 1 := by have := mtrE_01 c t f; omega
    rw [e] at k1
    repeat' (first | refine goH ?_ | refine goV ?_ | refine goB (fun b => ?_) | refine goI ?_ | (refine Cw.k_cond ?_; first | (refine Cw.cond_dec rfl (fun hc => ?_) (fun hc => ?_) <;> try (exfalso; omega)) | refine Cw.cond_bool rfl (fun hc => ?_) (fun hc => ?_)) | (refine Ops.k_calla ?_; first | (refine Ops.k_callf 84 ?_; refine Ops.callV k1 (Evs.cons rfl Evs.nil) rfl ?_)) | fail)
    exact Fin.ret (Ent.take goTk) (Outs.one rfl rfl) ⟨rfl, rfl⟩
  rw [if_neg h1]
  have e : mtrE c t f = 0 := by omega
  rw [e] at k1
  clear e h1
  by_cases h2 : ¬ (0 ≤ r.t ∧ r.t < 5761440)
  · rw [if_pos h2]
    rw [decide_eq_false h2] at k2
    repeat' (first | refine goH ?_ | refine goV ?_ | refine goB (fun b => ?_) | refine goI ?_ | (refine Cw.k_cond ?_; first | (refine Cw.cond_dec rfl (fun hc => ?_) (fun hc => ?_) <;> try (exfalso; omega)) | refine Cw.cond_bool rfl (fun hc => ?_) (fun hc => ?_)) | (refine Ops.k_calla ?_; first | (refine Ops.k_callf 84 ?_; refine Ops.callV k1 (Evs.cons rfl Evs.nil) rfl ?_) | (refine Ops.k_callf 51 ?_; refine Ops.callV k2 (Evs.cons rfl Evs.nil) rfl ?_)) | fail)
    exact Fin.ret (Ent.take goTk) (Outs.one rfl rfl) ⟨rfl, rfl⟩
  rw [if_neg h2]
  rw [decide_eq_true (by omega)] at k2
  clear h2
  by_cases h3 : (r.vs.length : Int) ≠ c
  · rw [if_pos h3]
    repeat' (first | refine goH ?_ | refine goV ?_ | refine goB (fun b => ?_) | refine goI ?_ | (refine Cw.k_cond ?_; first | (refine Cw.cond_dec rfl (fun hc => ?_) (fun hc => ?_) <;> try (exfalso; omega)) | refine Cw.cond_bool rfl (fun hc => ?_) (fun hc => ?_)) | (refine Ops.k_calla ?_; first | (refine Ops.k_callf 84 ?_; refine Ops.callV k1 (Evs.cons rfl Evs.nil) rfl ?_) | (refine Ops.k_callf 51 ?_; refine Ops.callV k2 (Evs.cons rfl Evs.nil) rfl ?_)) | fail)
    exact Fin.ret (Ent.take goTk) (Outs.one rfl rfl) ⟨rfl, rfl⟩
  rw [if_neg h3]
  cases h4 : r.vs.any (valB t)
  all_goals
    rw [h4] at k3
    repeat' (first | refine goH ?_ | refine goV ?_ | refine goB (fun b => ?_) | refine goI ?_ | (refine Cw.k_cond ?_; first | (refine Cw.cond_dec rfl (fun hc => ?_) (fun hc => ?_) <;> try (exfalso; omega)) | refine Cw.cond_bool rfl (fun hc => ?_) (fun hc => ?_)) | (refine Ops.k_calla ?_; first | (refine Ops.k_callf 84 ?_; refine Ops.callV k1 (Evs.cons rfl Evs.nil) rfl ?_) | (refine Ops.k_callf 51 ?_; refine Ops.callV k2 (Evs.cons rfl Evs.nil) rfl ?_) | (refine Ops.k_callf 30 ?_; (refine Ops.call (k3 _) (Evs.cons rfl (Evs.cons rfl Evs.nil)) goPm rfl ?_; rintro x cs' ⟨rfl, rfl⟩))) | fail)
    exact Fin.ret (Ent.take goTk) (Outs.one rfl rfl) ⟨rfl, rfl⟩
theorem readingFault_fn (c t f : Int) (r : Rdg) (ht : -1000000000000 ≤ t ∧ t ≤ 1000000000000) (hl : r.vs.length ≤ 1000000) : PFn Tryz.prog 41 [.mtr c t f, .rdg r] (· = .int (rdgE c t f r)) := by
  have k1 := meterFault_fn c t f
  have k2 := momentR_fn r.t
  have hL := intRows_len r.vs
  have k3 : ∀ b : Nat, Spec Tryz.prog 30 [.ints r.vs, Tr.raw (.func (.func 65) #[] [Value.pointer (some ⟨b, 0, none⟩)].toArray)] [Chunk.box b 35 [.int c, .int t, .int f]] (fun x cs => x = .bool (r.vs.any (valB t)) ∧ cs = [Chunk.box b 35 [.int c, .int t, .int f]]) := fun b => containsFunc_int (p := valB t) (caps := [.pointer (some ⟨b, 0, none⟩)]) (cin := [Chunk.box b 35 [.int c, .int t, .int f]]) (l := r.vs) (by omega) (fun x _ => valR_fn c t f b x ht)
  unfold rdgE
  refine PFn.mk (Spec.body Tryz.func41 rfl rfl (Tryz.ntmps41) rfl fun w0 own0 M => ?_)
  by_cases h1 : mtrE c t f ≠ 0
  · rw [if_pos h1]
    have e : mtrE c t f = 1 := by have := mtrE_01 c t f; omega
    rw [e] at k1
    repeat' (first | refine goH ?_ | refine goV ?_ | refine goB (fun b => ?_) | refine goG ?_ | (refine Ops.k_guard ?_; first | (refine Ops.guard_dec rfl rfl (fun hc => ?_) (fun hc => ?_) <;> try (exfalso; omega)) | refine Ops.guard_split rfl rfl (fun hc => ?_) (fun hc => ?_)) | refine goI ?_ | (refine Cw.k_cond ?_; first | (refine Cw.cond_dec rfl (fun hc => ?_) (fun hc => ?_) <;> try (exfalso; omega)) | refine Cw.cond_bool rfl (fun hc => ?_) (fun hc => ?_)) | (refine Ops.k_calla ?_; first | (refine Ops.k_callf 37 ?_; refine Ops.callV k1 (Evs.cons rfl Evs.nil) rfl ?_)) | fail)
    exact Fin.ret (Ent.take goTk) (Outs.one rfl rfl) ⟨rfl, rfl⟩
  rw [if_neg h1]
  have e : mtrE c t f = 0 := by omega
  rw [e] at k1
  clear e h1
  by_cases h2 : ¬ (0 ≤ r.t ∧ r.t < 5761440)
  · rw [if_pos h2]
    rw [decide_eq_false h2] at k2
    repeat' (first | refine goH ?_ | refine goV ?_ | refine goB (fun b => ?_) | refine goG ?_ | (refine Ops.k_guard ?_; first | (refine Ops.guard_dec rfl rfl (fun hc => ?_) (fun hc => ?_) <;> try (exfalso; omega)) | refine Ops.guard_split rfl rfl (fun hc => ?_) (fun hc => ?_)) | refine goI ?_ | (refine Cw.k_cond ?_; first | (refine Cw.cond_dec rfl (fun hc => ?_) (fun hc => ?_) <;> try (exfalso; omega)) | refine Cw.cond_bool rfl (fun hc => ?_) (fun hc => ?_)) | (refine Ops.k_calla ?_; first | (refine Ops.k_callf 37 ?_; refine Ops.callV k1 (Evs.cons rfl Evs.nil) rfl ?_) | (refine Ops.k_callf 55 ?_; refine Ops.callV k2 (Evs.cons rfl Evs.nil) rfl ?_)) | fail)
    exact Fin.ret (Ent.take goTk) (Outs.one rfl rfl) ⟨rfl, rfl⟩
  rw [if_neg h2]
  rw [decide_eq_true (by omega)] at k2
  clear h2
  by_cases h3 : (r.vs.length : Int) ≠ c
  · rw [if_pos h3]
    repeat' (first | refine goH ?_ | refine goV ?_ | refine goB (fun b => ?_) | refine goG ?_ | (refine Ops.k_guard ?_; first | (refine Ops.guard_dec rfl rfl (fun hc => ?_) (fun hc => ?_) <;> try (exfalso; omega)) | refine Ops.guard_split rfl rfl (fun hc => ?_) (fun hc => ?_)) | refine goI ?_ | (refine Cw.k_cond ?_; first | (refine Cw.cond_dec rfl (fun hc => ?_) (fun hc => ?_) <;> try (exfalso; omega)) | refine Cw.cond_bool rfl (fun hc => ?_) (fun hc => ?_)) | (refine Ops.k_calla ?_; first | (refine Ops.k_callf 37 ?_; refine Ops.callV k1 (Evs.cons rfl Evs.nil) rfl ?_) | (refine Ops.k_callf 55 ?_; refine Ops.callV k2 (Evs.cons rfl Evs.nil) rfl ?_)) | fail)
    exact Fin.ret (Ent.take goTk) (Outs.one rfl rfl) ⟨rfl, rfl⟩
  rw [if_neg h3]
  cases h4 : r.vs.any (valB t)
  all_goals
    rw [h4] at k3
    repeat' (first | refine goH ?_ | refine goV ?_ | refine goB (fun b => ?_) | refine goG ?_ | (refine Ops.k_guard ?_; first | (refine Ops.guard_dec rfl rfl (fun hc => ?_) (fun hc => ?_) <;> try (exfalso; omega)) | refine Ops.guard_split rfl rfl (fun hc => ?_) (fun hc => ?_)) | refine goI ?_ | (refine Cw.k_cond ?_; first | (refine Cw.cond_dec rfl (fun hc => ?_) (fun hc => ?_) <;> try (exfalso; omega)) | refine Cw.cond_bool rfl (fun hc => ?_) (fun hc => ?_)) | (refine Ops.k_calla ?_; first | (refine Ops.k_callf 37 ?_; refine Ops.callV k1 (Evs.cons rfl Evs.nil) rfl ?_) | (refine Ops.k_callf 55 ?_; refine Ops.callV k2 (Evs.cons rfl Evs.nil) rfl ?_) | (refine Ops.k_callf 30 ?_; (refine Ops.call (k3 _) (Evs.cons rfl (Evs.cons rfl Evs.nil)) goPm rfl ?_; rintro x cs' ⟨rfl, rfl⟩))) | fail)
    exact Fin.ret (Ent.take goTk) (Outs.one rfl rfl) ⟨rfl, rfl⟩
end Lg
end
section
set_option linter.all false
set_option maxRecDepth 100000
set_option maxHeartbeats 4000000
namespace Lg
open Go Go.Proofs

/-- the length in bits of a small number: some number -/
theorem len64_fn (n : Int) (hn : 0 ≤ n ∧ n ≤ 200) : PFn Tryz.prog 83 [Tr.raw (.int .u64 n)] (fun r => ∃ v : Int, r = .int v) := by
  refine PFn.mk (Spec.body Tryz.func83 rfl rfl (Tryz.ntmps83) rfl fun w0 own0 M => ?_)
  repeat' (first | refine goH ?_ | (refine Ops.k_convert ?_; first | (refine Ops.convN Tryz.underlying120 Tryz.underlying5 rfl (wrap_u8 (by omega)) rfl ?_) | (refine Ops.convN Tryz.underlying5 Tryz.underlying3 rfl (wrap_i64 (by omega)) rfl ?_)) | (refine Ops.k_index ?_; first | (refine Ops.indexS_any Tryz.underlying9 rfl rfl (by refine ⟨by omega, ?_⟩; show n < 256; omega) rfl (fun v hv => ?_))) | refine goV ?_ | refine goI ?_ | (refine Cw.k_cond ?_; first | (refine Cw.cond_dec rfl (fun hc => ?_) (fun hc => ?_) <;> try (exfalso; omega)) | refine Cw.cond_bool rfl (fun hc => ?_) (fun hc => ?_)) | fail)
  exact Fin.ret (Ent.take goTk) (Outs.one rfl rfl) ⟨rfl, _, rfl⟩
theorem bitsLen_fn (n : Int) (hn : 0 ≤ n ∧ n ≤ 200) : PFn Tryz.prog 67 [Tr.raw (.int .u64 n)] (fun r => ∃ v : Int, r = .int v) := by
  have h := len64_fn n hn
  unfold PFn at h
  refine PFn.mk (Spec.body Tryz.func67 rfl rfl (Tryz.ntmps67) rfl fun w0 own0 M => ?_)
  repeat' (first | refine goH ?_ | refine goV ?_ | refine goI ?_ | (refine Cw.k_cond ?_; first | (refine Cw.cond_dec rfl (fun hc => ?_) (fun hc => ?_) <;> try (exfalso; omega)) | refine Cw.cond_bool rfl (fun hc => ?_) (fun hc => ?_)) | (refine Ops.k_calla ?_; first | (refine Ops.call (cf := []) h (Evs.cons rfl Evs.nil) (by simp) rfl ?_; rintro r cs' ⟨rfl, v, rfl⟩)) | fail)
  exact Fin.ret (Ent.take goTk) (Outs.one rfl rfl) ⟨rfl, _, rfl⟩
end Lg
end
