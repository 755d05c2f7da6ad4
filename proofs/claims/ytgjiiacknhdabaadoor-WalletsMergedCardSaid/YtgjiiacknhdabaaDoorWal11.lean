/- A part of the proof of a law of this seat: it adds no condition. By an AI agent. -/
import Derived.Test.YtgjiiacknhdabaaDoorWal9
set_option linter.all false
set_option maxRecDepth 100000
set_option maxHeartbeats 8000000
namespace Lg
open Go Go.Proofs

/-! ### the place of a word -/
def idxS (l : List ByteArray) (x : ByteArray) : Int := match l.findIdx? (fun y => decide (x = y)) with
  | some k => k
  | none => -1
theorem idxS_found {l : List ByteArray} {x : ByteArray} {k : Nat} (h : l[k]? = some x) (hn : ∀ j, j < k → l[j]? ≠ some x) : idxS l x = k := by
  unfold idxS
  have hk := (List.getElem?_eq_some_iff.1 h)
  obtain ⟨hlt, e⟩ := hk
  have : l.findIdx? (fun y => decide (x = y)) = some k := by
    rw [List.findIdx?_eq_some_iff_getElem]
    refine ⟨hlt, by simp [e], fun j hj => ?_⟩
    have := hn j hj
    rw [List.getElem?_eq_getElem (by omega)] at this
    simp
    intro e2
    exact this (by rw [← e2])
  rw [this]
theorem idxS_none {l : List ByteArray} {x : ByteArray} (hn : ∀ j, j < l.length → l[j]? ≠ some x) : idxS l x = -1 := by
  unfold idxS
  have : l.findIdx? (fun y => decide (x = y)) = none := by
    rw [List.findIdx?_eq_none_iff]
    intro y hy
    obtain ⟨j, hj, rfl⟩ := List.getElem_of_mem hy
    simp
    intro e
    exact hn j hj (by rw [List.getElem?_eq_getElem hj, ← e])
  rw [this]
theorem idxS_cases (l : List ByteArray) (x : ByteArray) : idxS l x = -1 ∨ ∃ k : Nat, idxS l x = k ∧ l[k]? = some x ∧ k < l.length := by
  unfold idxS
  cases h : l.findIdx? (fun y => decide (x = y)) with
  | none => exact .inl rfl
  | some k =>
    rw [List.findIdx?_eq_some_iff_getElem] at h
    obtain ⟨hlt, e, _⟩ := h
    refine .inr ⟨k, rfl, ?_, hlt⟩
    rw [List.getElem?_eq_getElem hlt]
    simp at e
    rw [e]
theorem index_fn (l : List ByteArray) (x : ByteArray) (hl : l.length ≤ 1000000) : PFn Tryd.prog 58 [.strs l, .str x] (· = .int (idxS l x)) := by
  refine PFn.mk (Spec.body Tryd.func58 rfl rfl (Tryd.ntmps58) rfl fun w0 own0 M => ?_)
  have hL := strRows_len l
  repeat' (first | refine goH ?_ | refine goV ?_ | refine goI ?_ | (refine Cw.k_cond ?_; first | (refine Cw.cond_dec rfl (fun hc => ?_) (fun hc => ?_) <;> try (exfalso; omega)) | refine Cw.cond_bool rfl (fun hc => ?_) (fun hc => ?_)) | fail)
  refine Cw.loopI [(0, _), (1, _), (7, _)] _ (fun q e cc => ∃ (k : Nat), q = l.length - k ∧ (k ≤ l.length ∧ ∀ j, j < k → l[j]? ≠ some x) ∧ e = [(8, .int k)] ∧ cc = []) ⟨_, _, _, (Ent.mkP (by repeat' (first | exact Sub.nil | refine Sub.cons rfl ?_)) (by repeat' (first | exact List.Perm.refl _ | refine Perm.cons' (by first | exact pick0 | (apply pickS; first | exact pick0 | (apply pickS; first | exact pick0 | (apply pickS; first | exact pick0 | (apply pickS; first | exact pick0 | (apply pickS; first | exact pick0 | (apply pickS; first | exact pick0 | (apply pickS; first | exact pick0 | (apply pickS; first | exact pick0 | (apply pickS; first | exact pick0 | (apply pickS; exact pick0))))))))))) ?_))), 0, rfl, ⟨by omega, fun j h => absurd h (by omega)⟩, rfl, rfl⟩ ?_
  rintro _ _ _ ⟨k, rfl, ⟨hk, hV⟩, rfl, rfl⟩
  by_cases hkl : k < l.length
  · obtain ⟨y, hy⟩ := at_lt hkl
    have hr := strRows_at hy
    by_cases hxy : x = y
    · subst hxy
      have e := idxS_found hy hV
      clear hV
      repeat' (first | refine goH ?_ | refine goV ?_ | refine goI ?_ | (refine Cw.k_cond ?_; first | (refine Cw.cond_dec rfl (fun hc => ?_) (fun hc => ?_) <;> try (exfalso; omega)) | refine Cw.cond_bool rfl (fun hc => ?_) (fun hc => ?_)) | fail)
      all_goals first | exact Fin.ret (Ent.take (by repeat' (first | exact Take.nil | refine Take.cons (by first | exact pick0 | (apply pickS; first | exact pick0 | (apply pickS; first | exact pick0 | (apply pickS; first | exact pick0 | (apply pickS; first | exact pick0 | (apply pickS; first | exact pick0 | (apply pickS; first | exact pick0 | (apply pickS; first | exact pick0 | (apply pickS; first | exact pick0 | (apply pickS; first | exact pick0 | (apply pickS; exact pick0))))))))))) ?_))) (Outs.one rfl rfl) ⟨rfl, congrArg Tr.int e.symm⟩ | exact absurd rfl hc
    · have nx : ∀ j, j < k + 1 → l[j]? ≠ some x := by
        intro j hj
        by_cases e : j = k
        · subst e; rw [hy]; intro h; cases h; exact hxy rfl
        · exact hV j (by omega)
      clear hV
      repeat' (first | refine goH ?_ | refine goV ?_ | refine goI ?_ | (refine Cw.k_cond ?_; first | (refine Cw.cond_dec rfl (fun hc => ?_) (fun hc => ?_) <;> try (exfalso; omega)) | refine Cw.cond_bool rfl (fun hc => ?_) (fun hc => ?_)) | fail)
      all_goals first | exact ⟨_, _, _, (Ent.mk (by repeat' (first | exact Sub.nil | refine Sub.cons rfl ?_)) (by repeat' (first | exact Take.nil | refine Take.cons (by first | exact pick0 | (apply pickS; first | exact pick0 | (apply pickS; first | exact pick0 | (apply pickS; first | exact pick0 | (apply pickS; first | exact pick0 | (apply pickS; first | exact pick0 | (apply pickS; first | exact pick0 | (apply pickS; first | exact pick0 | (apply pickS; first | exact pick0 | (apply pickS; first | exact pick0 | (apply pickS; exact pick0))))))))))) ?_))), ⟨k + 1, rfl, ⟨by omega, nx⟩, rfl, rfl⟩, by omega⟩ | (exfalso; simp_all; done)
  · have e : idxS l x = -1 := idxS_none (fun j hj => hV j (by omega))
    clear hV
    repeat' (first | refine goH ?_ | refine goV ?_ | refine goI ?_ | (refine Cw.k_cond ?_; first | (refine Cw.cond_dec rfl (fun hc => ?_) (fun hc => ?_) <;> try (exfalso; omega)) | refine Cw.cond_bool rfl (fun hc => ?_) (fun hc => ?_)) | fail)
    exact Fin.ret (Ent.take (by repeat' (first | exact Take.nil | refine Take.cons (by first | exact pick0 | (apply pickS; first | exact pick0 | (apply pickS; first | exact pick0 | (apply pickS; first | exact pick0 | (apply pickS; first | exact pick0 | (apply pickS; first | exact pick0 | (apply pickS; first | exact pick0 | (apply pickS; first | exact pick0 | (apply pickS; first | exact pick0 | (apply pickS; first | exact pick0 | (apply pickS; exact pick0))))))))))) ?_))) (Outs.one rfl rfl) ⟨rfl, congrArg Tr.int e.symm⟩

/-! ### what is given and spent -/
def set2 (R : List (List Int)) (i j : Nat) (v : Int) : List (List Int) := R.set i ((R.getD i []).set j v)
def gvE (w : Wal) (a b : ByteArray) (c : Int) (cr : Bool) : Int :=
  if idxS w.sites a < 0 ∨ idxS w.sites b < 0 then 8 else if cr = false ∧ idxS w.sites a = idxS w.sites b then 6 else if c < 1 ∨ 1000000000 < c then 1
  else if cr = false ∧ rgt w (idxS w.sites a).toNat < c then 16 else if at2 w.rights (idxS w.sites a).toNat (idxS w.sites b).toNat + c > 1000000000 then 12 else 0
def gvW (w : Wal) (a b : ByteArray) (c : Int) : Wal := ⟨w.sites, set2 w.rights (idxS w.sites a).toNat (idxS w.sites b).toNat (at2 w.rights (idxS w.sites a).toNat (idxS w.sites b).toNat + c), w.used⟩
def spE (w : Wal) (a : ByteArray) (c : Int) : Int :=
  if idxS w.sites a < 0 then 8 else if c < 1 ∨ 1000000000 < c then 1 else if rgt w (idxS w.sites a).toNat < c then 16 else if w.used.getD (idxS w.sites a).toNat 0 + c > 1000000000 then 12 else 0
def spW (w : Wal) (a : ByteArray) (c : Int) : Wal := ⟨w.sites, w.rights, w.used.set (idxS w.sites a).toNat (w.used.getD (idxS w.sites a).toNat 0 + c)⟩
theorem setI_ok {l : List Int} {k : Nat} {v : Int} (h : ∀ x ∈ l, 0 ≤ x ∧ x ≤ 1000000000) (hv : 0 ≤ v ∧ v ≤ 1000000000) : ∀ x ∈ l.set k v, 0 ≤ x ∧ x ≤ 1000000000 := by
  intro x hx
  rcases List.mem_or_eq_of_mem_set hx with h1 | h1
  · exact h x h1
  · rw [h1]; exact hv
theorem spW_ok {w : Wal} (h : WOk w) {a : ByteArray} {c : Int} (he : spE w a c = 0) : WOk (spW w a c) := by
  unfold spE at he
  by_cases q1 : idxS w.sites a < 0
  · rw [if_pos q1] at he; omega
  rw [if_neg q1] at he
  by_cases q2 : c < 1 ∨ 1000000000 < c
  · rw [if_pos q2] at he; omega
  rw [if_neg q2] at he
  by_cases q3 : rgt w (idxS w.sites a).toNat < c
  · rw [if_pos q3] at he; omega
  rw [if_neg q3] at he
  by_cases q4 : w.used.getD (idxS w.sites a).toNat 0 + c > 1000000000
  · rw [if_pos q4] at he; omega
  rcases idxS_cases w.sites a with h1 | ⟨k, h1, _, hk⟩
  · omega
  obtain ⟨y, _, e2, h3, h4⟩ := h.us hk
  unfold spW
  rw [h1] at q4 ⊢
  rw [Int.toNat_natCast] at q4 ⊢
  rw [e2] at q4 ⊢
  exact ⟨h.n1, h.r, by simp only [List.length_set]; exact h.u, h.rr, setI_ok h.ru (by omega), h.rx⟩
theorem gvW_ok {w : Wal} (h : WOk w) {a b : ByteArray} {c : Int} {cr : Bool} (he : gvE w a b c cr = 0) : WOk (gvW w a b c) := by
  unfold gvE at he
  by_cases q1 : idxS w.sites a < 0 ∨ idxS w.sites b < 0
  · rw [if_pos q1] at he; omega
  rw [if_neg q1] at he
  by_cases q2 : cr = false ∧ idxS w.sites a = idxS w.sites b
  · rw [if_pos q2] at he; omega
  rw [if_neg q2] at he
  by_cases q3 : c < 1 ∨ 1000000000 < c
  · rw [if_pos q3] at he; omega
  rw [if_neg q3] at he
  by_cases q4 : cr = false ∧ rgt w (idxS w.sites a).toNat < c
  · rw [if_pos q4] at he; omega
  rw [if_neg q4] at he
  by_cases q5 : at2 w.rights (idxS w.sites a).toNat (idxS w.sites b).toNat + c > 1000000000
  · rw [if_pos q5] at he; omega
  rcases idxS_cases w.sites a with h1 | ⟨i, h1, _, hi⟩
  · omega
  rcases idxS_cases w.sites b with h2 | ⟨j, h2, _, hj⟩
  · omega
  obtain ⟨l, x, e1, e2, e3, b1, b2⟩ := h.at2 hi hj
  unfold gvW set2
  rw [h1, h2] at q5 ⊢
  rw [Int.toNat_natCast, Int.toNat_natCast] at q5 ⊢
  rw [e3] at q5 ⊢
  rw [List.getD_eq_getElem?_getD, e1, Option.getD_some]
  have ml := List.mem_of_getElem? e1
  refine ⟨h.n1, by simp only [List.length_set]; exact h.r, h.u, ?_, h.ru, ?_⟩
  · intro m hm
    rcases List.mem_or_eq_of_mem_set hm with h3 | h3
    · exact h.rr m h3
    · rw [h3, List.length_set]; exact h.rr l ml
  · intro m hm
    rcases List.mem_or_eq_of_mem_set hm with h3 | h3
    · exact h.rx m h3
    · rw [h3]; exact setI_ok (h.rx l ml) (by omega)
end Lg
