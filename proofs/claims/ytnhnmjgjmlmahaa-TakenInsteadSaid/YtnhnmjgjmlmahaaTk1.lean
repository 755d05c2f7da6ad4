/- A part of the proof of a law of this seat: it adds no condition. By an AI agent. -/
import Derived.Test.YtnhnmjgjmlmahaaCat
import Derived.Test.YtnhnmjgjmlmahaaHi1
import Derived.Test.YtnhnmjgjmlmahaaPSort
set_option linter.all false
set_option maxRecDepth 100000
set_option maxHeartbeats 8000000
namespace Lg
open Go Go.Proofs

abbrev Tr.table (L : List (List Int)) : Tr := .agg [.sl 1 (intsR L)]
def b100 (n : Int) : Bool := decide (n < 0 ∨ 100 < n)
def tbl1 (n k : Nat) (l : List Int) : Int := if l.length ≠ n then 3 else if l.any b100 = true then 1 else if l.getD k 0 ≠ 0 then 1 else if 100 < sumI l then 1 else 0
def tblE (L : List (List Int)) (k : Nat) : Int := match L[k]? with
  | none => 0
  | some l => tbl1 L.length k l
def tableE (L : List (List Int)) : Int := if L.length = 0 then 8 else if L.length > 30 then 2 else firstE (tblE L) 0 L.length
theorem sumI_snoc (l : List Int) (x : Int) : sumI (l ++ [x]) = sumI l + x := by
  induction l with
  | nil => simp [sumI]
  | cons y l ih => rw [List.cons_append, sumI_cons, sumI_cons, ih]; omega
theorem b100_ok {l : List Int} (h : l.any b100 = false) : ∀ x ∈ l, 0 ≤ x ∧ x ≤ 100 := by
  intro x hx
  have : b100 x = false := by
    cases h2 : b100 x
    · rfl
    · rw [List.any_eq_true.2 ⟨x, hx, h2⟩] at h; cases h
  simp [b100] at this
  omega
def LBd (L : List (List Int)) : Prop := L.length ≤ 1000 ∧ ∀ l ∈ L, l.length ≤ 1000

theorem checkTable_fn (L : List (List Int)) (hB : LBd L) : PFn Try.prog 44 [.table L] (· = .int (tableE L)) := by
  have hL := intsR_len L
  have hll := hB.1
  refine PFn.mk (Spec.body Try.func44 rfl rfl (Try.ntmps44) rfl fun w0 own0 M => ?_)
  by_cases h1 : L.length = 0
  · have e : tableE L = 8 := by unfold tableE; rw [if_pos h1]
    repeat' (first | refine goH ?_ | refine goV ?_ | refine goB (fun b => ?_) | refine goG ?_ | (refine Ops.k_guard ?_; first | (refine Ops.guard_dec rfl rfl (fun hc => ?_) (fun hc => ?_) <;> try (exfalso; omega)) | refine Ops.guard_split rfl rfl (fun hc => ?_) (fun hc => ?_)) | refine goI ?_ | (refine Cw.k_cond ?_; first | (refine Cw.cond_dec rfl (fun hc => ?_) (fun hc => ?_) <;> try (exfalso; omega)) | refine Cw.cond_bool rfl (fun hc => ?_) (fun hc => ?_)) | fail)
    exact Fin.ret (Ent.take (by repeat' (first | exact Take.nil | refine Take.cons (by first | exact pick0 | exact pickS pick0 | exact pickS (pickS pick0) | exact pickS (pickS (pickS pick0)) | exact pickS (pickS (pickS (pickS pick0)))) ?_))) (Outs.one rfl rfl) ⟨rfl, congrArg Tr.int e.symm⟩
  by_cases h2 : L.length > 30
  · have e : tableE L = 2 := by unfold tableE; rw [if_neg h1, if_pos h2]
    repeat' (first | refine goH ?_ | refine goV ?_ | refine goB (fun b => ?_) | refine goG ?_ | (refine Ops.k_guard ?_; first | (refine Ops.guard_dec rfl rfl (fun hc => ?_) (fun hc => ?_) <;> try (exfalso; omega)) | refine Ops.guard_split rfl rfl (fun hc => ?_) (fun hc => ?_)) | refine goI ?_ | (refine Cw.k_cond ?_; first | (refine Cw.cond_dec rfl (fun hc => ?_) (fun hc => ?_) <;> try (exfalso; omega)) | refine Cw.cond_bool rfl (fun hc => ?_) (fun hc => ?_)) | fail)
    exact Fin.ret (Ent.take (by repeat' (first | exact Take.nil | refine Take.cons (by first | exact pick0 | exact pickS pick0 | exact pickS (pickS pick0) | exact pickS (pickS (pickS pick0)) | exact pickS (pickS (pickS (pickS pick0)))) ?_))) (Outs.one rfl rfl) ⟨rfl, congrArg Tr.int e.symm⟩
  have hV0 : tableE L = firstE (tblE L) 0 (L.length - 0) := by unfold tableE; rw [if_neg h1, if_neg h2]; rfl
  repeat' (first | refine goH ?_ | refine goV ?_ | refine goB (fun b => ?_) | refine goG ?_ | (refine Ops.k_guard ?_; first | (refine Ops.guard_dec rfl rfl (fun hc => ?_) (fun hc => ?_) <;> try (exfalso; omega)) | refine Ops.guard_split rfl rfl (fun hc => ?_) (fun hc => ?_)) | refine goI ?_ | (refine Cw.k_cond ?_; first | (refine Cw.cond_dec rfl (fun hc => ?_) (fun hc => ?_) <;> try (exfalso; omega)) | refine Cw.cond_bool rfl (fun hc => ?_) (fun hc => ?_)) | fail)
  refine Cw.loopI [(1, _), (19, _), (20, _)] _ (fun q e cc => ∃ k : Nat, q = L.length - k ∧ (k ≤ L.length ∧ tableE L = firstE (tblE L) k (L.length - k)) ∧ e = [(21, .int k)] ∧ cc = []) ⟨_, _, _, (Ent.mkP (by repeat' (first | exact Sub.nil | refine Sub.cons rfl ?_)) (by repeat' (first | exact List.Perm.refl _ | refine Perm.cons' (by first | exact pick0 | exact pickS pick0 | exact pickS (pickS pick0) | exact pickS (pickS (pickS pick0)) | exact pickS (pickS (pickS (pickS pick0)))) ?_))), 0, rfl, ⟨by omega, hV0⟩, rfl, rfl⟩ ?_
  rintro _ _ _ ⟨k, rfl, ⟨hk, hV⟩, rfl, rfl⟩
  by_cases hkl : k < L.length
  rotate_left
  · repeat' (first | refine goH ?_ | refine goV ?_ | refine goB (fun b => ?_) | refine goG ?_ | (refine Ops.k_guard ?_; first | (refine Ops.guard_dec rfl rfl (fun hc => ?_) (fun hc => ?_) <;> try (exfalso; omega)) | refine Ops.guard_split rfl rfl (fun hc => ?_) (fun hc => ?_)) | refine goI ?_ | (refine Cw.k_cond ?_; first | (refine Cw.cond_dec rfl (fun hc => ?_) (fun hc => ?_) <;> try (exfalso; omega)) | refine Cw.cond_bool rfl (fun hc => ?_) (fun hc => ?_)) | fail)
    refine Fin.ret (Ent.take (by repeat' (first | exact Take.nil | refine Take.cons (by first | exact pick0 | exact pickS pick0 | exact pickS (pickS pick0) | exact pickS (pickS (pickS pick0)) | exact pickS (pickS (pickS (pickS pick0)))) ?_))) (Outs.one rfl rfl) ⟨rfl, congrArg Tr.int ?_⟩
    rw [hV, firstE_end hkl]
  obtain ⟨l, hl⟩ := at_lt hkl
  have hrow := intsR_at hl
  have hb := hB.2 l (List.mem_of_getElem? hl)
  have hlr := intRows_len l
  have fin : ∀ c, tblE L k = c → c ≠ 0 → tableE L = c := fun c h1 h2 => hV.trans (firstE_bad hkl h1 h2)
  have nxt : tblE L k = 0 → tableE L = firstE (tblE L) (k + 1) (L.length - (k + 1)) := fun h1 => hV.trans (firstE_ok hkl h1)
  have he : tblE L k = tbl1 L.length k l := by unfold tblE; rw [hl]
  clear hV
  unfold tbl1 at he
  by_cases g1 : l.length = L.length
  rotate_left
  · rw [if_pos g1] at he
    repeat' (first | refine goH ?_ | refine goV ?_ | refine goB (fun b => ?_) | refine goG ?_ | (refine Ops.k_guard ?_; first | (refine Ops.guard_dec rfl rfl (fun hc => ?_) (fun hc => ?_) <;> try (exfalso; omega)) | refine Ops.guard_split rfl rfl (fun hc => ?_) (fun hc => ?_)) | refine goI ?_ | (refine Cw.k_cond ?_; first | (refine Cw.cond_dec rfl (fun hc => ?_) (fun hc => ?_) <;> try (exfalso; omega)) | refine Cw.cond_bool rfl (fun hc => ?_) (fun hc => ?_)) | fail)
    exact Fin.ret (Ent.take (by repeat' (first | exact Take.nil | refine Take.cons (by first | exact pick0 | exact pickS pick0 | exact pickS (pickS pick0) | exact pickS (pickS (pickS pick0)) | exact pickS (pickS (pickS (pickS pick0)))) ?_))) (Outs.one rfl rfl) ⟨rfl, congrArg Tr.int (fin 3 he (by decide)).symm⟩
  rw [if_neg (by omega)] at he
  repeat' (first | refine goH ?_ | refine goV ?_ | refine goB (fun b => ?_) | refine goG ?_ | (refine Ops.k_guard ?_; first | (refine Ops.guard_dec rfl rfl (fun hc => ?_) (fun hc => ?_) <;> try (exfalso; omega)) | refine Ops.guard_split rfl rfl (fun hc => ?_) (fun hc => ?_)) | refine goI ?_ | (refine Cw.k_cond ?_; first | (refine Cw.cond_dec rfl (fun hc => ?_) (fun hc => ?_) <;> try (exfalso; omega)) | refine Cw.cond_bool rfl (fun hc => ?_) (fun hc => ?_)) | fail)
  refine Cw.loopI [(1, _), (3, _), (4, _), (19, _), (20, _), (21, _), (32, _), (33, _)] _ (fun q e cc => ∃ (j : Nat), q = l.length - j ∧ (j ≤ l.length ∧ (l.take j).any b100 = false ∧ 0 ≤ sumI (l.take j) ∧ sumI (l.take j) ≤ 100 * (j : Int)) ∧ e = [(5, .int (sumI (l.take j))), (34, .int j)] ∧ cc = []) ⟨_, _, _, (Ent.mkP (by repeat' (first | exact Sub.nil | refine Sub.cons rfl ?_)) (by repeat' (first | exact List.Perm.refl _ | refine Perm.cons' (by first | exact pick0 | exact pickS pick0 | exact pickS (pickS pick0) | exact pickS (pickS (pickS pick0)) | exact pickS (pickS (pickS (pickS pick0)))) ?_))), 0, rfl, ⟨by omega, rfl, by simp [sumI], by simp [sumI]⟩, rfl, rfl⟩ ?_
  rintro _ _ _ ⟨j, rfl, ⟨hj, ha, s1, s2⟩, rfl, rfl⟩
  by_cases hjl : j < l.length
  · obtain ⟨x, hx⟩ := at_lt hjl
    have hrx := intRows_at hx
    by_cases hbx : x < 0 ∨ 100 < x
    · have hany : l.any b100 = true := List.any_eq_true.2 ⟨x, List.mem_of_getElem? hx, by simp [b100, hbx]⟩
      rw [if_pos hany] at he
      repeat' (first | refine goH ?_ | refine goV ?_ | refine goB (fun b => ?_) | refine goG ?_ | (refine Ops.k_guard ?_; first | (refine Ops.guard_dec rfl rfl (fun hc => ?_) (fun hc => ?_) <;> try (exfalso; omega)) | refine Ops.guard_split rfl rfl (fun hc => ?_) (fun hc => ?_)) | refine goI ?_ | (refine Cw.k_cond ?_; first | (refine Cw.cond_dec rfl (fun hc => ?_) (fun hc => ?_) <;> try (exfalso; omega)) | refine Cw.cond_bool rfl (fun hc => ?_) (fun hc => ?_)) | (refine Ops.k_calla ?_; first | (refine Ops.k_callf 61 ?_; refine Ops.callV (out_t x 0 100 (by omega)) (Evs.cons rfl (Evs.cons rfl (Evs.cons rfl Evs.nil))) rfl ?_)) | fail)
      exact Fin.ret (Ent.take (by repeat' (first | exact Take.nil | refine Take.cons (by first | exact pick0 | exact pickS pick0 | exact pickS (pickS pick0) | exact pickS (pickS (pickS pick0)) | exact pickS (pickS (pickS (pickS pick0)))) ?_))) (Outs.one rfl rfl) ⟨rfl, congrArg Tr.int (fin 1 he (by decide)).symm⟩
    · have hst : sumI (l.take (j + 1)) = sumI (l.take j) + x := by rw [take_at hx, sumI_snoc]
      have hta : (l.take (j + 1)).any b100 = false := by rw [take_at hx, List.any_append, ha]; simp [b100]; omega
      generalize sumI (l.take j) = s at *
      repeat' (first | refine goH ?_ | refine goV ?_ | refine goB (fun b => ?_) | refine goG ?_ | (refine Ops.k_guard ?_; first | (refine Ops.guard_dec rfl rfl (fun hc => ?_) (fun hc => ?_) <;> try (exfalso; omega)) | refine Ops.guard_split rfl rfl (fun hc => ?_) (fun hc => ?_)) | refine goI ?_ | (refine Cw.k_cond ?_; first | (refine Cw.cond_dec rfl (fun hc => ?_) (fun hc => ?_) <;> try (exfalso; omega)) | refine Cw.cond_bool rfl (fun hc => ?_) (fun hc => ?_)) | (refine Ops.k_calla ?_; first | (refine Ops.k_callf 61 ?_; refine Ops.callV (out_f x 0 100 (by omega)) (Evs.cons rfl (Evs.cons rfl (Evs.cons rfl Evs.nil))) rfl ?_)) | fail)
      rw [← hst]
      exact ⟨_, _, _, (Ent.mk (by repeat' (first | exact Sub.nil | refine Sub.cons rfl ?_)) (by repeat' (first | exact Take.nil | refine Take.cons (by first | exact pick0 | exact pickS pick0 | exact pickS (pickS pick0) | exact pickS (pickS (pickS pick0)) | exact pickS (pickS (pickS (pickS pick0)))) ?_))), ⟨j + 1, rfl, ⟨by omega, hta, by omega, by omega⟩, rfl, rfl⟩, by omega⟩
  · rw [List.take_of_length_le (by omega)] at ha s1 s2 ⊢
    rw [ha, if_neg (by decide)] at he
    obtain ⟨y, hy⟩ := at_lt (l := l) (k := k) (by omega)
    have hry := intRows_at hy
    have hg : l.getD k 0 = y := by rw [List.getD_eq_getElem?_getD, hy]; rfl
    rw [hg] at he
    generalize sumI l = s at *
    by_cases c1 : y = 0
    · rw [if_neg (by omega)] at he
      by_cases c2 : 100 < s
      · rw [if_pos c2] at he
        repeat' (first | refine goH ?_ | refine goV ?_ | refine goB (fun b => ?_) | refine goG ?_ | (refine Ops.k_guard ?_; first | (refine Ops.guard_dec rfl rfl (fun hc => ?_) (fun hc => ?_) <;> try (exfalso; omega)) | refine Ops.guard_split rfl rfl (fun hc => ?_) (fun hc => ?_)) | refine goI ?_ | (refine Cw.k_cond ?_; first | (refine Cw.cond_dec rfl (fun hc => ?_) (fun hc => ?_) <;> try (exfalso; omega)) | refine Cw.cond_bool rfl (fun hc => ?_) (fun hc => ?_)) | fail)
        exact Fin.ret (Ent.take (by repeat' (first | exact Take.nil | refine Take.cons (by first | exact pick0 | exact pickS pick0 | exact pickS (pickS pick0) | exact pickS (pickS (pickS pick0)) | exact pickS (pickS (pickS (pickS pick0)))) ?_))) (Outs.one rfl rfl) ⟨rfl, congrArg Tr.int (fin 1 he (by decide)).symm⟩
      · rw [if_neg c2] at he
        repeat' (first | refine goH ?_ | refine goV ?_ | refine goB (fun b => ?_) | refine goG ?_ | (refine Ops.k_guard ?_; first | (refine Ops.guard_dec rfl rfl (fun hc => ?_) (fun hc => ?_) <;> try (exfalso; omega)) | refine Ops.guard_split rfl rfl (fun hc => ?_) (fun hc => ?_)) | refine goI ?_ | (refine Cw.k_cond ?_; first | (refine Cw.cond_dec rfl (fun hc => ?_) (fun hc => ?_) <;> try (exfalso; omega)) | refine Cw.cond_bool rfl (fun hc => ?_) (fun hc => ?_)) | fail)
        exact ⟨_, _, _, (Ent.mk (by repeat' (first | exact Sub.nil | refine Sub.cons rfl ?_)) (by repeat' (first | exact Take.nil | refine Take.cons (by first | exact pick0 | exact pickS pick0 | exact pickS (pickS pick0) | exact pickS (pickS (pickS pick0)) | exact pickS (pickS (pickS (pickS pick0)))) ?_))), ⟨k + 1, rfl, ⟨by omega, nxt he⟩, rfl, rfl⟩, by omega⟩
    · rw [if_pos c1] at he
      repeat' (first | refine goH ?_ | refine goV ?_ | refine goB (fun b => ?_) | refine goG ?_ | (refine Ops.k_guard ?_; first | (refine Ops.guard_dec rfl rfl (fun hc => ?_) (fun hc => ?_) <;> try (exfalso; omega)) | refine Ops.guard_split rfl rfl (fun hc => ?_) (fun hc => ?_)) | refine goI ?_ | (refine Cw.k_cond ?_; first | (refine Cw.cond_dec rfl (fun hc => ?_) (fun hc => ?_) <;> try (exfalso; omega)) | refine Cw.cond_bool rfl (fun hc => ?_) (fun hc => ?_)) | fail)
      exact Fin.ret (Ent.take (by repeat' (first | exact Take.nil | refine Take.cons (by first | exact pick0 | exact pickS pick0 | exact pickS (pickS pick0) | exact pickS (pickS (pickS pick0)) | exact pickS (pickS (pickS (pickS pick0)))) ?_))) (Outs.one rfl rfl) ⟨rfl, congrArg Tr.int (fin 1 he (by decide)).symm⟩

theorem tf1_fn (n : Int) : PFn Try.prog 90 [.int n] (· = .bool (b100 n)) := by
  refine PFn.mk (Spec.body Try.func90 rfl rfl (Try.ntmps90) rfl fun w0 own0 M => ?_)
  by_cases h1 : n < 0
  · repeat' (first | refine goH ?_ | refine goV ?_ | refine goG ?_ | (refine Ops.k_guard ?_; first | (refine Ops.guard_dec rfl rfl (fun hc => ?_) (fun hc => ?_) <;> try (exfalso; omega)) | refine Ops.guard_split rfl rfl (fun hc => ?_) (fun hc => ?_)) | refine goI ?_ | (refine Cw.k_cond ?_; first | (refine Cw.cond_dec rfl (fun hc => ?_) (fun hc => ?_) <;> try (exfalso; omega)) | refine Cw.cond_bool rfl (fun hc => ?_) (fun hc => ?_)) | fail)
    refine Fin.ret Ent.refl (Outs.one rfl rfl) ⟨rfl, congrArg Tr.bool ?_⟩
    simp [b100, h1]
  · repeat' (first | refine goH ?_ | refine goV ?_ | refine goG ?_ | (refine Ops.k_guard ?_; first | (refine Ops.guard_dec rfl rfl (fun hc => ?_) (fun hc => ?_) <;> try (exfalso; omega)) | refine Ops.guard_split rfl rfl (fun hc => ?_) (fun hc => ?_)) | refine goI ?_ | (refine Cw.k_cond ?_; first | (refine Cw.cond_dec rfl (fun hc => ?_) (fun hc => ?_) <;> try (exfalso; omega)) | refine Cw.cond_bool rfl (fun hc => ?_) (fun hc => ?_)) | fail)
    refine Fin.ret Ent.refl (Outs.one rfl rfl) ⟨rfl, congrArg Tr.bool ?_⟩
    simp [b100, h1]
theorem tableFault_fn (L : List (List Int)) (hB : LBd L) : PFn Try.prog 45 [.table L] (· = .int (tableE L)) := by
  have hL := intsR_len L
  have hll := hB.1
  refine PFn.mk (Spec.body Try.func45 rfl rfl (Try.ntmps45) rfl fun w0 own0 M => ?_)
  by_cases h1 : L.length = 0
  · have e : tableE L = 8 := by unfold tableE; rw [if_pos h1]
    repeat' (first | refine goH ?_ | refine goV ?_ | refine goB (fun b => ?_) | refine goG ?_ | (refine Ops.k_guard ?_; first | (refine Ops.guard_dec rfl rfl (fun hc => ?_) (fun hc => ?_) <;> try (exfalso; omega)) | refine Ops.guard_split rfl rfl (fun hc => ?_) (fun hc => ?_)) | refine goI ?_ | (refine Cw.k_cond ?_; first | (refine Cw.cond_dec rfl (fun hc => ?_) (fun hc => ?_) <;> try (exfalso; omega)) | refine Cw.cond_bool rfl (fun hc => ?_) (fun hc => ?_)) | fail)
    exact Fin.ret (Ent.take (by repeat' (first | exact Take.nil | refine Take.cons (by first | exact pick0 | exact pickS pick0 | exact pickS (pickS pick0) | exact pickS (pickS (pickS pick0)) | exact pickS (pickS (pickS (pickS pick0)))) ?_))) (Outs.one rfl rfl) ⟨rfl, congrArg Tr.int e.symm⟩
  by_cases h2 : L.length > 30
  · have e : tableE L = 2 := by unfold tableE; rw [if_neg h1, if_pos h2]
    repeat' (first | refine goH ?_ | refine goV ?_ | refine goB (fun b => ?_) | refine goG ?_ | (refine Ops.k_guard ?_; first | (refine Ops.guard_dec rfl rfl (fun hc => ?_) (fun hc => ?_) <;> try (exfalso; omega)) | refine Ops.guard_split rfl rfl (fun hc => ?_) (fun hc => ?_)) | refine goI ?_ | (refine Cw.k_cond ?_; first | (refine Cw.cond_dec rfl (fun hc => ?_) (fun hc => ?_) <;> try (exfalso; omega)) | refine Cw.cond_bool rfl (fun hc => ?_) (fun hc => ?_)) | fail)
    exact Fin.ret (Ent.take (by repeat' (first | exact Take.nil | refine Take.cons (by first | exact pick0 | exact pickS pick0 | exact pickS (pickS pick0) | exact pickS (pickS (pickS pick0)) | exact pickS (pickS (pickS (pickS pick0)))) ?_))) (Outs.one rfl rfl) ⟨rfl, congrArg Tr.int e.symm⟩
  have hV0 : tableE L = firstE (tblE L) 0 (L.length - 0) := by unfold tableE; rw [if_neg h1, if_neg h2]; rfl
  repeat' (first | refine goH ?_ | refine goV ?_ | refine goB (fun b => ?_) | refine goG ?_ | (refine Ops.k_guard ?_; first | (refine Ops.guard_dec rfl rfl (fun hc => ?_) (fun hc => ?_) <;> try (exfalso; omega)) | refine Ops.guard_split rfl rfl (fun hc => ?_) (fun hc => ?_)) | refine goI ?_ | (refine Cw.k_cond ?_; first | (refine Cw.cond_dec rfl (fun hc => ?_) (fun hc => ?_) <;> try (exfalso; omega)) | refine Cw.cond_bool rfl (fun hc => ?_) (fun hc => ?_)) | fail)
  refine Cw.loopI [(1, _), (14, _), (15, _)] _ (fun q e cc => ∃ k : Nat, q = L.length - k ∧ (k ≤ L.length ∧ tableE L = firstE (tblE L) k (L.length - k)) ∧ e = [(16, .int k)] ∧ cc = []) ⟨_, _, _, (Ent.mkP (by repeat' (first | exact Sub.nil | refine Sub.cons rfl ?_)) (by repeat' (first | exact List.Perm.refl _ | refine Perm.cons' (by first | exact pick0 | exact pickS pick0 | exact pickS (pickS pick0) | exact pickS (pickS (pickS pick0)) | exact pickS (pickS (pickS (pickS pick0)))) ?_))), 0, rfl, ⟨by omega, hV0⟩, rfl, rfl⟩ ?_
  rintro _ _ _ ⟨k, rfl, ⟨hk, hV⟩, rfl, rfl⟩
  by_cases hkl : k < L.length
  rotate_left
  · repeat' (first | refine goH ?_ | refine goV ?_ | refine goB (fun b => ?_) | refine goG ?_ | (refine Ops.k_guard ?_; first | (refine Ops.guard_dec rfl rfl (fun hc => ?_) (fun hc => ?_) <;> try (exfalso; omega)) | refine Ops.guard_split rfl rfl (fun hc => ?_) (fun hc => ?_)) | refine goI ?_ | (refine Cw.k_cond ?_; first | (refine Cw.cond_dec rfl (fun hc => ?_) (fun hc => ?_) <;> try (exfalso; omega)) | refine Cw.cond_bool rfl (fun hc => ?_) (fun hc => ?_)) | fail)
    refine Fin.ret (Ent.take (by repeat' (first | exact Take.nil | refine Take.cons (by first | exact pick0 | exact pickS pick0 | exact pickS (pickS pick0) | exact pickS (pickS (pickS pick0)) | exact pickS (pickS (pickS (pickS pick0)))) ?_))) (Outs.one rfl rfl) ⟨rfl, congrArg Tr.int ?_⟩
    rw [hV, firstE_end hkl]
  obtain ⟨l, hl⟩ := at_lt hkl
  have hrow := intsR_at hl
  have hb := hB.2 l (List.mem_of_getElem? hl)
  have hlr := intRows_len l
  have fin : ∀ c, tblE L k = c → c ≠ 0 → tableE L = c := fun c h1 h2 => hV.trans (firstE_bad hkl h1 h2)
  have nxt : tblE L k = 0 → tableE L = firstE (tblE L) (k + 1) (L.length - (k + 1)) := fun h1 => hV.trans (firstE_ok hkl h1)
  have he : tblE L k = tbl1 L.length k l := by unfold tblE; rw [hl]
  clear hV
  unfold tbl1 at he
  by_cases g1 : l.length = L.length
  rotate_left
  · rw [if_pos g1] at he
    repeat' (first | refine goH ?_ | refine goV ?_ | refine goB (fun b => ?_) | refine goG ?_ | (refine Ops.k_guard ?_; first | (refine Ops.guard_dec rfl rfl (fun hc => ?_) (fun hc => ?_) <;> try (exfalso; omega)) | refine Ops.guard_split rfl rfl (fun hc => ?_) (fun hc => ?_)) | refine goI ?_ | (refine Cw.k_cond ?_; first | (refine Cw.cond_dec rfl (fun hc => ?_) (fun hc => ?_) <;> try (exfalso; omega)) | refine Cw.cond_bool rfl (fun hc => ?_) (fun hc => ?_)) | fail)
    exact Fin.ret (Ent.take (by repeat' (first | exact Take.nil | refine Take.cons (by first | exact pick0 | exact pickS pick0 | exact pickS (pickS pick0) | exact pickS (pickS (pickS pick0)) | exact pickS (pickS (pickS (pickS pick0)))) ?_))) (Outs.one rfl rfl) ⟨rfl, congrArg Tr.int (fin 3 he (by decide)).symm⟩
  rw [if_neg (by omega)] at he
  have hcf : Spec Try.prog 73 [.ints l, Tr.raw (.func (.func 90) #[] #[])] [] (fun r cs => r = .bool (l.any b100) ∧ cs = []) := containsFunc_int (p := b100) (g := 90) (caps := []) (cin := []) (l := l) (by omega) (fun x _ => (tf1_fn x).lend)
  cases ha : l.any b100
  rotate_left
  · rw [ha] at hcf
    rw [if_pos ha] at he
    repeat' (first | refine goH ?_ | refine goV ?_ | refine goB (fun b => ?_) | refine goG ?_ | (refine Ops.k_guard ?_; first | (refine Ops.guard_dec rfl rfl (fun hc => ?_) (fun hc => ?_) <;> try (exfalso; omega)) | refine Ops.guard_split rfl rfl (fun hc => ?_) (fun hc => ?_)) | refine goI ?_ | (refine Cw.k_cond ?_; first | (refine Cw.cond_dec rfl (fun hc => ?_) (fun hc => ?_) <;> try (exfalso; omega)) | refine Cw.cond_bool rfl (fun hc => ?_) (fun hc => ?_)) | (refine Ops.k_calla ?_; first | (refine Ops.k_callf 73 ?_; refine Ops.callS hcf (Evs.cons rfl (Evs.cons rfl Evs.nil)) (by first | exact pick0 | exact pickS pick0 | exact pickS (pickS pick0) | exact pickS (pickS (pickS pick0)) | exact pickS (pickS (pickS (pickS pick0)))) rfl ?_)) | fail)
    exact Fin.ret (Ent.take (by repeat' (first | exact Take.nil | refine Take.cons (by first | exact pick0 | exact pickS pick0 | exact pickS (pickS pick0) | exact pickS (pickS (pickS pick0)) | exact pickS (pickS (pickS (pickS pick0)))) ?_))) (Outs.one rfl rfl) ⟨rfl, congrArg Tr.int (fin 1 he (by decide)).symm⟩
  rw [ha] at hcf
  rw [ha, if_neg (by decide)] at he
  have hok := b100_ok ha
  have hsum := sum_fn l (fun x hx => by have := hok x hx; omega) (by omega)
  obtain ⟨y, hy⟩ := at_lt (l := l) (k := k) (by omega)
  have hry := intRows_at hy
  have hg : l.getD k 0 = y := by rw [List.getD_eq_getElem?_getD, hy]; rfl
  rw [hg] at he
  generalize sumI l = s at *
  by_cases c1 : y = 0
  · rw [if_neg (by omega)] at he
    by_cases c2 : 100 < s
    · rw [if_pos c2] at he
      repeat' (first | refine goH ?_ | refine goV ?_ | refine goB (fun b => ?_) | refine goG ?_ | (refine Ops.k_guard ?_; first | (refine Ops.guard_dec rfl rfl (fun hc => ?_) (fun hc => ?_) <;> try (exfalso; omega)) | refine Ops.guard_split rfl rfl (fun hc => ?_) (fun hc => ?_)) | refine goI ?_ | (refine Cw.k_cond ?_; first | (refine Cw.cond_dec rfl (fun hc => ?_) (fun hc => ?_) <;> try (exfalso; omega)) | refine Cw.cond_bool rfl (fun hc => ?_) (fun hc => ?_)) | (refine Ops.k_calla ?_; first | (refine Ops.k_callf 73 ?_; refine Ops.callS hcf (Evs.cons rfl (Evs.cons rfl Evs.nil)) (by first | exact pick0 | exact pickS pick0 | exact pickS (pickS pick0) | exact pickS (pickS (pickS pick0)) | exact pickS (pickS (pickS (pickS pick0)))) rfl ?_) | (refine Ops.k_callf 84 ?_; refine Ops.callV hsum (Evs.cons rfl Evs.nil) rfl ?_)) | fail)
      exact Fin.ret (Ent.take (by repeat' (first | exact Take.nil | refine Take.cons (by first | exact pick0 | exact pickS pick0 | exact pickS (pickS pick0) | exact pickS (pickS (pickS pick0)) | exact pickS (pickS (pickS (pickS pick0)))) ?_))) (Outs.one rfl rfl) ⟨rfl, congrArg Tr.int (fin 1 he (by decide)).symm⟩
    · rw [if_neg c2] at he
      repeat' (first | refine goH ?_ | refine goV ?_ | refine goB (fun b => ?_) | refine goG ?_ | (refine Ops.k_guard ?_; first | (refine Ops.guard_dec rfl rfl (fun hc => ?_) (fun hc => ?_) <;> try (exfalso; omega)) | refine Ops.guard_split rfl rfl (fun hc => ?_) (fun hc => ?_)) | refine goI ?_ | (refine Cw.k_cond ?_; first | (refine Cw.cond_dec rfl (fun hc => ?_) (fun hc => ?_) <;> try (exfalso; omega)) | refine Cw.cond_bool rfl (fun hc => ?_) (fun hc => ?_)) | (refine Ops.k_calla ?_; first | (refine Ops.k_callf 73 ?_; refine Ops.callS hcf (Evs.cons rfl (Evs.cons rfl Evs.nil)) (by first | exact pick0 | exact pickS pick0 | exact pickS (pickS pick0) | exact pickS (pickS (pickS pick0)) | exact pickS (pickS (pickS (pickS pick0)))) rfl ?_) | (refine Ops.k_callf 84 ?_; refine Ops.callV hsum (Evs.cons rfl Evs.nil) rfl ?_)) | fail)
      exact ⟨_, _, _, (Ent.mk (by repeat' (first | exact Sub.nil | refine Sub.cons rfl ?_)) (by repeat' (first | exact Take.nil | refine Take.cons (by first | exact pick0 | exact pickS pick0 | exact pickS (pickS pick0) | exact pickS (pickS (pickS pick0)) | exact pickS (pickS (pickS (pickS pick0)))) ?_))), ⟨k + 1, rfl, ⟨by omega, nxt he⟩, rfl, rfl⟩, by omega⟩
  · rw [if_pos c1] at he
    repeat' (first | refine goH ?_ | refine goV ?_ | refine goB (fun b => ?_) | refine goG ?_ | (refine Ops.k_guard ?_; first | (refine Ops.guard_dec rfl rfl (fun hc => ?_) (fun hc => ?_) <;> try (exfalso; omega)) | refine Ops.guard_split rfl rfl (fun hc => ?_) (fun hc => ?_)) | refine goI ?_ | (refine Cw.k_cond ?_; first | (refine Cw.cond_dec rfl (fun hc => ?_) (fun hc => ?_) <;> try (exfalso; omega)) | refine Cw.cond_bool rfl (fun hc => ?_) (fun hc => ?_)) | (refine Ops.k_calla ?_; first | (refine Ops.k_callf 73 ?_; refine Ops.callS hcf (Evs.cons rfl (Evs.cons rfl Evs.nil)) (by first | exact pick0 | exact pickS pick0 | exact pickS (pickS pick0) | exact pickS (pickS (pickS pick0)) | exact pickS (pickS (pickS (pickS pick0)))) rfl ?_) | (refine Ops.k_callf 84 ?_; refine Ops.callV hsum (Evs.cons rfl Evs.nil) rfl ?_)) | fail)
    exact Fin.ret (Ent.take (by repeat' (first | exact Take.nil | refine Take.cons (by first | exact pick0 | exact pickS pick0 | exact pickS (pickS pick0) | exact pickS (pickS (pickS pick0)) | exact pickS (pickS (pickS (pickS pick0)))) ?_))) (Outs.one rfl rfl) ⟨rfl, congrArg Tr.int (fin 1 he (by decide)).symm⟩
end Lg
