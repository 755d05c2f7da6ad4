/- A part of the proof of a law of this seat: it adds no condition. By an AI agent. -/
import Derived.Test.YtfecflnngkhneaaDoorCnt
set_option linter.all false
set_option maxRecDepth 100000
set_option maxHeartbeats 4000000
namespace Lg
open Go Go.Proofs

structure LOk (l : List Lot) : Prop where
  len : l.length ≤ 1000000
  many : ∀ x ∈ l, 0 ≤ x.many ∧ x.many ≤ 100000
theorem lotsErr_LOk {l : List Lot} (h : lotsErr l = 0) : LOk l :=
  ⟨by have := (lotsErr_ok h).1; omega, fun x hx => by have := (lotsErr_ok h).2 x hx; omega⟩

theorem fresh_fn (l : List Lot) (ho : LOk l) (p : ByteArray) (fr : Int) : PFn Tryd.prog 56 [.lots l, .str p, .int fr] (· = .int (freshI l p fr)) := by
  refine PFn.mk (Spec.body Tryd.func56 rfl rfl (Tryd.ntmps56) rfl fun w0 own0 M => ?_)
  have hL : (l.map Lot.row).length = l.length := List.length_map _
  have hlen := ho.len
  repeat' (first | refine goH ?_ | refine goV ?_ | refine goB (fun b => ?_) | refine goG ?_ | (refine Ops.k_guard ?_; first | (refine Ops.guard_dec rfl rfl (fun hc => ?_) (fun hc => ?_) <;> try (exfalso; omega)) | refine Ops.guard_split rfl rfl (fun hc => ?_) (fun hc => ?_)) | refine goI ?_ | (refine Cw.k_cond ?_; first | (refine Cw.cond_dec rfl (fun hc => ?_) (fun hc => ?_) <;> try (exfalso; omega)) | refine Cw.cond_bool rfl (fun hc => ?_) (fun hc => ?_)) | fail)
  refine Cw.loopI [(1, _), (2, _), (10, _), (11, _)] _ (fun n e c => ∃ (k : Nat) (s : Int), n = l.length - k ∧ (k ≤ l.length ∧ s + freshI (l.drop k) p fr = freshI l p fr ∧ 0 ≤ s ∧ s ≤ 100000 * (k : Int)) ∧ e = [(7, .int s), (12, .int k)] ∧ c = []) ⟨_, _, _, (Ent.mkP (by repeat' (first | exact Sub.nil | refine Sub.cons rfl ?_)) (by repeat' (first | exact List.Perm.refl _ | refine Perm.cons' (by first | exact pick0 | exact pickS pick0 | exact pickS (pickS pick0) | exact pickS (pickS (pickS pick0)) | exact pickS (pickS (pickS (pickS pick0)))) ?_))), 0, 0, rfl, ⟨by omega, by simp, by omega, by omega⟩, rfl, rfl⟩ ?_
  rintro _ _ _ ⟨k, s, rfl, ⟨hk, hV, b1, b2⟩, rfl, rfl⟩
  by_cases hkl : k < l.length
  · obtain ⟨x, hx'⟩ := at_lt hkl
    have hrow : (l.map Lot.row)[k]? = some [.str x.id, .str x.prod, .int x.exp, .int x.many] := rows_at hx'
    obtain ⟨m1, m2⟩ := ho.many x (List.mem_of_getElem? hx')
    rw [drop_at hx', freshI, sumF_cons, ← freshI, freshP] at hV
    by_cases hp : x.prod = p
    · by_cases hf : fr ≤ x.exp
      · rw [if_pos ⟨hp, hf⟩] at hV
        repeat' (first | refine goH ?_ | refine goV ?_ | refine goB (fun b => ?_) | refine goG ?_ | (refine Ops.k_guard ?_; first | (refine Ops.guard_dec rfl rfl (fun hc => ?_) (fun hc => ?_) <;> try (exfalso; omega)) | refine Ops.guard_split rfl rfl (fun hc => ?_) (fun hc => ?_)) | refine goI ?_ | (refine Cw.k_cond ?_; first | (refine Cw.cond_dec rfl (fun hc => ?_) (fun hc => ?_) <;> try (exfalso; omega)) | refine Cw.cond_bool rfl (fun hc => ?_) (fun hc => ?_)) | fail)
        all_goals exact ⟨_, _, _, (Ent.mk (by repeat' (first | exact Sub.nil | refine Sub.cons rfl ?_)) (by repeat' (first | exact Take.nil | refine Take.cons (by first | exact pick0 | exact pickS pick0 | exact pickS (pickS pick0) | exact pickS (pickS (pickS pick0)) | exact pickS (pickS (pickS (pickS pick0)))) ?_))), ⟨k + 1, _, rfl, ⟨by omega, by omega, by omega, by omega⟩, rfl, rfl⟩, by omega⟩
      · rw [if_neg (fun h => hf h.2)] at hV
        repeat' (first | refine goH ?_ | refine goV ?_ | refine goB (fun b => ?_) | refine goG ?_ | (refine Ops.k_guard ?_; first | (refine Ops.guard_dec rfl rfl (fun hc => ?_) (fun hc => ?_) <;> try (exfalso; omega)) | refine Ops.guard_split rfl rfl (fun hc => ?_) (fun hc => ?_)) | refine goI ?_ | (refine Cw.k_cond ?_; first | (refine Cw.cond_dec rfl (fun hc => ?_) (fun hc => ?_) <;> try (exfalso; omega)) | refine Cw.cond_bool rfl (fun hc => ?_) (fun hc => ?_)) | fail)
        all_goals exact ⟨_, _, _, (Ent.mk (by repeat' (first | exact Sub.nil | refine Sub.cons rfl ?_)) (by repeat' (first | exact Take.nil | refine Take.cons (by first | exact pick0 | exact pickS pick0 | exact pickS (pickS pick0) | exact pickS (pickS (pickS pick0)) | exact pickS (pickS (pickS (pickS pick0)))) ?_))), ⟨k + 1, _, rfl, ⟨by omega, by omega, by omega, by omega⟩, rfl, rfl⟩, by omega⟩
    · rw [if_neg (fun h => hp h.1)] at hV
      repeat' (first | refine goH ?_ | refine goV ?_ | refine goB (fun b => ?_) | refine goG ?_ | (refine Ops.k_guard ?_; first | (refine Ops.guard_dec rfl rfl (fun hc => ?_) (fun hc => ?_) <;> try (exfalso; omega)) | refine Ops.guard_split rfl rfl (fun hc => ?_) (fun hc => ?_)) | refine goI ?_ | (refine Cw.k_cond ?_; first | (refine Cw.cond_dec rfl (fun hc => ?_) (fun hc => ?_) <;> try (exfalso; omega)) | refine Cw.cond_bool rfl (fun hc => ?_) (fun hc => ?_)) | fail)
      all_goals exact ⟨_, _, _, (Ent.mk (by repeat' (first | exact Sub.nil | refine Sub.cons rfl ?_)) (by repeat' (first | exact Take.nil | refine Take.cons (by first | exact pick0 | exact pickS pick0 | exact pickS (pickS pick0) | exact pickS (pickS (pickS pick0)) | exact pickS (pickS (pickS (pickS pick0)))) ?_))), ⟨k + 1, _, rfl, ⟨by omega, by omega, by omega, by omega⟩, rfl, rfl⟩, by omega⟩
  · rw [List.drop_eq_nil_of_le (by omega), freshI, sumF] at hV
    repeat' (first | refine goH ?_ | refine goV ?_ | refine goB (fun b => ?_) | refine goG ?_ | (refine Ops.k_guard ?_; first | (refine Ops.guard_dec rfl rfl (fun hc => ?_) (fun hc => ?_) <;> try (exfalso; omega)) | refine Ops.guard_split rfl rfl (fun hc => ?_) (fun hc => ?_)) | refine goI ?_ | (refine Cw.k_cond ?_; first | (refine Cw.cond_dec rfl (fun hc => ?_) (fun hc => ?_) <;> try (exfalso; omega)) | refine Cw.cond_bool rfl (fun hc => ?_) (fun hc => ?_)) | fail)
    exact Fin.ret (Ent.take (by repeat' (first | exact Take.nil | refine Take.cons (by first | exact pick0 | exact pickS pick0 | exact pickS (pickS pick0) | exact pickS (pickS (pickS pick0)) | exact pickS (pickS (pickS (pickS pick0)))) ?_))) (Outs.one rfl rfl) ⟨rfl, congrArg Tr.int (by omega)⟩

theorem freshOf_fn (l : List Lot) (ho : LOk l) (p : ByteArray) (day left : Int) (hd : -10000 ≤ day ∧ day ≤ 10000) (hf : -10000 ≤ left ∧ left ≤ 10000) : PFn Tryd.prog 31 [.lots l, .str p, .int day, .int left] (· = .int (freshI l p (day + left))) := by
  refine PFn.mk (Spec.body Tryd.func31 rfl rfl (Tryd.ntmps31) rfl fun w0 own0 M => ?_)
  have hL : (l.map Lot.row).length = l.length := List.length_map _
  have hlen := ho.len
  repeat' (first | refine goH ?_ | refine goV ?_ | refine goB (fun b => ?_) | refine goG ?_ | (refine Ops.k_guard ?_; first | (refine Ops.guard_dec rfl rfl (fun hc => ?_) (fun hc => ?_) <;> try (exfalso; omega)) | refine Ops.guard_split rfl rfl (fun hc => ?_) (fun hc => ?_)) | refine goI ?_ | (refine Cw.k_cond ?_; first | (refine Cw.cond_dec rfl (fun hc => ?_) (fun hc => ?_) <;> try (exfalso; omega)) | refine Cw.cond_bool rfl (fun hc => ?_) (fun hc => ?_)) | fail)
  refine Cw.loopI [(1, _), (2, _), (3, _), (12, _), (13, _)] _ (fun n e c => ∃ (k : Nat) (s : Int), n = l.length - k ∧ (k ≤ l.length ∧ s + freshI (l.drop k) p (day + left) = freshI l p (day + left) ∧ 0 ≤ s ∧ s ≤ 100000 * (k : Int)) ∧ e = [(9, .int s), (14, .int k)] ∧ c = []) ⟨_, _, _, (Ent.mkP (by repeat' (first | exact Sub.nil | refine Sub.cons rfl ?_)) (by repeat' (first | exact List.Perm.refl _ | refine Perm.cons' (by first | exact pick0 | exact pickS pick0 | exact pickS (pickS pick0) | exact pickS (pickS (pickS pick0)) | exact pickS (pickS (pickS (pickS pick0)))) ?_))), 0, 0, rfl, ⟨by omega, by simp, by omega, by omega⟩, rfl, rfl⟩ ?_
  rintro _ _ _ ⟨k, s, rfl, ⟨hk, hV, b1, b2⟩, rfl, rfl⟩
  by_cases hkl : k < l.length
  · obtain ⟨x, hx'⟩ := at_lt hkl
    have hrow : (l.map Lot.row)[k]? = some [.str x.id, .str x.prod, .int x.exp, .int x.many] := rows_at hx'
    obtain ⟨m1, m2⟩ := ho.many x (List.mem_of_getElem? hx')
    rw [drop_at hx', freshI, sumF_cons, ← freshI, freshP] at hV
    by_cases hp : x.prod = p
    · by_cases hf : day + left ≤ x.exp
      · rw [if_pos ⟨hp, hf⟩] at hV
        repeat' (first | refine goH ?_ | refine goV ?_ | refine goB (fun b => ?_) | refine goG ?_ | (refine Ops.k_guard ?_; first | (refine Ops.guard_dec rfl rfl (fun hc => ?_) (fun hc => ?_) <;> try (exfalso; omega)) | refine Ops.guard_split rfl rfl (fun hc => ?_) (fun hc => ?_)) | refine goI ?_ | (refine Cw.k_cond ?_; first | (refine Cw.cond_dec rfl (fun hc => ?_) (fun hc => ?_) <;> try (exfalso; omega)) | refine Cw.cond_bool rfl (fun hc => ?_) (fun hc => ?_)) | fail)
        all_goals exact ⟨_, _, _, (Ent.mk (by repeat' (first | exact Sub.nil | refine Sub.cons rfl ?_)) (by repeat' (first | exact Take.nil | refine Take.cons (by first | exact pick0 | exact pickS pick0 | exact pickS (pickS pick0) | exact pickS (pickS (pickS pick0)) | exact pickS (pickS (pickS (pickS pick0)))) ?_))), ⟨k + 1, _, rfl, ⟨by omega, by omega, by omega, by omega⟩, rfl, rfl⟩, by omega⟩
      · rw [if_neg (fun h => hf h.2)] at hV
        repeat' (first | refine goH ?_ | refine goV ?_ | refine goB (fun b => ?_) | refine goG ?_ | (refine Ops.k_guard ?_; first | (refine Ops.guard_dec rfl rfl (fun hc => ?_) (fun hc => ?_) <;> try (exfalso; omega)) | refine Ops.guard_split rfl rfl (fun hc => ?_) (fun hc => ?_)) | refine goI ?_ | (refine Cw.k_cond ?_; first | (refine Cw.cond_dec rfl (fun hc => ?_) (fun hc => ?_) <;> try (exfalso; omega)) | refine Cw.cond_bool rfl (fun hc => ?_) (fun hc => ?_)) | fail)
        all_goals exact ⟨_, _, _, (Ent.mk (by repeat' (first | exact Sub.nil | refine Sub.cons rfl ?_)) (by repeat' (first | exact Take.nil | refine Take.cons (by first | exact pick0 | exact pickS pick0 | exact pickS (pickS pick0) | exact pickS (pickS (pickS pick0)) | exact pickS (pickS (pickS (pickS pick0)))) ?_))), ⟨k + 1, _, rfl, ⟨by omega, by omega, by omega, by omega⟩, rfl, rfl⟩, by omega⟩
    · rw [if_neg (fun h => hp h.1)] at hV
      repeat' (first | refine goH ?_ | refine goV ?_ | refine goB (fun b => ?_) | refine goG ?_ | (refine Ops.k_guard ?_; first | (refine Ops.guard_dec rfl rfl (fun hc => ?_) (fun hc => ?_) <;> try (exfalso; omega)) | refine Ops.guard_split rfl rfl (fun hc => ?_) (fun hc => ?_)) | refine goI ?_ | (refine Cw.k_cond ?_; first | (refine Cw.cond_dec rfl (fun hc => ?_) (fun hc => ?_) <;> try (exfalso; omega)) | refine Cw.cond_bool rfl (fun hc => ?_) (fun hc => ?_)) | fail)
      all_goals exact ⟨_, _, _, (Ent.mk (by repeat' (first | exact Sub.nil | refine Sub.cons rfl ?_)) (by repeat' (first | exact Take.nil | refine Take.cons (by first | exact pick0 | exact pickS pick0 | exact pickS (pickS pick0) | exact pickS (pickS (pickS pick0)) | exact pickS (pickS (pickS (pickS pick0)))) ?_))), ⟨k + 1, _, rfl, ⟨by omega, by omega, by omega, by omega⟩, rfl, rfl⟩, by omega⟩
  · rw [List.drop_eq_nil_of_le (by omega), freshI, sumF] at hV
    repeat' (first | refine goH ?_ | refine goV ?_ | refine goB (fun b => ?_) | refine goG ?_ | (refine Ops.k_guard ?_; first | (refine Ops.guard_dec rfl rfl (fun hc => ?_) (fun hc => ?_) <;> try (exfalso; omega)) | refine Ops.guard_split rfl rfl (fun hc => ?_) (fun hc => ?_)) | refine goI ?_ | (refine Cw.k_cond ?_; first | (refine Cw.cond_dec rfl (fun hc => ?_) (fun hc => ?_) <;> try (exfalso; omega)) | refine Cw.cond_bool rfl (fun hc => ?_) (fun hc => ?_)) | fail)
    exact Fin.ret (Ent.take (by repeat' (first | exact Take.nil | refine Take.cons (by first | exact pick0 | exact pickS pick0 | exact pickS (pickS pick0) | exact pickS (pickS (pickS pick0)) | exact pickS (pickS (pickS (pickS pick0)))) ?_))) (Outs.one rfl rfl) ⟨rfl, congrArg Tr.int (by omega)⟩

theorem countOf_fn (l : List Lot) (h : lotsErr l = 0) (p : ByteArray) : PFn Tryd.prog 30 [.lots l, .str p] (· = .int (countI l p)) := by
  have hf := freshOf_fn l (lotsErr_LOk h) p 0 0 (by omega) (by omega)
  rw [show (0 : Int) + 0 = 0 from rfl, countI_fresh fun x hx => ((lotsErr_ok h).2 x hx).2.2.1] at hf
  refine PFn.mk (Spec.body Tryd.func30 rfl rfl (Tryd.ntmps30) rfl fun w0 own0 M => ?_)
  repeat' (first | refine goH ?_ | refine goV ?_ | refine goI ?_ | (refine Cw.k_cond ?_; first | (refine Cw.cond_dec rfl (fun hc => ?_) (fun hc => ?_) <;> try (exfalso; omega)) | refine Cw.cond_bool rfl (fun hc => ?_) (fun hc => ?_)) | (refine Ops.k_calla ?_; first | (refine Ops.k_callf 31 ?_; refine Ops.callV hf (Evs.cons rfl (Evs.cons rfl (Evs.cons rfl (Evs.cons rfl Evs.nil)))) rfl ?_)) | fail)
  exact Fin.ret (Ent.take (by repeat' (first | exact Take.nil | refine Take.cons (by first | exact pick0 | exact pickS pick0 | exact pickS (pickS pick0) | exact pickS (pickS (pickS pick0)) | exact pickS (pickS (pickS (pickS pick0)))) ?_))) (Outs.one rfl rfl) ⟨rfl, rfl⟩

def nameE (s : ByteArray) : Int := if isKey s then 0 else 5
def daysE (day left : Int) : Int := if dayB day && dayB left then 0 else 1
theorem named_fn (s : ByteArray) : PFn Tryd.prog 28 [.str s] (· = .int (nameE s)) := by
  have hk := keyOf_fn s
  unfold nameE
  refine PFn.mk (Spec.body Tryd.func28 rfl rfl (Tryd.ntmps28) rfl fun w0 own0 M => ?_)
  cases h : isKey s
  · rw [h] at hk
    repeat' (first | refine goH ?_ | refine goV ?_ | refine goI ?_ | (refine Cw.k_cond ?_; first | (refine Cw.cond_dec rfl (fun hc => ?_) (fun hc => ?_) <;> try (exfalso; omega)) | refine Cw.cond_bool rfl (fun hc => ?_) (fun hc => ?_)) | (refine Ops.k_calla ?_; first | (refine Ops.k_callf 51 ?_; refine Ops.callV hk (Evs.cons rfl Evs.nil) rfl ?_)) | fail)
    exact Fin.ret (Ent.take (by repeat' (first | exact Take.nil | refine Take.cons (by first | exact pick0 | exact pickS pick0 | exact pickS (pickS pick0) | exact pickS (pickS (pickS pick0)) | exact pickS (pickS (pickS (pickS pick0)))) ?_))) (Outs.one rfl rfl) ⟨rfl, rfl⟩
  · rw [h] at hk
    repeat' (first | refine goH ?_ | refine goV ?_ | refine goI ?_ | (refine Cw.k_cond ?_; first | (refine Cw.cond_dec rfl (fun hc => ?_) (fun hc => ?_) <;> try (exfalso; omega)) | refine Cw.cond_bool rfl (fun hc => ?_) (fun hc => ?_)) | (refine Ops.k_calla ?_; first | (refine Ops.k_callf 51 ?_; refine Ops.callV hk (Evs.cons rfl Evs.nil) rfl ?_)) | fail)
    exact Fin.ret (Ent.take (by repeat' (first | exact Take.nil | refine Take.cons (by first | exact pick0 | exact pickS pick0 | exact pickS (pickS pick0) | exact pickS (pickS (pickS pick0)) | exact pickS (pickS (pickS (pickS pick0)))) ?_))) (Outs.one rfl rfl) ⟨rfl, rfl⟩
theorem nameFault_fn (s : ByteArray) : PFn Tryd.prog 60 [.str s] (· = .int (nameE s)) := by
  have hk := keyOf_fn s
  unfold nameE
  refine PFn.mk (Spec.body Tryd.func60 rfl rfl (Tryd.ntmps60) rfl fun w0 own0 M => ?_)
  cases h : isKey s
  · rw [h] at hk
    repeat' (first | refine goH ?_ | refine goV ?_ | refine goI ?_ | (refine Cw.k_cond ?_; first | (refine Cw.cond_dec rfl (fun hc => ?_) (fun hc => ?_) <;> try (exfalso; omega)) | refine Cw.cond_bool rfl (fun hc => ?_) (fun hc => ?_)) | (refine Ops.k_calla ?_; first | (refine Ops.k_callf 51 ?_; refine Ops.callV hk (Evs.cons rfl Evs.nil) rfl ?_)) | fail)
    exact Fin.ret (Ent.take (by repeat' (first | exact Take.nil | refine Take.cons (by first | exact pick0 | exact pickS pick0 | exact pickS (pickS pick0) | exact pickS (pickS (pickS pick0)) | exact pickS (pickS (pickS (pickS pick0)))) ?_))) (Outs.one rfl rfl) ⟨rfl, rfl⟩
  · rw [h] at hk
    repeat' (first | refine goH ?_ | refine goV ?_ | refine goI ?_ | (refine Cw.k_cond ?_; first | (refine Cw.cond_dec rfl (fun hc => ?_) (fun hc => ?_) <;> try (exfalso; omega)) | refine Cw.cond_bool rfl (fun hc => ?_) (fun hc => ?_)) | (refine Ops.k_calla ?_; first | (refine Ops.k_callf 51 ?_; refine Ops.callV hk (Evs.cons rfl Evs.nil) rfl ?_)) | fail)
    exact Fin.ret (Ent.take (by repeat' (first | exact Take.nil | refine Take.cons (by first | exact pick0 | exact pickS pick0 | exact pickS (pickS pick0) | exact pickS (pickS (pickS pick0)) | exact pickS (pickS (pickS (pickS pick0)))) ?_))) (Outs.one rfl rfl) ⟨rfl, rfl⟩
def freshE (p : ByteArray) (day left : Int) : Int := if isKey p = false then 5 else daysE day left
theorem freshFault_fn (p : ByteArray) (day left : Int) : PFn Tryd.prog 29 [.str p, .int day, .int left] (· = .int (freshE p day left)) := by
  have h1 := nameFault_fn p
  have h2 := dayFault_fn [day, left] (by simp)
  have h3 := cmpOr_fn [nameE p, if [day, left].any (fun n => !dayB n) then 1 else 0] (by simp)
  have e : orI [nameE p, if [day, left].any (fun n => !dayB n) then 1 else 0] = freshE p day left := by
    unfold freshE nameE daysE
    simp only [orI, List.any_cons, List.any_nil, Bool.or_false]
    cases isKey p <;> cases dayB day <;> cases dayB left <;> rfl
  rw [e] at h3
  refine PFn.mk (Spec.body Tryd.func29 rfl rfl (Tryd.ntmps29) rfl fun w0 own0 M => ?_)
  repeat' (first | refine goH ?_ | refine goV ?_ | refine goI ?_ | (refine Cw.k_cond ?_; first | (refine Cw.cond_dec rfl (fun hc => ?_) (fun hc => ?_) <;> try (exfalso; omega)) | refine Cw.cond_bool rfl (fun hc => ?_) (fun hc => ?_)) | (refine Ops.k_calla ?_; first | (refine Ops.k_callf 60 ?_; refine Ops.callV h1 (Evs.cons rfl Evs.nil) rfl ?_) | (refine Ops.k_callf 15 ?_; refine Ops.callV h2 (Evs.cons rfl Evs.nil) rfl ?_) | (refine Ops.k_callf 13 ?_; refine Ops.callV h3 (Evs.cons rfl Evs.nil) rfl ?_)) | fail)
  exact Fin.ret (Ent.take (by repeat' (first | exact Take.nil | refine Take.cons (by first | exact pick0 | exact pickS pick0 | exact pickS (pickS pick0) | exact pickS (pickS (pickS pick0)) | exact pickS (pickS (pickS (pickS pick0)))) ?_))) (Outs.one rfl rfl) ⟨rfl, rfl⟩

def fresh1E (l : List Lot) (p : ByteArray) (day left : Int) : Int := if lotsErr l ≠ 0 then lotsErr l else freshE p day left
theorem freshX_fn (l : List Lot) (hl : l.length ≤ 1000000) (p : ByteArray) (day left : Int) : PFn Tryd.prog 25 [.lots l, .str p, .int day, .int left] (· = .tup [.int (if fresh1E l p day left ≠ 0 then 0 else freshI l p (day + left)), .int (fresh1E l p day left)]) := by
  have h1 := checkLots_fn l hl
  have h2 := key_fn p
  have h3 := day_fn day
  have h4 := day_fn left
  refine PFn.mk (Spec.body Tryd.func25 rfl rfl (Tryd.ntmps25) rfl fun w0 own0 M => ?_)
  by_cases h0 : lotsErr l ≠ 0
  · rw [show fresh1E l p day left = lotsErr l by unfold fresh1E; rw [if_pos h0], if_pos h0]
    repeat' (first | refine goH ?_ | refine goV ?_ | refine goG ?_ | (refine Ops.k_guard ?_; first | (refine Ops.guard_dec rfl rfl (fun hc => ?_) (fun hc => ?_) <;> try (exfalso; omega)) | refine Ops.guard_split rfl rfl (fun hc => ?_) (fun hc => ?_)) | refine goI ?_ | (refine Cw.k_cond ?_; first | (refine Cw.cond_dec rfl (fun hc => ?_) (fun hc => ?_) <;> try (exfalso; omega)) | refine Cw.cond_bool rfl (fun hc => ?_) (fun hc => ?_)) | (refine Ops.k_calla ?_; first | (refine Ops.k_callf 23 ?_; refine Ops.callV h1 (Evs.cons rfl Evs.nil) rfl ?_)) | fail)
    refine Fin.ret (Ent.take (by repeat' (first | exact Take.nil | refine Take.cons (by first | exact pick0 | exact pickS pick0 | exact pickS (pickS pick0) | exact pickS (pickS (pickS pick0)) | exact pickS (pickS (pickS (pickS pick0)))) ?_))) (Outs.many rfl (OutL.cons (by first | exact OutE.tmp rfl | exact OutE.agg inferInstance rfl rfl | exact OutE.one inferInstance rfl) (OutL.cons (by first | exact OutE.tmp rfl | exact OutE.agg inferInstance rfl rfl | exact OutE.one inferInstance rfl) OutL.nil)) rfl) ⟨rfl, rfl⟩
  have he : lotsErr l = 0 := by omega
  rw [he] at h1
  have h5 := fresh_fn l (lotsErr_LOk he) p (day + left)
  rw [show fresh1E l p day left = freshE p day left by unfold fresh1E; rw [if_neg h0]]
  unfold freshE daysE
  have d1 : dayB day = true → 0 ≤ day ∧ day ≤ 4000 := dayB_iff.1
  have d2 : dayB left = true → 0 ≤ left ∧ left ≤ 4000 := dayB_iff.1
  generalize freshI l p (day + left) = fi at *
  cases hkp : isKey p
  · rw [hkp] at h2
    repeat' (first | refine goH ?_ | refine goV ?_ | refine goG ?_ | (refine Ops.k_guard ?_; first | (refine Ops.guard_dec rfl rfl (fun hc => ?_) (fun hc => ?_) <;> try (exfalso; omega)) | refine Ops.guard_split rfl rfl (fun hc => ?_) (fun hc => ?_)) | refine goI ?_ | (refine Cw.k_cond ?_; first | (refine Cw.cond_dec rfl (fun hc => ?_) (fun hc => ?_) <;> try (exfalso; omega)) | refine Cw.cond_bool rfl (fun hc => ?_) (fun hc => ?_)) | (refine Ops.k_calla ?_; first | (refine Ops.k_callf 23 ?_; refine Ops.callV h1 (Evs.cons rfl Evs.nil) rfl ?_) | (refine Ops.k_callf 53 ?_; refine Ops.callV h2 (Evs.cons rfl Evs.nil) rfl ?_)) | fail)
    refine Fin.ret (Ent.take (by repeat' (first | exact Take.nil | refine Take.cons (by first | exact pick0 | exact pickS pick0 | exact pickS (pickS pick0) | exact pickS (pickS (pickS pick0)) | exact pickS (pickS (pickS (pickS pick0)))) ?_))) (Outs.many rfl (OutL.cons (by first | exact OutE.tmp rfl | exact OutE.agg inferInstance rfl rfl | exact OutE.one inferInstance rfl) (OutL.cons (by first | exact OutE.tmp rfl | exact OutE.agg inferInstance rfl rfl | exact OutE.one inferInstance rfl) OutL.nil)) rfl) ⟨rfl, rfl⟩
  rw [hkp] at h2
  cases hd1 : dayB day
  · rw [hd1] at h3
    repeat' (first | refine goH ?_ | refine goV ?_ | refine goG ?_ | (refine Ops.k_guard ?_; first | (refine Ops.guard_dec rfl rfl (fun hc => ?_) (fun hc => ?_) <;> try (exfalso; omega)) | refine Ops.guard_split rfl rfl (fun hc => ?_) (fun hc => ?_)) | refine goI ?_ | (refine Cw.k_cond ?_; first | (refine Cw.cond_dec rfl (fun hc => ?_) (fun hc => ?_) <;> try (exfalso; omega)) | refine Cw.cond_bool rfl (fun hc => ?_) (fun hc => ?_)) | (refine Ops.k_calla ?_; first | (refine Ops.k_callf 23 ?_; refine Ops.callV h1 (Evs.cons rfl Evs.nil) rfl ?_) | (refine Ops.k_callf 53 ?_; refine Ops.callV h2 (Evs.cons rfl Evs.nil) rfl ?_) | (refine Ops.k_callf 55 ?_; refine Ops.callV h3 (Evs.cons rfl Evs.nil) rfl ?_) | (refine Ops.k_callf 55 ?_; refine Ops.callV h4 (Evs.cons rfl Evs.nil) rfl ?_)) | fail)
    refine Fin.ret (Ent.take (by repeat' (first | exact Take.nil | refine Take.cons (by first | exact pick0 | exact pickS pick0 | exact pickS (pickS pick0) | exact pickS (pickS (pickS pick0)) | exact pickS (pickS (pickS (pickS pick0)))) ?_))) (Outs.many rfl (OutL.cons (by first | exact OutE.tmp rfl | exact OutE.agg inferInstance rfl rfl | exact OutE.one inferInstance rfl) (OutL.cons (by first | exact OutE.tmp rfl | exact OutE.agg inferInstance rfl rfl | exact OutE.one inferInstance rfl) OutL.nil)) rfl) ⟨rfl, rfl⟩
  rw [hd1] at h3
  cases hd2 : dayB left
  · rw [hd2] at h4
    repeat' (first | refine goH ?_ | refine goV ?_ | refine goG ?_ | (refine Ops.k_guard ?_; first | (refine Ops.guard_dec rfl rfl (fun hc => ?_) (fun hc => ?_) <;> try (exfalso; omega)) | refine Ops.guard_split rfl rfl (fun hc => ?_) (fun hc => ?_)) | refine goI ?_ | (refine Cw.k_cond ?_; first | (refine Cw.cond_dec rfl (fun hc => ?_) (fun hc => ?_) <;> try (exfalso; omega)) | refine Cw.cond_bool rfl (fun hc => ?_) (fun hc => ?_)) | (refine Ops.k_calla ?_; first | (refine Ops.k_callf 23 ?_; refine Ops.callV h1 (Evs.cons rfl Evs.nil) rfl ?_) | (refine Ops.k_callf 53 ?_; refine Ops.callV h2 (Evs.cons rfl Evs.nil) rfl ?_) | (refine Ops.k_callf 55 ?_; refine Ops.callV h3 (Evs.cons rfl Evs.nil) rfl ?_) | (refine Ops.k_callf 55 ?_; refine Ops.callV h4 (Evs.cons rfl Evs.nil) rfl ?_)) | fail)
    refine Fin.ret (Ent.take (by repeat' (first | exact Take.nil | refine Take.cons (by first | exact pick0 | exact pickS pick0 | exact pickS (pickS pick0) | exact pickS (pickS (pickS pick0)) | exact pickS (pickS (pickS (pickS pick0)))) ?_))) (Outs.many rfl (OutL.cons (by first | exact OutE.tmp rfl | exact OutE.agg inferInstance rfl rfl | exact OutE.one inferInstance rfl) (OutL.cons (by first | exact OutE.tmp rfl | exact OutE.agg inferInstance rfl rfl | exact OutE.one inferInstance rfl) OutL.nil)) rfl) ⟨rfl, rfl⟩
  rw [hd2] at h4
  have := d1 hd1
  have := d2 hd2
  repeat' (first | refine goH ?_ | refine goV ?_ | refine goG ?_ | (refine Ops.k_guard ?_; first | (refine Ops.guard_dec rfl rfl (fun hc => ?_) (fun hc => ?_) <;> try (exfalso; omega)) | refine Ops.guard_split rfl rfl (fun hc => ?_) (fun hc => ?_)) | refine goI ?_ | (refine Cw.k_cond ?_; first | (refine Cw.cond_dec rfl (fun hc => ?_) (fun hc => ?_) <;> try (exfalso; omega)) | refine Cw.cond_bool rfl (fun hc => ?_) (fun hc => ?_)) | (refine Ops.k_calla ?_; first | (refine Ops.k_callf 23 ?_; refine Ops.callV h1 (Evs.cons rfl Evs.nil) rfl ?_) | (refine Ops.k_callf 53 ?_; refine Ops.callV h2 (Evs.cons rfl Evs.nil) rfl ?_) | (refine Ops.k_callf 55 ?_; refine Ops.callV h3 (Evs.cons rfl Evs.nil) rfl ?_) | (refine Ops.k_callf 55 ?_; refine Ops.callV h4 (Evs.cons rfl Evs.nil) rfl ?_) | (refine Ops.k_callf 56 ?_; refine Ops.callV h5 (Evs.cons rfl (Evs.cons rfl (Evs.cons rfl Evs.nil))) rfl ?_)) | fail)
  refine Fin.ret (Ent.take (by repeat' (first | exact Take.nil | refine Take.cons (by first | exact pick0 | exact pickS pick0 | exact pickS (pickS pick0) | exact pickS (pickS (pickS pick0)) | exact pickS (pickS (pickS (pickS pick0)))) ?_))) (Outs.many rfl (OutL.cons (by first | exact OutE.tmp rfl | exact OutE.agg inferInstance rfl rfl | exact OutE.one inferInstance rfl) (OutL.cons (by first | exact OutE.tmp rfl | exact OutE.agg inferInstance rfl rfl | exact OutE.one inferInstance rfl) OutL.nil)) rfl) ⟨rfl, rfl⟩

def pickE (l : List Lot) (p : ByteArray) (many day left : Int) : Int :=
  if freshE p day left ≠ 0 then freshE p day left else if many < 0 ∨ 100000 < many then 1 else if freshI l p (day + left) < many then 8 else 0
theorem pickFault_fn (l : List Lot) (ho : LOk l) (p : ByteArray) (many day left : Int) : PFn Tryd.prog 57 [.lots l, .str p, .int many, .int day, .int left] (· = .int (pickE l p many day left)) := by
  have h2 := key_fn p
  have h3 := day_fn day
  have h4 := day_fn left
  have h6 := out_fn many 0 100000
  have h5 := fresh_fn l ho p (day + left)
  have d1 : dayB day = true → 0 ≤ day ∧ day ≤ 4000 := dayB_iff.1
  have d2 : dayB left = true → 0 ≤ left ∧ left ≤ 4000 := dayB_iff.1
  refine PFn.mk (Spec.body Tryd.func57 rfl rfl (Tryd.ntmps57) rfl fun w0 own0 M => ?_)
  unfold pickE freshE daysE
  rw [show outB many 0 100000 = decide (many < 0 ∨ 100000 < many) from rfl] at h6
  generalize freshI l p (day + left) = fi at *
  cases hkp : isKey p
  · rw [hkp] at h2
    repeat' (first | refine goH ?_ | refine goV ?_ | refine goG ?_ | (refine Ops.k_guard ?_; first | (refine Ops.guard_dec rfl rfl (fun hc => ?_) (fun hc => ?_) <;> try (exfalso; omega)) | refine Ops.guard_split rfl rfl (fun hc => ?_) (fun hc => ?_)) | refine goI ?_ | (refine Cw.k_cond ?_; first | (refine Cw.cond_dec rfl (fun hc => ?_) (fun hc => ?_) <;> try (exfalso; omega)) | refine Cw.cond_bool rfl (fun hc => ?_) (fun hc => ?_)) | (refine Ops.k_calla ?_; first | (refine Ops.k_callf 53 ?_; refine Ops.callV h2 (Evs.cons rfl Evs.nil) rfl ?_)) | fail)
    exact Fin.ret (Ent.take (by repeat' (first | exact Take.nil | refine Take.cons (by first | exact pick0 | exact pickS pick0 | exact pickS (pickS pick0) | exact pickS (pickS (pickS pick0)) | exact pickS (pickS (pickS (pickS pick0)))) ?_))) (Outs.one rfl rfl) ⟨rfl, rfl⟩
  rw [hkp] at h2
  cases hd1 : dayB day
  · rw [hd1] at h3
    repeat' (first | refine goH ?_ | refine goV ?_ | refine goG ?_ | (refine Ops.k_guard ?_; first | (refine Ops.guard_dec rfl rfl (fun hc => ?_) (fun hc => ?_) <;> try (exfalso; omega)) | refine Ops.guard_split rfl rfl (fun hc => ?_) (fun hc => ?_)) | refine goI ?_ | (refine Cw.k_cond ?_; first | (refine Cw.cond_dec rfl (fun hc => ?_) (fun hc => ?_) <;> try (exfalso; omega)) | refine Cw.cond_bool rfl (fun hc => ?_) (fun hc => ?_)) | (refine Ops.k_calla ?_; first | (refine Ops.k_callf 53 ?_; refine Ops.callV h2 (Evs.cons rfl Evs.nil) rfl ?_) | (refine Ops.k_callf 55 ?_; refine Ops.callV h3 (Evs.cons rfl Evs.nil) rfl ?_) | (refine Ops.k_callf 55 ?_; refine Ops.callV h4 (Evs.cons rfl Evs.nil) rfl ?_) | (refine Ops.k_callf 44 ?_; refine Ops.callV h6 (Evs.cons rfl (Evs.cons rfl (Evs.cons rfl Evs.nil))) rfl ?_)) | fail)
    all_goals exact Fin.ret (Ent.take (by repeat' (first | exact Take.nil | refine Take.cons (by first | exact pick0 | exact pickS pick0 | exact pickS (pickS pick0) | exact pickS (pickS (pickS pick0)) | exact pickS (pickS (pickS (pickS pick0)))) ?_))) (Outs.one rfl rfl) ⟨rfl, rfl⟩
  rw [hd1] at h3
  cases hd2 : dayB left
  · rw [hd2] at h4
    repeat' (first | refine goH ?_ | refine goV ?_ | refine goG ?_ | (refine Ops.k_guard ?_; first | (refine Ops.guard_dec rfl rfl (fun hc => ?_) (fun hc => ?_) <;> try (exfalso; omega)) | refine Ops.guard_split rfl rfl (fun hc => ?_) (fun hc => ?_)) | refine goI ?_ | (refine Cw.k_cond ?_; first | (refine Cw.cond_dec rfl (fun hc => ?_) (fun hc => ?_) <;> try (exfalso; omega)) | refine Cw.cond_bool rfl (fun hc => ?_) (fun hc => ?_)) | (refine Ops.k_calla ?_; first | (refine Ops.k_callf 53 ?_; refine Ops.callV h2 (Evs.cons rfl Evs.nil) rfl ?_) | (refine Ops.k_callf 55 ?_; refine Ops.callV h3 (Evs.cons rfl Evs.nil) rfl ?_) | (refine Ops.k_callf 55 ?_; refine Ops.callV h4 (Evs.cons rfl Evs.nil) rfl ?_) | (refine Ops.k_callf 44 ?_; refine Ops.callV h6 (Evs.cons rfl (Evs.cons rfl (Evs.cons rfl Evs.nil))) rfl ?_)) | fail)
    all_goals exact Fin.ret (Ent.take (by repeat' (first | exact Take.nil | refine Take.cons (by first | exact pick0 | exact pickS pick0 | exact pickS (pickS pick0) | exact pickS (pickS (pickS pick0)) | exact pickS (pickS (pickS (pickS pick0)))) ?_))) (Outs.one rfl rfl) ⟨rfl, rfl⟩
  rw [hd2] at h4
  have := d1 hd1
  have := d2 hd2
  by_cases hm : many < 0 ∨ 100000 < many
  · rw [decide_eq_true hm] at h6
    repeat' (first | refine goH ?_ | refine goV ?_ | refine goG ?_ | (refine Ops.k_guard ?_; first | (refine Ops.guard_dec rfl rfl (fun hc => ?_) (fun hc => ?_) <;> try (exfalso; omega)) | refine Ops.guard_split rfl rfl (fun hc => ?_) (fun hc => ?_)) | refine goI ?_ | (refine Cw.k_cond ?_; first | (refine Cw.cond_dec rfl (fun hc => ?_) (fun hc => ?_) <;> try (exfalso; omega)) | refine Cw.cond_bool rfl (fun hc => ?_) (fun hc => ?_)) | (refine Ops.k_calla ?_; first | (refine Ops.k_callf 53 ?_; refine Ops.callV h2 (Evs.cons rfl Evs.nil) rfl ?_) | (refine Ops.k_callf 55 ?_; refine Ops.callV h3 (Evs.cons rfl Evs.nil) rfl ?_) | (refine Ops.k_callf 55 ?_; refine Ops.callV h4 (Evs.cons rfl Evs.nil) rfl ?_) | (refine Ops.k_callf 44 ?_; refine Ops.callV h6 (Evs.cons rfl (Evs.cons rfl (Evs.cons rfl Evs.nil))) rfl ?_)) | fail)
    exact Fin.ret (Ent.take (by repeat' (first | exact Take.nil | refine Take.cons (by first | exact pick0 | exact pickS pick0 | exact pickS (pickS pick0) | exact pickS (pickS (pickS pick0)) | exact pickS (pickS (pickS (pickS pick0)))) ?_))) (Outs.one rfl rfl) ⟨rfl, congrArg Tr.int (by simp [hm])⟩
  rw [decide_eq_false hm] at h6
  repeat' (first | refine goH ?_ | refine goV ?_ | refine goG ?_ | (refine Ops.k_guard ?_; first | (refine Ops.guard_dec rfl rfl (fun hc => ?_) (fun hc => ?_) <;> try (exfalso; omega)) | refine Ops.guard_split rfl rfl (fun hc => ?_) (fun hc => ?_)) | refine goI ?_ | (refine Cw.k_cond ?_; first | (refine Cw.cond_dec rfl (fun hc => ?_) (fun hc => ?_) <;> try (exfalso; omega)) | refine Cw.cond_bool rfl (fun hc => ?_) (fun hc => ?_)) | (refine Ops.k_calla ?_; first | (refine Ops.k_callf 53 ?_; refine Ops.callV h2 (Evs.cons rfl Evs.nil) rfl ?_) | (refine Ops.k_callf 55 ?_; refine Ops.callV h3 (Evs.cons rfl Evs.nil) rfl ?_) | (refine Ops.k_callf 55 ?_; refine Ops.callV h4 (Evs.cons rfl Evs.nil) rfl ?_) | (refine Ops.k_callf 44 ?_; refine Ops.callV h6 (Evs.cons rfl (Evs.cons rfl (Evs.cons rfl Evs.nil))) rfl ?_) | (refine Ops.k_callf 56 ?_; refine Ops.callV h5 (Evs.cons rfl (Evs.cons rfl (Evs.cons rfl Evs.nil))) rfl ?_)) | fail)
  all_goals exact Fin.ret (Ent.take (by repeat' (first | exact Take.nil | refine Take.cons (by first | exact pick0 | exact pickS pick0 | exact pickS (pickS pick0) | exact pickS (pickS (pickS pick0)) | exact pickS (pickS (pickS (pickS pick0)))) ?_))) (Outs.one rfl rfl) ⟨rfl, congrArg Tr.int (by simp [hm, *])⟩
end Lg
