/- A part of the proof of a law of this seat: it adds no condition. By an AI agent. -/
import Derived.Test.YtbpikadicnacjaaGreatDoorKey
section
set_option linter.all false
set_option maxRecDepth 100000
set_option maxHeartbeats 4000000
namespace Lg
open Go Go.Proofs
def strLe (a b : ByteArray) : Bool := strLt a b || decide (a = b)
def prevB {α : Type} (p : α → α → Bool) (l : List α) : Nat → α → Bool
  | 0, _ => false
  | j + 1, x => match l[j]? with
    | none => false
    | some y => p x y
theorem idxFrom_find {α : Type} (p : α → Bool) : ∀ (l : List α) (k : Int), (l.find? p = none → idxFrom p l k = -1) ∧ (∀ x, l.find? p = some x → ∃ j : Nat, idxFrom p l k = k + j ∧ l[j]? = some x)
  | [], k => ⟨fun _ => rfl, fun x h => by simp at h⟩
  | y :: l, k => by
    obtain ⟨h1, h2⟩ := idxFrom_find p l (k + 1)
    unfold idxFrom
    by_cases hp : p y = true
    · rw [if_pos hp, List.find?_cons_of_pos hp]
      exact ⟨fun h => (by cases h), fun x h => ⟨0, by omega, by simpa using h⟩⟩
    · rw [if_neg hp, List.find?_cons_of_neg hp]
      refine ⟨h1, fun x hx => ?_⟩
      obtain ⟨j, h3, h4⟩ := h2 x hx
      exact ⟨j + 1, by omega, by simpa using h4⟩
end Lg
end
section
set_option linter.all false
set_option maxRecDepth 100000
set_option maxHeartbeats 8000000
namespace Lg
open Go Go.Proofs

/-! ### tiers -/
structure Tier where
  fr : Int
  rt : Int
def Tier.row (x : Tier) : List Tr := [.int x.fr, .int x.rt]
abbrev Tr.tiers (l : List Tier) : Tr := Tr.sl 2 (l.map Tier.row)
def tierE (l : List Tier) (k : Nat) : Int := match l[k]? with
  | none => 0
  | some x => if x.fr < 0 ∨ 1000000000 < x.fr then 1 else if prevB (fun x y => decide (x.fr ≤ y.fr)) l k x then 7 else if x.rt < 0 ∨ 10000 < x.rt then 1 else 0
def tiersE (l : List Tier) : Int := if l.length = 0 then 8 else if l.length > 20 then 2 else if l[0]?.any (fun x => decide (x.fr ≠ 0)) then 1 else firstE (tierE l) 0 l.length
theorem tiersE_ok {l : List Tier} (h : tiersE l = 0) : (1 ≤ l.length ∧ l.length ≤ 20) ∧ ∀ x ∈ l, 0 ≤ x.fr ∧ x.fr ≤ 1000000000 ∧ 0 ≤ x.rt ∧ x.rt ≤ 10000 := by
  unfold tiersE at h
  by_cases h1 : l.length = 0
  · rw [if_pos h1] at h; omega
  rw [if_neg h1] at h
  by_cases h2 : l.length > 20
  · rw [if_pos h2] at h; omega
  rw [if_neg h2] at h
  split at h
  · omega
  refine ⟨by omega, fun x hx => ?_⟩
  obtain ⟨j, hj, rfl⟩ := List.getElem_of_mem hx
  have := firstE_zero h j (by omega) (by omega)
  unfold tierE at this
  rw [List.getElem?_eq_getElem hj] at this
  simp only at this
  repeat' split at this
  all_goals omega
def cmF (s : Int) : List Tier → Int
  | [] => 0
  | [x] => max 0 (s - x.fr) * x.rt
  | x :: y :: r => max 0 (min s y.fr - x.fr) * x.rt + cmF s (y :: r)
theorem cmF_last {s : Int} {l : List Tier} {k : Nat} {x : Tier} (h : l[k]? = some x) (h2 : l.length ≤ k + 1) : cmF s (l.drop k) = max 0 (s - x.fr) * x.rt + cmF s (l.drop (k + 1)) := by
  rw [drop_at h, List.drop_of_length_le h2, cmF, cmF]
  omega
theorem cmF_next {s : Int} {l : List Tier} {k : Nat} {x y : Tier} (h : l[k]? = some x) (h2 : l[k + 1]? = some y) : cmF s (l.drop k) = max 0 (min s y.fr - x.fr) * x.rt + cmF s (l.drop (k + 1)) := by
  rw [drop_at h, drop_at h2, cmF]
theorem cm_bd {a b : Int} (ha : 0 ≤ a ∧ a ≤ 1000000000) (hb : 0 ≤ b ∧ b ≤ 10000) : 0 ≤ a * b ∧ a * b ≤ 10000000000000 := by
  constructor
  · exact Int.mul_nonneg ha.1 hb.1
  · have := Int.mul_le_mul ha.2 hb.2 hb.1 (by omega)
    omega
theorem checkTiers_fn (l : List Tier) (hl : l.length ≤ 1000000) : PFn Tryz.prog 8 [.tiers l] (· = .int (tiersE l)) := by
  have hL : (l.map Tier.row).length = l.length := List.length_map _
  refine PFn.mk (Spec.body Tryz.func8 rfl rfl (Tryz.ntmps8) rfl fun w0 own0 M => ?_)
  by_cases h0 : l.length = 0
  · rw [show tiersE l = 8 by unfold tiersE; rw [if_pos h0]]
    repeat' (first | refine goH ?_ | refine goV ?_ | refine goB (fun b => ?_) | refine goG ?_ | (refine Ops.k_guard ?_; first | (refine Ops.guard_dec rfl rfl (fun hc => ?_) (fun hc => ?_) <;> try (exfalso; omega)) | refine Ops.guard_split rfl rfl (fun hc => ?_) (fun hc => ?_)) | refine goI ?_ | (refine Cw.k_cond ?_; first | (refine Cw.cond_dec rfl (fun hc => ?_) (fun hc => ?_) <;> try (exfalso; omega)) | refine Cw.cond_bool rfl (fun hc => ?_) (fun hc => ?_)) | refine goR ?_ | refine goP ?_ | apply PSeq.cons | apply PSeq.yes rfl rfl rfl | exact goW | fail)
    exact Fin.ret (Ent.take goTk) (Outs.one rfl rfl) ⟨rfl, rfl⟩
  by_cases h20 : l.length > 20
  · rw [show tiersE l = 2 by unfold tiersE; rw [if_neg h0, if_pos h20]]
    repeat' (first | refine goH ?_ | refine goV ?_ | refine goB (fun b => ?_) | refine goG ?_ | (refine Ops.k_guard ?_; first | (refine Ops.guard_dec rfl rfl (fun hc => ?_) (fun hc => ?_) <;> try (exfalso; omega)) | refine Ops.guard_split rfl rfl (fun hc => ?_) (fun hc => ?_)) | refine goI ?_ | (refine Cw.k_cond ?_; first | (refine Cw.cond_dec rfl (fun hc => ?_) (fun hc => ?_) <;> try (exfalso; omega)) | refine Cw.cond_bool rfl (fun hc => ?_) (fun hc => ?_)) | refine goR ?_ | refine goP ?_ | apply PSeq.cons | apply PSeq.yes rfl rfl rfl | exact goW | fail)
    exact Fin.ret (Ent.take goTk) (Outs.one rfl rfl) ⟨rfl, rfl⟩
  obtain ⟨x0, hx0⟩ := at_lt (l := l) (k := 0) (by omega)
  have hrow0 : (l.map Tier.row)[(0 : Int).toNat]? = some [.int x0.fr, .int x0.rt] := rows_at hx0
  by_cases hf0 : x0.fr ≠ 0
  · rw [show tiersE l = 1 by unfold tiersE; rw [if_neg h0, if_neg h20, hx0]; simp [hf0]]
    repeat' (first | refine goH ?_ | refine goV ?_ | refine goB (fun b => ?_) | refine goG ?_ | (refine Ops.k_guard ?_; first | (refine Ops.guard_dec rfl rfl (fun hc => ?_) (fun hc => ?_) <;> try (exfalso; omega)) | refine Ops.guard_split rfl rfl (fun hc => ?_) (fun hc => ?_)) | refine goI ?_ | (refine Cw.k_cond ?_; first | (refine Cw.cond_dec rfl (fun hc => ?_) (fun hc => ?_) <;> try (exfalso; omega)) | refine Cw.cond_bool rfl (fun hc => ?_) (fun hc => ?_)) | refine goR ?_ | refine goP ?_ | apply PSeq.cons | apply PSeq.yes rfl rfl rfl | exact goW | fail)
    exact Fin.ret (Ent.take goTk) (Outs.one rfl rfl) ⟨rfl, rfl⟩
  have hV0 : tiersE l = firstE (tierE l) 0 (l.length - 0) := by unfold tiersE; rw [if_neg h0, if_neg h20, hx0]; simp [hf0]
  repeat' (first | refine goH ?_ | refine goV ?_ | refine goB (fun b => ?_) | refine goG ?_ | (refine Ops.k_guard ?_; first | (refine Ops.guard_dec rfl rfl (fun hc => ?_) (fun hc => ?_) <;> try (exfalso; omega)) | refine Ops.guard_split rfl rfl (fun hc => ?_) (fun hc => ?_)) | refine goI ?_ | (refine Cw.k_cond ?_; first | (refine Cw.cond_dec rfl (fun hc => ?_) (fun hc => ?_) <;> try (exfalso; omega)) | refine Cw.cond_bool rfl (fun hc => ?_) (fun hc => ?_)) | refine goR ?_ | refine goP ?_ | apply PSeq.cons | apply PSeq.yes rfl rfl rfl | exact goW | fail)
  refine Cw.loopI [(0, _), (19, _), (20, _)] _ (fun n e c => ∃ k : Nat, n = l.length - k ∧ (k ≤ l.length ∧ tiersE l = firstE (tierE l) k (l.length - k)) ∧ e = [(21, .int k)] ∧ c = []) ⟨_, _, _, (Ent.mkP goSub goPm), 0, rfl, ⟨by omega, hV0⟩, rfl, rfl⟩ ?_
  clear hrow0 hx0 hf0 hV0
  rintro _ _ _ ⟨k, rfl, ⟨hk, hV⟩, rfl, rfl⟩
  by_cases hkl : k < l.length
  · obtain ⟨x, hx⟩ := at_lt hkl
    have hrow : (l.map Tier.row)[k]? = some [.int x.fr, .int x.rt] := rows_at hx
    have o1 := out_fn x.fr 0 1000000000
    have o2 := out_fn x.rt 0 10000
    have bad : ∀ c : Int, tierE l k = c → c ≠ 0 → tiersE l = c := fun c he hc => hV.trans (firstE_bad hkl he hc)
    by_cases c1 : x.fr < 0 ∨ 1000000000 < x.fr
    · rw [bad 1 (by unfold tierE; rw [hx]; simp only; rw [if_pos c1]) (by decide)]
      rw [show outB x.fr 0 1000000000 = true by simp [outB]; omega] at o1
      repeat' (first | refine goH ?_ | refine goV ?_ | refine goB (fun b => ?_) | refine goG ?_ | (refine Ops.k_guard ?_; first | (refine Ops.guard_dec rfl rfl (fun hc => ?_) (fun hc => ?_) <;> try (exfalso; omega)) | refine Ops.guard_split rfl rfl (fun hc => ?_) (fun hc => ?_)) | refine goI ?_ | (refine Cw.k_cond ?_; first | (refine Cw.cond_dec rfl (fun hc => ?_) (fun hc => ?_) <;> try (exfalso; omega)) | refine Cw.cond_bool rfl (fun hc => ?_) (fun hc => ?_)) | (refine Ops.k_calla ?_; first | (refine Ops.k_callf 40 ?_; refine Ops.callV o1 (Evs.cons rfl (Evs.cons rfl (Evs.cons rfl Evs.nil))) rfl ?_)) | (apply OpW.k_call; first | (apply OpW.k_callf 40; exact OpW.callV o1 (Evs.cons rfl (Evs.cons rfl (Evs.cons rfl Evs.nil))))) | refine goR ?_ | refine goP ?_ | apply PSeq.cons | apply PSeq.yes rfl rfl rfl | exact goW | fail)
      all_goals first | exact Fin.ret (Ent.take goTk) (Outs.one rfl rfl) ⟨rfl, rfl⟩ | (exfalso; omega)
    rw [show outB x.fr 0 1000000000 = false by simp [outB]; omega] at o1
    have hE : tierE l k = if prevB (fun x y => decide (x.fr ≤ y.fr)) l k x then 7 else if x.rt < 0 ∨ 10000 < x.rt then 1 else 0 := by unfold tierE; rw [hx]; simp only; rw [if_neg c1]
    have main : ∀ (hE2 : tierE l k = if x.rt < 0 ∨ 10000 < x.rt then 1 else 0), (x.rt < 0 ∨ 10000 < x.rt → tiersE l = 1) ∧ (¬ (x.rt < 0 ∨ 10000 < x.rt) → tiersE l = firstE (tierE l) (k + 1) (l.length - (k + 1))) := by
      intro hE2
      refine ⟨fun h => bad 1 (by rw [hE2, if_pos h]) (by decide), fun h => hV.trans (firstE_ok hkl (by rw [hE2, if_neg h]))⟩
    cases k with
    | zero =>
      obtain ⟨m1, m2⟩ := main (by rw [hE]; simp [prevB])
      by_cases c3 : x.rt < 0 ∨ 10000 < x.rt
      · rw [m1 c3]
        rw [show outB x.rt 0 10000 = true by simp [outB]; omega] at o2
        repeat' (first | refine goH ?_ | refine goV ?_ | refine goB (fun b => ?_) | refine goG ?_ | (refine Ops.k_guard ?_; first | (refine Ops.guard_dec rfl rfl (fun hc => ?_) (fun hc => ?_) <;> try (exfalso; omega)) | refine Ops.guard_split rfl rfl (fun hc => ?_) (fun hc => ?_)) | refine goI ?_ | (refine Cw.k_cond ?_; first | (refine Cw.cond_dec rfl (fun hc => ?_) (fun hc => ?_) <;> try (exfalso; omega)) | refine Cw.cond_bool rfl (fun hc => ?_) (fun hc => ?_)) | (refine Ops.k_calla ?_; first | (refine Ops.k_callf 40 ?_; refine Ops.callV o1 (Evs.cons rfl (Evs.cons rfl (Evs.cons rfl Evs.nil))) rfl ?_) | (refine Ops.k_callf 40 ?_; refine Ops.callV o2 (Evs.cons rfl (Evs.cons rfl (Evs.cons rfl Evs.nil))) rfl ?_)) | (apply OpW.k_call; first | (apply OpW.k_callf 40; exact OpW.callV o1 (Evs.cons rfl (Evs.cons rfl (Evs.cons rfl Evs.nil)))) | (apply OpW.k_callf 40; exact OpW.callV o2 (Evs.cons rfl (Evs.cons rfl (Evs.cons rfl Evs.nil))))) | refine goR ?_ | refine goP ?_ | apply PSeq.cons | apply PSeq.yes rfl rfl rfl | exact goW | fail)
        all_goals first | exact Fin.ret (Ent.take goTk) (Outs.one rfl rfl) ⟨rfl, rfl⟩ | (exfalso; omega)
      · have hN := m2 c3
        rw [show outB x.rt 0 10000 = false by simp [outB]; omega] at o2
        repeat' (first | refine goH ?_ | refine goV ?_ | refine goB (fun b => ?_) | refine goG ?_ | (refine Ops.k_guard ?_; first | (refine Ops.guard_dec rfl rfl (fun hc => ?_) (fun hc => ?_) <;> try (exfalso; omega)) | refine Ops.guard_split rfl rfl (fun hc => ?_) (fun hc => ?_)) | refine goI ?_ | (refine Cw.k_cond ?_; first | (refine Cw.cond_dec rfl (fun hc => ?_) (fun hc => ?_) <;> try (exfalso; omega)) | refine Cw.cond_bool rfl (fun hc => ?_) (fun hc => ?_)) | (refine Ops.k_calla ?_; first | (refine Ops.k_callf 40 ?_; refine Ops.callV o1 (Evs.cons rfl (Evs.cons rfl (Evs.cons rfl Evs.nil))) rfl ?_) | (refine Ops.k_callf 40 ?_; refine Ops.callV o2 (Evs.cons rfl (Evs.cons rfl (Evs.cons rfl Evs.nil))) rfl ?_)) | (apply OpW.k_call; first | (apply OpW.k_callf 40; exact OpW.callV o1 (Evs.cons rfl (Evs.cons rfl (Evs.cons rfl Evs.nil)))) | (apply OpW.k_callf 40; exact OpW.callV o2 (Evs.cons rfl (Evs.cons rfl (Evs.cons rfl Evs.nil))))) | refine goR ?_ | refine goP ?_ | apply PSeq.cons | apply PSeq.yes rfl rfl rfl | exact goW | fail)
        all_goals first | exact ⟨_, _, _, (Ent.mk goSub goTk), ⟨1, rfl, ⟨by omega, hN⟩, rfl, rfl⟩, by omega⟩ | (exfalso; omega)
    | succ j =>
      obtain ⟨y, hy⟩ := at_lt (l := l) (k := j) (by omega)
      have hrow2 : (l.map Tier.row)[(((j + 1 : Nat) : Int) - 1).toNat]? = some [.int y.fr, .int y.rt] := by rw [show (((j + 1 : Nat) : Int) - 1).toNat = j by omega]; exact rows_at hy
      by_cases c2 : x.fr ≤ y.fr
      · rw [bad 7 (by rw [hE]; simp [prevB, hy, c2]) (by decide)]
        repeat' (first | refine goH ?_ | refine goV ?_ | refine goB (fun b => ?_) | refine goG ?_ | (refine Ops.k_guard ?_; first | (refine Ops.guard_dec rfl rfl (fun hc => ?_) (fun hc => ?_) <;> try (exfalso; omega)) | refine Ops.guard_split rfl rfl (fun hc => ?_) (fun hc => ?_)) | refine goI ?_ | (refine Cw.k_cond ?_; first | (refine Cw.cond_dec rfl (fun hc => ?_) (fun hc => ?_) <;> try (exfalso; omega)) | refine Cw.cond_bool rfl (fun hc => ?_) (fun hc => ?_)) | (refine Ops.k_calla ?_; first | (refine Ops.k_callf 40 ?_; refine Ops.callV o1 (Evs.cons rfl (Evs.cons rfl (Evs.cons rfl Evs.nil))) rfl ?_)) | (apply OpW.k_call; first | (apply OpW.k_callf 40; exact OpW.callV o1 (Evs.cons rfl (Evs.cons rfl (Evs.cons rfl Evs.nil))))) | refine goR ?_ | refine goP ?_ | apply PSeq.cons | apply PSeq.yes rfl rfl rfl | exact goW | fail)
        all_goals first | exact Fin.ret (Ent.take goTk) (Outs.one rfl rfl) ⟨rfl, rfl⟩ | (exfalso; omega)
      obtain ⟨m1, m2⟩ := main (by rw [hE]; simp [prevB, hy, c2])
      by_cases c3 : x.rt < 0 ∨ 10000 < x.rt
      · rw [m1 c3]
        rw [show outB x.rt 0 10000 = true by simp [outB]; omega] at o2
        repeat' (first | refine goH ?_ | refine goV ?_ | refine goB (fun b => ?_) | refine goG ?_ | (refine Ops.k_guard ?_; first | (refine Ops.guard_dec rfl rfl (fun hc => ?_) (fun hc => ?_) <;> try (exfalso; omega)) | refine Ops.guard_split rfl rfl (fun hc => ?_) (fun hc => ?_)) | refine goI ?_ | (refine Cw.k_cond ?_; first | (refine Cw.cond_dec rfl (fun hc => ?_) (fun hc => ?_) <;> try (exfalso; omega)) | refine Cw.cond_bool rfl (fun hc => ?_) (fun hc => ?_)) | (refine Ops.k_calla ?_; first | (refine Ops.k_callf 40 ?_; refine Ops.callV o1 (Evs.cons rfl (Evs.cons rfl (Evs.cons rfl Evs.nil))) rfl ?_) | (refine Ops.k_callf 40 ?_; refine Ops.callV o2 (Evs.cons rfl (Evs.cons rfl (Evs.cons rfl Evs.nil))) rfl ?_)) | (apply OpW.k_call; first | (apply OpW.k_callf 40; exact OpW.callV o1 (Evs.cons rfl (Evs.cons rfl (Evs.cons rfl Evs.nil)))) | (apply OpW.k_callf 40; exact OpW.callV o2 (Evs.cons rfl (Evs.cons rfl (Evs.cons rfl Evs.nil))))) | refine goR ?_ | refine goP ?_ | apply PSeq.cons | apply PSeq.yes rfl rfl rfl | exact goW | fail)
        all_goals first | exact Fin.ret (Ent.take goTk) (Outs.one rfl rfl) ⟨rfl, rfl⟩ | (exfalso; omega)
      · have hN := m2 c3
        rw [show outB x.rt 0 10000 = false by simp [outB]; omega] at o2
        repeat' (first | refine goH ?_ | refine goV ?_ | refine goB (fun b => ?_) | refine goG ?_ | (refine Ops.k_guard ?_; first | (refine Ops.guard_dec rfl rfl (fun hc => ?_) (fun hc => ?_) <;> try (exfalso; omega)) | refine Ops.guard_split rfl rfl (fun hc => ?_) (fun hc => ?_)) | refine goI ?_ | (refine Cw.k_cond ?_; first | (refine Cw.cond_dec rfl (fun hc => ?_) (fun hc => ?_) <;> try (exfalso; omega)) | refine Cw.cond_bool rfl (fun hc => ?_) (fun hc => ?_)) | (refine Ops.k_calla ?_; first | (refine Ops.k_callf 40 ?_; refine Ops.callV o1 (Evs.cons rfl (Evs.cons rfl (Evs.cons rfl Evs.nil))) rfl ?_) | (refine Ops.k_callf 40 ?_; refine Ops.callV o2 (Evs.cons rfl (Evs.cons rfl (Evs.cons rfl Evs.nil))) rfl ?_)) | (apply OpW.k_call; first | (apply OpW.k_callf 40; exact OpW.callV o1 (Evs.cons rfl (Evs.cons rfl (Evs.cons rfl Evs.nil)))) | (apply OpW.k_callf 40; exact OpW.callV o2 (Evs.cons rfl (Evs.cons rfl (Evs.cons rfl Evs.nil))))) | refine goR ?_ | refine goP ?_ | apply PSeq.cons | apply PSeq.yes rfl rfl rfl | exact goW | fail)
        all_goals first | exact ⟨_, _, _, (Ent.mk goSub goTk), ⟨_, rfl, ⟨by omega, hN⟩, rfl, rfl⟩, by omega⟩ | (exfalso; omega)
  · rw [hV, firstE_end hkl]
    repeat' (first | refine goH ?_ | refine goV ?_ | refine goB (fun b => ?_) | refine goG ?_ | (refine Ops.k_guard ?_; first | (refine Ops.guard_dec rfl rfl (fun hc => ?_) (fun hc => ?_) <;> try (exfalso; omega)) | refine Ops.guard_split rfl rfl (fun hc => ?_) (fun hc => ?_)) | refine goI ?_ | (refine Cw.k_cond ?_; first | (refine Cw.cond_dec rfl (fun hc => ?_) (fun hc => ?_) <;> try (exfalso; omega)) | refine Cw.cond_bool rfl (fun hc => ?_) (fun hc => ?_)) | refine goR ?_ | refine goP ?_ | apply PSeq.cons | apply PSeq.yes rfl rfl rfl | exact goW | fail)
    exact Fin.ret (Ent.take goTk) (Outs.one rfl rfl) ⟨rfl, rfl⟩
theorem tiersFault_fn (l : List Tier) (hl : l.length ≤ 1000000) : PFn Tryz.prog 7 [.tiers l] (· = .int (tiersE l)) := by
  have hL : (l.map Tier.row).length = l.length := List.length_map _
  refine PFn.mk (Spec.body Tryz.func7 rfl rfl (Tryz.ntmps7) rfl fun w0 own0 M => ?_)
  by_cases h0 : l.length = 0
  · rw [show tiersE l = 8 by unfold tiersE; rw [if_pos h0]]
    repeat' (first | refine goH ?_ | refine goV ?_ | refine goB (fun b => ?_) | refine goG ?_ | (refine Ops.k_guard ?_; first | (refine Ops.guard_dec rfl rfl (fun hc => ?_) (fun hc => ?_) <;> try (exfalso; omega)) | refine Ops.guard_split rfl rfl (fun hc => ?_) (fun hc => ?_)) | refine goI ?_ | (refine Cw.k_cond ?_; first | (refine Cw.cond_dec rfl (fun hc => ?_) (fun hc => ?_) <;> try (exfalso; omega)) | refine Cw.cond_bool rfl (fun hc => ?_) (fun hc => ?_)) | refine goR ?_ | refine goP ?_ | apply PSeq.cons | apply PSeq.yes rfl rfl rfl | exact goW | fail)
    exact Fin.ret (Ent.take goTk) (Outs.one rfl rfl) ⟨rfl, rfl⟩
  by_cases h20 : l.length > 20
  · rw [show tiersE l = 2 by unfold tiersE; rw [if_neg h0, if_pos h20]]
    repeat' (first | refine goH ?_ | refine goV ?_ | refine goB (fun b => ?_) | refine goG ?_ | (refine Ops.k_guard ?_; first | (refine Ops.guard_dec rfl rfl (fun hc => ?_) (fun hc => ?_) <;> try (exfalso; omega)) | refine Ops.guard_split rfl rfl (fun hc => ?_) (fun hc => ?_)) | refine goI ?_ | (refine Cw.k_cond ?_; first | (refine Cw.cond_dec rfl (fun hc => ?_) (fun hc => ?_) <;> try (exfalso; omega)) | refine Cw.cond_bool rfl (fun hc => ?_) (fun hc => ?_)) | refine goR ?_ | refine goP ?_ | apply PSeq.cons | apply PSeq.yes rfl rfl rfl | exact goW | fail)
    exact Fin.ret (Ent.take goTk) (Outs.one rfl rfl) ⟨rfl, rfl⟩
  obtain ⟨x0, hx0⟩ := at_lt (l := l) (k := 0) (by omega)
  have hrow0 : (l.map Tier.row)[(0 : Int).toNat]? = some [.int x0.fr, .int x0.rt] := rows_at hx0
  by_cases hf0 : x0.fr ≠ 0
  · rw [show tiersE l = 1 by unfold tiersE; rw [if_neg h0, if_neg h20, hx0]; simp [hf0]]
    repeat' (first | refine goH ?_ | refine goV ?_ | refine goB (fun b => ?_) | refine goG ?_ | (refine Ops.k_guard ?_; first | (refine Ops.guard_dec rfl rfl (fun hc => ?_) (fun hc => ?_) <;> try (exfalso; omega)) | refine Ops.guard_split rfl rfl (fun hc => ?_) (fun hc => ?_)) | refine goI ?_ | (refine Cw.k_cond ?_; first | (refine Cw.cond_dec rfl (fun hc => ?_) (fun hc => ?_) <;> try (exfalso; omega)) | refine Cw.cond_bool rfl (fun hc => ?_) (fun hc => ?_)) | refine goR ?_ | refine goP ?_ | apply PSeq.cons | apply PSeq.yes rfl rfl rfl | exact goW | fail)
    exact Fin.ret (Ent.take goTk) (Outs.one rfl rfl) ⟨rfl, rfl⟩
  have hV0 : tiersE l = firstE (tierE l) 0 (l.length - 0) := by unfold tiersE; rw [if_neg h0, if_neg h20, hx0]; simp [hf0]
  repeat' (first | refine goH ?_ | refine goV ?_ | refine goB (fun b => ?_) | refine goG ?_ | (refine Ops.k_guard ?_; first | (refine Ops.guard_dec rfl rfl (fun hc => ?_) (fun hc => ?_) <;> try (exfalso; omega)) | refine Ops.guard_split rfl rfl (fun hc => ?_) (fun hc => ?_)) | refine goI ?_ | (refine Cw.k_cond ?_; first | (refine Cw.cond_dec rfl (fun hc => ?_) (fun hc => ?_) <;> try (exfalso; omega)) | refine Cw.cond_bool rfl (fun hc => ?_) (fun hc => ?_)) | refine goR ?_ | refine goP ?_ | apply PSeq.cons | apply PSeq.yes rfl rfl rfl | exact goW | fail)
  refine Cw.loopI [(0, _), (19, _), (20, _)] _ (fun n e c => ∃ k : Nat, n = l.length - k ∧ (k ≤ l.length ∧ tiersE l = firstE (tierE l) k (l.length - k)) ∧ e = [(21, .int k)] ∧ c = []) ⟨_, _, _, (Ent.mkP goSub goPm), 0, rfl, ⟨by omega, hV0⟩, rfl, rfl⟩ ?_
  clear hrow0 hx0 hf0 hV0
  rintro _ _ _ ⟨k, rfl, ⟨hk, hV⟩, rfl, rfl⟩
  by_cases hkl : k < l.length
  · obtain ⟨x, hx⟩ := at_lt hkl
    have hrow : (l.map Tier.row)[k]? = some [.int x.fr, .int x.rt] := rows_at hx
    have o1 := out_fn x.fr 0 1000000000
    have o2 := out_fn x.rt 0 10000
    have bad : ∀ c : Int, tierE l k = c → c ≠ 0 → tiersE l = c := fun c he hc => hV.trans (firstE_bad hkl he hc)
    by_cases c1 : x.fr < 0 ∨ 1000000000 < x.fr
    · rw [bad 1 (by unfold tierE; rw [hx]; simp only; rw [if_pos c1]) (by decide)]
      rw [show outB x.fr 0 1000000000 = true by simp [outB]; omega] at o1
      repeat' (first | refine goH ?_ | refine goV ?_ | refine goB (fun b => ?_) | refine goG ?_ | (refine Ops.k_guard ?_; first | (refine Ops.guard_dec rfl rfl (fun hc => ?_) (fun hc => ?_) <;> try (exfalso; omega)) | refine Ops.guard_split rfl rfl (fun hc => ?_) (fun hc => ?_)) | refine goI ?_ | (refine Cw.k_cond ?_; first | (refine Cw.cond_dec rfl (fun hc => ?_) (fun hc => ?_) <;> try (exfalso; omega)) | refine Cw.cond_bool rfl (fun hc => ?_) (fun hc => ?_)) | (refine Ops.k_calla ?_; first | (refine Ops.k_callf 40 ?_; refine Ops.callV o1 (Evs.cons rfl (Evs.cons rfl (Evs.cons rfl Evs.nil))) rfl ?_)) | (apply OpW.k_call; first | (apply OpW.k_callf 40; exact OpW.callV o1 (Evs.cons rfl (Evs.cons rfl (Evs.cons rfl Evs.nil))))) | refine goR ?_ | refine goP ?_ | apply PSeq.cons | apply PSeq.yes rfl rfl rfl | exact goW | fail)
      all_goals first | exact Fin.ret (Ent.take goTk) (Outs.one rfl rfl) ⟨rfl, rfl⟩ | (exfalso; omega)
    rw [show outB x.fr 0 1000000000 = false by simp [outB]; omega] at o1
    have hE : tierE l k = if prevB (fun x y => decide (x.fr ≤ y.fr)) l k x then 7 else if x.rt < 0 ∨ 10000 < x.rt then 1 else 0 := by unfold tierE; rw [hx]; simp only; rw [if_neg c1]
    have main : ∀ (hE2 : tierE l k = if x.rt < 0 ∨ 10000 < x.rt then 1 else 0), (x.rt < 0 ∨ 10000 < x.rt → tiersE l = 1) ∧ (¬ (x.rt < 0 ∨ 10000 < x.rt) → tiersE l = firstE (tierE l) (k + 1) (l.length - (k + 1))) := by
      intro hE2
      refine ⟨fun h => bad 1 (by rw [hE2, if_pos h]) (by decide), fun h => hV.trans (firstE_ok hkl (by rw [hE2, if_neg h]))⟩
    cases k with
    | zero =>
      obtain ⟨m1, m2⟩ := main (by rw [hE]; simp [prevB])
      by_cases c3 : x.rt < 0 ∨ 10000 < x.rt
      · rw [m1 c3]
        rw [show outB x.rt 0 10000 = true by simp [outB]; omega] at o2
        repeat' (first | refine goH ?_ | refine goV ?_ | refine goB (fun b => ?_) | refine goG ?_ | (refine Ops.k_guard ?_; first | (refine Ops.guard_dec rfl rfl (fun hc => ?_) (fun hc => ?_) <;> try (exfalso; omega)) | refine Ops.guard_split rfl rfl (fun hc => ?_) (fun hc => ?_)) | refine goI ?_ | (refine Cw.k_cond ?_; first | (refine Cw.cond_dec rfl (fun hc => ?_) (fun hc => ?_) <;> try (exfalso; omega)) | refine Cw.cond_bool rfl (fun hc => ?_) (fun hc => ?_)) | (refine Ops.k_calla ?_; first | (refine Ops.k_callf 40 ?_; refine Ops.callV o1 (Evs.cons rfl (Evs.cons rfl (Evs.cons rfl Evs.nil))) rfl ?_) | (refine Ops.k_callf 40 ?_; refine Ops.callV o2 (Evs.cons rfl (Evs.cons rfl (Evs.cons rfl Evs.nil))) rfl ?_)) | (apply OpW.k_call; first | (apply OpW.k_callf 40; exact OpW.callV o1 (Evs.cons rfl (Evs.cons rfl (Evs.cons rfl Evs.nil)))) | (apply OpW.k_callf 40; exact OpW.callV o2 (Evs.cons rfl (Evs.cons rfl (Evs.cons rfl Evs.nil))))) | refine goR ?_ | refine goP ?_ | apply PSeq.cons | apply PSeq.yes rfl rfl rfl | exact goW | fail)
        all_goals first | exact Fin.ret (Ent.take goTk) (Outs.one rfl rfl) ⟨rfl, rfl⟩ | (exfalso; omega)
      · have hN := m2 c3
        rw [show outB x.rt 0 10000 = false by simp [outB]; omega] at o2
        repeat' (first | refine goH ?_ | refine goV ?_ | refine goB (fun b => ?_) | refine goG ?_ | (refine Ops.k_guard ?_; first | (refine Ops.guard_dec rfl rfl (fun hc => ?_) (fun hc => ?_) <;> try (exfalso; omega)) | refine Ops.guard_split rfl rfl (fun hc => ?_) (fun hc => ?_)) | refine goI ?_ | (refine Cw.k_cond ?_; first | (refine Cw.cond_dec rfl (fun hc => ?_) (fun hc => ?_) <;> try (exfalso; omega)) | refine Cw.cond_bool rfl (fun hc => ?_) (fun hc => ?_)) | (refine Ops.k_calla ?_; first | (refine Ops.k_callf 40 ?_; refine Ops.callV o1 (Evs.cons rfl (Evs.cons rfl (Evs.cons rfl Evs.nil))) rfl ?_) | (refine Ops.k_callf 40 ?_; refine Ops.callV o2 (Evs.cons rfl (Evs.cons rfl (Evs.cons rfl Evs.nil))) rfl ?_)) | (apply OpW.k_call; first | (apply OpW.k_callf 40; exact OpW.callV o1 (Evs.cons rfl (Evs.cons rfl (Evs.cons rfl Evs.nil)))) | (apply OpW.k_callf 40; exact OpW.callV o2 (Evs.cons rfl (Evs.cons rfl (Evs.cons rfl Evs.nil))))) | refine goR ?_ | refine goP ?_ | apply PSeq.cons | apply PSeq.yes rfl rfl rfl | exact goW | fail)
        all_goals first | exact ⟨_, _, _, (Ent.mk goSub goTk), ⟨1, rfl, ⟨by omega, hN⟩, rfl, rfl⟩, by omega⟩ | (exfalso; omega)
    | succ j =>
      obtain ⟨y, hy⟩ := at_lt (l := l) (k := j) (by omega)
      have hrow2 : (l.map Tier.row)[(((j + 1 : Nat) : Int) - 1).toNat]? = some [.int y.fr, .int y.rt] := by rw [show (((j + 1 : Nat) : Int) - 1).toNat = j by omega]; exact rows_at hy
      by_cases c2 : x.fr ≤ y.fr
      · rw [bad 7 (by rw [hE]; simp [prevB, hy, c2]) (by decide)]
        repeat' (first | refine goH ?_ | refine goV ?_ | refine goB (fun b => ?_) | refine goG ?_ | (refine Ops.k_guard ?_; first | (refine Ops.guard_dec rfl rfl (fun hc => ?_) (fun hc => ?_) <;> try (exfalso; omega)) | refine Ops.guard_split rfl rfl (fun hc => ?_) (fun hc => ?_)) | refine goI ?_ | (refine Cw.k_cond ?_; first | (refine Cw.cond_dec rfl (fun hc => ?_) (fun hc => ?_) <;> try (exfalso; omega)) | refine Cw.cond_bool rfl (fun hc => ?_) (fun hc => ?_)) | (refine Ops.k_calla ?_; first | (refine Ops.k_callf 40 ?_; refine Ops.callV o1 (Evs.cons rfl (Evs.cons rfl (Evs.cons rfl Evs.nil))) rfl ?_)) | (apply OpW.k_call; first | (apply OpW.k_callf 40; exact OpW.callV o1 (Evs.cons rfl (Evs.cons rfl (Evs.cons rfl Evs.nil))))) | refine goR ?_ | refine goP ?_ | apply PSeq.cons | apply PSeq.yes rfl rfl rfl | exact goW | fail)
        all_goals first | exact Fin.ret (Ent.take goTk) (Outs.one rfl rfl) ⟨rfl, rfl⟩ | (exfalso; omega)
      obtain ⟨m1, m2⟩ := main (by rw [hE]; simp [prevB, hy, c2])
      by_cases c3 : x.rt < 0 ∨ 10000 < x.rt
      · rw [m1 c3]
        rw [show outB x.rt 0 10000 = true by simp [outB]; omega] at o2
        repeat' (first | refine goH ?_ | refine goV ?_ | refine goB (fun b => ?_) | refine goG ?_ | (refine Ops.k_guard ?_; first | (refine Ops.guard_dec rfl rfl (fun hc => ?_) (fun hc => ?_) <;> try (exfalso; omega)) | refine Ops.guard_split rfl rfl (fun hc => ?_) (fun hc => ?_)) | refine goI ?_ | (refine Cw.k_cond ?_; first | (refine Cw.cond_dec rfl (fun hc => ?_) (fun hc => ?_) <;> try (exfalso; omega)) | refine Cw.cond_bool rfl (fun hc => ?_) (fun hc => ?_)) | (refine Ops.k_calla ?_; first | (refine Ops.k_callf 40 ?_; refine Ops.callV o1 (Evs.cons rfl (Evs.cons rfl (Evs.cons rfl Evs.nil))) rfl ?_) | (refine Ops.k_callf 40 ?_; refine Ops.callV o2 (Evs.cons rfl (Evs.cons rfl (Evs.cons rfl Evs.nil))) rfl ?_)) | (apply OpW.k_call; first | (apply OpW.k_callf 40; exact OpW.callV o1 (Evs.cons rfl (Evs.cons rfl (Evs.cons rfl Evs.nil)))) | (apply OpW.k_callf 40; exact OpW.callV o2 (Evs.cons rfl (Evs.cons rfl (Evs.cons rfl Evs.nil))))) | refine goR ?_ | refine goP ?_ | apply PSeq.cons | apply PSeq.yes rfl rfl rfl | exact goW | fail)
        all_goals first | exact Fin.ret (Ent.take goTk) (Outs.one rfl rfl) ⟨rfl, rfl⟩ | (exfalso; omega)
      · have hN := m2 c3
        rw [show outB x.rt 0 10000 = false by simp [outB]; omega] at o2
        repeat' (first | refine goH ?_ | refine goV ?_ | refine goB (fun b => ?_) | refine goG ?_ | (refine Ops.k_guard ?_; first | (refine Ops.guard_dec rfl rfl (fun hc => ?_) (fun hc => ?_) <;> try (exfalso; omega)) | refine Ops.guard_split rfl rfl (fun hc => ?_) (fun hc => ?_)) | refine goI ?_ | (refine Cw.k_cond ?_; first | (refine Cw.cond_dec rfl (fun hc => ?_) (fun hc => ?_) <;> try (exfalso; omega)) | refine Cw.cond_bool rfl (fun hc => ?_) (fun hc => ?_)) | (refine Ops.k_calla ?_; first | (refine Ops.k_callf 40 ?_; refine Ops.callV o1 (Evs.cons rfl (Evs.cons rfl (Evs.cons rfl Evs.nil))) rfl ?_) | (refine Ops.k_callf 40 ?_; refine Ops.callV o2 (Evs.cons rfl (Evs.cons rfl (Evs.cons rfl Evs.nil))) rfl ?_)) | (apply OpW.k_call; first | (apply OpW.k_callf 40; exact OpW.callV o1 (Evs.cons rfl (Evs.cons rfl (Evs.cons rfl Evs.nil)))) | (apply OpW.k_callf 40; exact OpW.callV o2 (Evs.cons rfl (Evs.cons rfl (Evs.cons rfl Evs.nil))))) | refine goR ?_ | refine goP ?_ | apply PSeq.cons | apply PSeq.yes rfl rfl rfl | exact goW | fail)
        all_goals first | exact ⟨_, _, _, (Ent.mk goSub goTk), ⟨_, rfl, ⟨by omega, hN⟩, rfl, rfl⟩, by omega⟩ | (exfalso; omega)
  · rw [hV, firstE_end hkl]
    repeat' (first | refine goH ?_ | refine goV ?_ | refine goB (fun b => ?_) | refine goG ?_ | (refine Ops.k_guard ?_; first | (refine Ops.guard_dec rfl rfl (fun hc => ?_) (fun hc => ?_) <;> try (exfalso; omega)) | refine Ops.guard_split rfl rfl (fun hc => ?_) (fun hc => ?_)) | refine goI ?_ | (refine Cw.k_cond ?_; first | (refine Cw.cond_dec rfl (fun hc => ?_) (fun hc => ?_) <;> try (exfalso; omega)) | refine Cw.cond_bool rfl (fun hc => ?_) (fun hc => ?_)) | refine goR ?_ | refine goP ?_ | apply PSeq.cons | apply PSeq.yes rfl rfl rfl | exact goW | fail)
    exact Fin.ret (Ent.take goTk) (Outs.one rfl rfl) ⟨rfl, rfl⟩
def comT (l : List Tier) (s : Int) : Tr := if s < 0 ∨ 1000000000 < s then .tup [.int 0, .int 1] else .tup [.int (evn (cmF s l) 10000), .int 0]
end Lg
end
section
set_option linter.all false
set_option maxRecDepth 100000
set_option maxHeartbeats 8000000
namespace Lg
open Go Go.Proofs

theorem cmF_bd {s : Int} (hs : 0 ≤ s ∧ s ≤ 1000000000) : ∀ {l : List Tier}, (∀ x ∈ l, 0 ≤ x.fr ∧ x.fr ≤ 1000000000 ∧ 0 ≤ x.rt ∧ x.rt ≤ 10000) → 0 ≤ cmF s l ∧ cmF s l ≤ l.length * 10000000000000
  | [], _ => by simp [cmF]
  | [x], h => by
    have hx := h x (by simp)
    have := cm_bd (a := max 0 (s - x.fr)) (b := x.rt) (by omega) (by omega)
    rw [cmF]
    simp
    omega
  | x :: y :: r, h => by
    have hx := h x (by simp)
    have := cm_bd (a := max 0 (min s y.fr - x.fr)) (b := x.rt) (by omega) (by omega)
    have ih := cmF_bd hs (l := y :: r) (fun z hz => h z (by simp [hz]))
    rw [cmF]
    simp only [List.length_cons] at ih ⊢
    omega
theorem max_sym (a b : Int) : max a b = max b a := Int.max_comm a b
theorem commission_fnL (l : List Tier) (s : Int) (hl : l.length ≤ 20) (hs : 0 ≤ s ∧ s ≤ 1000000000) (hb : ∀ x ∈ l, 0 ≤ x.fr ∧ x.fr ≤ 1000000000 ∧ 0 ≤ x.rt ∧ x.rt ≤ 10000) (k1 : "D" = "D" → PFn Tryz.prog 8 [.tiers l] (· = .int 0)) : PFn Tryz.prog 9 [.tiers l, .int s] (· = .tup [.int (evn (cmF s l) 10000), .int 0]) := by
  have hL : (l.map Tier.row).length = l.length := List.length_map _
  have o1 := out_f s 0 1000000000 (by omega)
  have hcb := cmF_bd hs hb
  have ke := evenD_fn (cmF s l) 10000 (by omega) (by omega)
  clear hcb
  refine PFn.mk (Spec.body Tryz.func9 rfl rfl (Tryz.ntmps9) rfl fun w0 own0 M => ?_)
  repeat' (first | refine goH ?_ | refine goV ?_ | refine goB (fun b => ?_) | refine goI ?_ | (refine Cw.k_cond ?_; first | (refine Cw.cond_dec rfl (fun hc => ?_) (fun hc => ?_) <;> try (exfalso; omega)) | refine Cw.cond_bool rfl (fun hc => ?_) (fun hc => ?_)) | (refine Ops.k_calla ?_; first | (refine Ops.k_callf 40 ?_; refine Ops.callV o1 (Evs.cons rfl (Evs.cons rfl (Evs.cons rfl Evs.nil))) rfl ?_) | refine Ops.callV (k1 rfl) (Evs.cons rfl Evs.nil) rfl ?_) | fail)
  refine Cw.loopI [(0, _), (1, _), (18, _), (19, _)] _ (fun n e c => ∃ (k : Nat) (z : Int), n = l.length - k ∧ (k ≤ l.length ∧ cmF s l = z + cmF s (l.drop k) ∧ 0 ≤ z ∧ z ≤ k * 10000000000000) ∧ e = [(7, .int z), (20, .int k)] ∧ c = []) ⟨_, _, _, (Ent.mkP goSub goPm), 0, 0, rfl, ⟨by omega, by simp, by omega, by omega⟩, rfl, rfl⟩ ?_
  rintro _ _ _ ⟨k, z, rfl, ⟨hk, hV, hz1, hz2⟩, rfl, rfl⟩
  by_cases hkl : k < l.length
  · obtain ⟨x, hx⟩ := at_lt hkl
    have hrow : (l.map Tier.row)[k]? = some [.int x.fr, .int x.rt] := rows_at hx
    have hxb := hb x (List.mem_of_getElem? hx)
    by_cases hk2 : k + 1 < l.length
    · obtain ⟨y, hy⟩ := at_lt hk2
      have hyb := hb y (List.mem_of_getElem? hy)
      have hrow2 : (l.map Tier.row)[((k : Int) + 1).toNat]? = some [.int y.fr, .int y.rt] := by rw [show ((k : Int) + 1).toNat = k + 1 by omega]; exact rows_at hy
      rw [cmF_next hx hy] at hV
      have hp := cm_bd (a := max 0 (min s y.fr - x.fr)) (b := x.rt) (by omega) (by omega)
      skip
      clear hx hy
      have hp2 : -9223372036854775808 ≤ max 0 (min s y.fr - x.fr) * x.rt ∧ max 0 (min s y.fr - x.fr) * x.rt ≤ 9223372036854775807 := by omega
      repeat' (first | refine goH ?_ | (refine Ops.k_b_mul ?_; first | refine Ops.mul rfl rfl (by assumption) rfl ?_) | refine goV ?_ | refine goB (fun b => ?_) | refine goI ?_ | (refine Cw.k_cond ?_; first | (refine Cw.cond_dec rfl (fun hc => ?_) (fun hc => ?_) <;> try (exfalso; omega)) | refine Cw.cond_bool rfl (fun hc => ?_) (fun hc => ?_)) | fail)
      generalize max 0 (min s y.fr - x.fr) * x.rt = p at *
      exact ⟨_, _, _, (Ent.mk goSub goTk), ⟨k + 1, _, rfl, ⟨by omega, by rw [hV]; omega, by omega, by omega⟩, rfl, rfl⟩, by omega⟩
    · rw [cmF_last hx (by omega)] at hV
      have hp := cm_bd (a := max 0 (s - x.fr)) (b := x.rt) (by omega) (by omega)
      skip
      clear hx
      have hp2 : -9223372036854775808 ≤ max 0 (s - x.fr) * x.rt ∧ max 0 (s - x.fr) * x.rt ≤ 9223372036854775807 := by omega
      repeat' (first | refine goH ?_ | (refine Ops.k_b_mul ?_; first | refine Ops.mul rfl rfl (by assumption) rfl ?_) | refine goV ?_ | refine goB (fun b => ?_) | refine goI ?_ | (refine Cw.k_cond ?_; first | (refine Cw.cond_dec rfl (fun hc => ?_) (fun hc => ?_) <;> try (exfalso; omega)) | refine Cw.cond_bool rfl (fun hc => ?_) (fun hc => ?_)) | fail)
      generalize max 0 (s - x.fr) * x.rt = p at *
      exact ⟨_, _, _, (Ent.mk goSub goTk), ⟨k + 1, _, rfl, ⟨by omega, by rw [hV]; omega, by omega, by omega⟩, rfl, rfl⟩, by omega⟩
  · rw [List.drop_of_length_le (by omega)] at hV
    rw [show cmF s ([] : List Tier) = 0 from rfl, Int.add_zero] at hV
    rw [hV] at ke ⊢
    repeat' (first | refine goH ?_ | refine goV ?_ | refine goB (fun b => ?_) | refine goI ?_ | (refine Cw.k_cond ?_; first | (refine Cw.cond_dec rfl (fun hc => ?_) (fun hc => ?_) <;> try (exfalso; omega)) | refine Cw.cond_bool rfl (fun hc => ?_) (fun hc => ?_)) | (refine Ops.k_calla ?_; first | (refine Ops.k_callf 41 ?_; refine Ops.callV ke (Evs.cons rfl (Evs.cons rfl Evs.nil)) rfl ?_)) | fail)
    exact Fin.ret (Ent.take goTk) (Outs.two rfl rfl rfl) ⟨rfl, rfl⟩
theorem commissionOf_fnL (l : List Tier) (s : Int) (hl : l.length ≤ 20) (hs : 0 ≤ s ∧ s ≤ 1000000000) (hb : ∀ x ∈ l, 0 ≤ x.fr ∧ x.fr ≤ 1000000000 ∧ 0 ≤ x.rt ∧ x.rt ≤ 10000) (k1 : "R" = "D" → PFn Tryz.prog 8 [.tiers l] (· = .int 0)) : PFn Tryz.prog 10 [.tiers l, .int s] (· = .tup [.int (evn (cmF s l) 10000), .int 0]) := by
  have hL : (l.map Tier.row).length = l.length := List.length_map _
  have o1 := out_f s 0 1000000000 (by omega)
  have hcb := cmF_bd hs hb
  have ke := evenR_fn (cmF s l) 10000 (by omega) (by omega)
  clear hcb
  refine PFn.mk (Spec.body Tryz.func10 rfl rfl (Tryz.ntmps10) rfl fun w0 own0 M => ?_)
  repeat' (first | refine goH ?_ | refine goV ?_ | refine goB (fun b => ?_) | refine goG ?_ | (refine Ops.k_guard ?_; first | (refine Ops.guard_dec rfl rfl (fun hc => ?_) (fun hc => ?_) <;> try (exfalso; omega)) | refine Ops.guard_split rfl rfl (fun hc => ?_) (fun hc => ?_)) | refine goI ?_ | (refine Cw.k_cond ?_; first | (refine Cw.cond_dec rfl (fun hc => ?_) (fun hc => ?_) <;> try (exfalso; omega)) | refine Cw.cond_bool rfl (fun hc => ?_) (fun hc => ?_)) | (refine Ops.k_calla ?_; first | (refine Ops.k_callf 40 ?_; refine Ops.callV o1 (Evs.cons rfl (Evs.cons rfl (Evs.cons rfl Evs.nil))) rfl ?_) | refine Ops.callV (k1 rfl) (Evs.cons rfl Evs.nil) rfl ?_) | fail)
  refine Cw.loopI [(0, _), (1, _), (16, _), (17, _)] _ (fun n e c => ∃ (k : Nat) (z : Int), n = l.length - k ∧ (k ≤ l.length ∧ cmF s l = z + cmF s (l.drop k) ∧ 0 ≤ z ∧ z ≤ k * 10000000000000) ∧ e = [(6, .int z), (18, .int k)] ∧ c = []) ⟨_, _, _, (Ent.mkP goSub goPm), 0, 0, rfl, ⟨by omega, by simp, by omega, by omega⟩, rfl, rfl⟩ ?_
  rintro _ _ _ ⟨k, z, rfl, ⟨hk, hV, hz1, hz2⟩, rfl, rfl⟩
  by_cases hkl : k < l.length
  · obtain ⟨x, hx⟩ := at_lt hkl
    have hrow : (l.map Tier.row)[k]? = some [.int x.fr, .int x.rt] := rows_at hx
    have hxb := hb x (List.mem_of_getElem? hx)
    by_cases hk2 : k + 1 < l.length
    · obtain ⟨y, hy⟩ := at_lt hk2
      have hyb := hb y (List.mem_of_getElem? hy)
      have hrow2 : (l.map Tier.row)[((k : Int) + 1).toNat]? = some [.int y.fr, .int y.rt] := by rw [show ((k : Int) + 1).toNat = k + 1 by omega]; exact rows_at hy
      rw [cmF_next hx hy] at hV
      have hp := cm_bd (a := max 0 (min s y.fr - x.fr)) (b := x.rt) (by omega) (by omega)
      rw [max_sym 0 _] at hp hV
      clear hx hy
      have hp2 : -9223372036854775808 ≤ max (min s y.fr - x.fr) 0 * x.rt ∧ max (min s y.fr - x.fr) 0 * x.rt ≤ 9223372036854775807 := by omega
      repeat' (first | refine goH ?_ | (refine Ops.k_b_mul ?_; first | refine Ops.mul rfl rfl (by assumption) rfl ?_) | refine goV ?_ | refine goB (fun b => ?_) | refine goG ?_ | (refine Ops.k_guard ?_; first | (refine Ops.guard_dec rfl rfl (fun hc => ?_) (fun hc => ?_) <;> try (exfalso; omega)) | refine Ops.guard_split rfl rfl (fun hc => ?_) (fun hc => ?_)) | refine goI ?_ | (refine Cw.k_cond ?_; first | (refine Cw.cond_dec rfl (fun hc => ?_) (fun hc => ?_) <;> try (exfalso; omega)) | refine Cw.cond_bool rfl (fun hc => ?_) (fun hc => ?_)) | fail)
      generalize max (min s y.fr - x.fr) 0 * x.rt = p at *
      exact ⟨_, _, _, (Ent.mk goSub goTk), ⟨k + 1, _, rfl, ⟨by omega, by rw [hV]; omega, by omega, by omega⟩, rfl, rfl⟩, by omega⟩
    · rw [cmF_last hx (by omega)] at hV
      have hp := cm_bd (a := max 0 (s - x.fr)) (b := x.rt) (by omega) (by omega)
      rw [max_sym 0 _] at hp hV
      clear hx
      have hp2 : -9223372036854775808 ≤ max (s - x.fr) 0 * x.rt ∧ max (s - x.fr) 0 * x.rt ≤ 9223372036854775807 := by omega
      repeat' (first | refine goH ?_ | (refine Ops.k_b_mul ?_; first | refine Ops.mul rfl rfl (by assumption) rfl ?_) | refine goV ?_ | refine goB (fun b => ?_) | refine goG ?_ | (refine Ops.k_guard ?_; first | (refine Ops.guard_dec rfl rfl (fun hc => ?_) (fun hc => ?_) <;> try (exfalso; omega)) | refine Ops.guard_split rfl rfl (fun hc => ?_) (fun hc => ?_)) | refine goI ?_ | (refine Cw.k_cond ?_; first | (refine Cw.cond_dec rfl (fun hc => ?_) (fun hc => ?_) <;> try (exfalso; omega)) | refine Cw.cond_bool rfl (fun hc => ?_) (fun hc => ?_)) | fail)
      generalize max (s - x.fr) 0 * x.rt = p at *
      exact ⟨_, _, _, (Ent.mk goSub goTk), ⟨k + 1, _, rfl, ⟨by omega, by rw [hV]; omega, by omega, by omega⟩, rfl, rfl⟩, by omega⟩
  · rw [List.drop_of_length_le (by omega)] at hV
    rw [show cmF s ([] : List Tier) = 0 from rfl, Int.add_zero] at hV
    rw [hV] at ke ⊢
    repeat' (first | refine goH ?_ | refine goV ?_ | refine goB (fun b => ?_) | refine goG ?_ | (refine Ops.k_guard ?_; first | (refine Ops.guard_dec rfl rfl (fun hc => ?_) (fun hc => ?_) <;> try (exfalso; omega)) | refine Ops.guard_split rfl rfl (fun hc => ?_) (fun hc => ?_)) | refine goI ?_ | (refine Cw.k_cond ?_; first | (refine Cw.cond_dec rfl (fun hc => ?_) (fun hc => ?_) <;> try (exfalso; omega)) | refine Cw.cond_bool rfl (fun hc => ?_) (fun hc => ?_)) | (refine Ops.k_calla ?_; first | (refine Ops.k_callf 42 ?_; refine Ops.callV ke (Evs.cons rfl (Evs.cons rfl Evs.nil)) rfl ?_)) | fail)
    exact Fin.ret (Ent.take goTk) (Outs.two rfl rfl rfl) ⟨rfl, rfl⟩
theorem commissionE_fn (l : List Tier) (s : Int) (hl : l.length ≤ 1000000) (h : tiersE l ≠ 0) : PFn Tryz.prog 9 [.tiers l, .int s] (· = .tup [.int 0, .int (tiersE l)]) := by
  have k1 := checkTiers_fn l hl
  generalize tiersE l = e at *
  refine PFn.mk (Spec.body Tryz.func9 rfl rfl (Tryz.ntmps9) rfl fun w0 own0 M => ?_)
  repeat' (first | refine goH ?_ | refine goV ?_ | refine goB (fun b => ?_) | refine goI ?_ | (refine Cw.k_cond ?_; first | (refine Cw.cond_dec rfl (fun hc => ?_) (fun hc => ?_) <;> try (exfalso; omega)) | refine Cw.cond_bool rfl (fun hc => ?_) (fun hc => ?_)) | (refine Ops.k_calla ?_; first | (refine Ops.k_callf 8 ?_; refine Ops.callV k1 (Evs.cons rfl Evs.nil) rfl ?_)) | fail)
  exact Fin.ret (Ent.take goTk) (Outs.two rfl rfl rfl) ⟨rfl, rfl⟩
theorem commission_fn (l : List Tier) (s : Int) (hl : l.length ≤ 1000000) (h : tiersE l = 0) : PFn Tryz.prog 9 [.tiers l, .int s] (· = comT l s) := by
  have k1 := checkTiers_fn l hl
  obtain ⟨hl2, hb⟩ := tiersE_ok h
  rw [h] at k1
  unfold comT
  by_cases hs : s < 0 ∨ 1000000000 < s
  · rw [if_pos hs]
    have o1 := out_t s 0 1000000000 hs
    refine PFn.mk (Spec.body Tryz.func9 rfl rfl (Tryz.ntmps9) rfl fun w0 own0 M => ?_)
    repeat' (first | refine goH ?_ | refine goV ?_ | refine goB (fun b => ?_) | refine goI ?_ | (refine Cw.k_cond ?_; first | (refine Cw.cond_dec rfl (fun hc => ?_) (fun hc => ?_) <;> try (exfalso; omega)) | refine Cw.cond_bool rfl (fun hc => ?_) (fun hc => ?_)) | (refine Ops.k_calla ?_; first | (refine Ops.k_callf 40 ?_; refine Ops.callV o1 (Evs.cons rfl (Evs.cons rfl (Evs.cons rfl Evs.nil))) rfl ?_) | (refine Ops.k_callf 8 ?_; refine Ops.callV k1 (Evs.cons rfl Evs.nil) rfl ?_)) | fail)
    exact Fin.ret (Ent.take goTk) (Outs.two rfl rfl rfl) ⟨rfl, rfl⟩
  · rw [if_neg hs]
    exact commission_fnL l s (by omega) (by omega) hb (fun _ => k1)
theorem commissionOf_fn (l : List Tier) (s : Int) (hl : l.length ≤ 1000000) (h : tiersE l = 0) : PFn Tryz.prog 10 [.tiers l, .int s] (· = comT l s) := by
  obtain ⟨hl2, hb⟩ := tiersE_ok h
  unfold comT
  by_cases hs : s < 0 ∨ 1000000000 < s
  · rw [if_pos hs]
    refine PFn.mk (Spec.body Tryz.func10 rfl rfl (Tryz.ntmps10) rfl fun w0 own0 M => ?_)
    repeat' (first | refine goH ?_ | refine goV ?_ | refine goB (fun b => ?_) | refine goG ?_ | (refine Ops.k_guard ?_; first | (refine Ops.guard_dec rfl rfl (fun hc => ?_) (fun hc => ?_) <;> try (exfalso; omega)) | refine Ops.guard_split rfl rfl (fun hc => ?_) (fun hc => ?_)) | refine goI ?_ | (refine Cw.k_cond ?_; first | (refine Cw.cond_dec rfl (fun hc => ?_) (fun hc => ?_) <;> try (exfalso; omega)) | refine Cw.cond_bool rfl (fun hc => ?_) (fun hc => ?_)) | fail)
    all_goals first | exact Fin.ret (Ent.take goTk) (Outs.two rfl rfl rfl) ⟨rfl, rfl⟩ | (exfalso; omega)
  · rw [if_neg hs]
    exact commissionOf_fnL l s (by omega) (by omega) hb (fun h => absurd h (by decide))
end Lg
end
