/- A part of the proof of a law of this seat: it adds no condition. By an AI agent. -/
import Derived.Test.YtfecflnngkhneaaDoorAge1
set_option linter.all false
set_option maxRecDepth 100000
set_option maxHeartbeats 4000000
namespace Lg
open Go Go.Proofs

def saleB (n : Int) : Bool := decide (n < 0 ∨ 1000 < n)
theorem stale1_fn (n : Int) : PFn Tryd.prog 43 [.int n] (· = .bool (saleB n)) := by
  refine PFn.mk (Spec.body Tryd.func43 rfl rfl (Tryd.ntmps43) rfl fun w0 own0 M => ?_)
  repeat' (first | refine goH ?_ | refine goV ?_ | refine goI ?_ | (refine Cw.k_cond ?_; first | (refine Cw.cond_dec rfl (fun hc => ?_) (fun hc => ?_) <;> try (exfalso; omega)) | refine Cw.cond_bool rfl (fun hc => ?_) (fun hc => ?_)) | (refine Ops.k_calla ?_; first | (refine Ops.k_callf 44 ?_; refine Ops.callV (out_fn n 0 1000) (Evs.cons rfl (Evs.cons rfl (Evs.cons rfl Evs.nil))) rfl ?_)) | fail)
  exact Fin.ret (Ent.take (by repeat' (first | exact Take.nil | refine Take.cons (by first | exact pick0 | exact pickS pick0 | exact pickS (pickS pick0) | exact pickS (pickS (pickS pick0)) | exact pickS (pickS (pickS (pickS pick0)))) ?_))) (Outs.one rfl rfl) ⟨rfl, rfl⟩
theorem staleFault1_fn (n : Int) : PFn Tryd.prog 49 [.int n] (· = .bool (saleB n)) := by
  refine PFn.mk (Spec.body Tryd.func49 rfl rfl (Tryd.ntmps49) rfl fun w0 own0 M => ?_)
  repeat' (first | refine goH ?_ | refine goV ?_ | refine goG ?_ | (refine Ops.k_guard ?_; first | (refine Ops.guard_dec rfl rfl (fun hc => ?_) (fun hc => ?_) <;> try (exfalso; omega)) | refine Ops.guard_split rfl rfl (fun hc => ?_) (fun hc => ?_)) | refine goI ?_ | (refine Cw.k_cond ?_; first | (refine Cw.cond_dec rfl (fun hc => ?_) (fun hc => ?_) <;> try (exfalso; omega)) | refine Cw.cond_bool rfl (fun hc => ?_) (fun hc => ?_)) | fail)
  all_goals (refine Fin.ret (Ent.take (by repeat' (first | exact Take.nil | refine Take.cons (by first | exact pick0 | exact pickS pick0 | exact pickS (pickS pick0) | exact pickS (pickS (pickS pick0)) | exact pickS (pickS (pickS (pickS pick0)))) ?_))) (Outs.one rfl rfl) ⟨rfl, congrArg Tr.bool ?_⟩)
  all_goals (rw [Bool.eq_iff_iff]; simp [saleB] at *; try omega)

def salesErr (sales : List Int) : Int := if sales.length > 400 then 2 else if sales.any saleB then 1 else 0
theorem staleFault_fn (c : Coil) (hc : c.ps.length ≤ 1000000) (l : List Lot) (hl : l.length ≤ 1000000) (day : Int) (sales : List Int) (hs : sales.length ≤ 1000000) :
    PFn Tryd.prog 16 [.agg c.row, .lots l, .int day, .ints sales] (· = .int (if strangeB l c.ps then 8 else if dayB day = false then 1 else salesErr sales)) := by
  have h1 := knownFault_fn c hc l hl
  have h2 := dayFault_fn [day] (by simp)
  have h3 := cmpOr_fn [if strangeB l c.ps then 8 else 0, if [day].any (fun n => !dayB n) then 1 else 0] (by simp)
  have h4 := containsFunc_int (cin := []) (caps := []) (g := 49) (p := saleB) (l := sales) (by omega) (fun x _ => (staleFault1_fn x).lend)
  have hL := intRows_len sales
  refine PFn.mk (Spec.body Tryd.func16 rfl rfl (Tryd.ntmps16) rfl fun w0 own0 M => ?_)
  unfold Coil.row at *
  unfold salesErr
  simp only [List.any_cons, List.any_nil, Bool.or_false] at h2 h3
  generalize strangeB l c.ps = b1 at *
  generalize dayB day = b2 at *
  generalize sales.any saleB = b3 at *
  cases b1
  · cases b2
    · repeat' (first | refine goH ?_ | refine goV ?_ | refine goB (fun b => ?_) | refine goI ?_ | (refine Cw.k_cond ?_; first | (refine Cw.cond_dec rfl (fun hc => ?_) (fun hc => ?_) <;> try (exfalso; omega)) | refine Cw.cond_bool rfl (fun hc => ?_) (fun hc => ?_)) | (refine Ops.k_calla ?_; first | (refine Ops.k_callf 14 ?_; refine Ops.callV h1 (Evs.cons rfl (Evs.cons rfl Evs.nil)) rfl ?_) | (refine Ops.k_callf 15 ?_; refine Ops.callV h2 (Evs.cons rfl Evs.nil) rfl ?_) | (refine Ops.k_callf 13 ?_; refine Ops.callV h3 (Evs.cons rfl Evs.nil) rfl ?_)) | fail)
      all_goals first | exact Fin.ret (Ent.take (by repeat' (first | exact Take.nil | refine Take.cons (by first | exact pick0 | exact pickS pick0 | exact pickS (pickS pick0) | exact pickS (pickS (pickS pick0)) | exact pickS (pickS (pickS (pickS pick0)))) ?_))) (Outs.one rfl rfl) ⟨rfl, rfl⟩ | (exfalso; simp [orI] at *; done)
    · by_cases h400 : sales.length > 400
      · repeat' (first | refine goH ?_ | refine goV ?_ | refine goB (fun b => ?_) | refine goI ?_ | (refine Cw.k_cond ?_; first | (refine Cw.cond_dec rfl (fun hc => ?_) (fun hc => ?_) <;> try (exfalso; omega)) | refine Cw.cond_bool rfl (fun hc => ?_) (fun hc => ?_)) | (refine Ops.k_calla ?_; first | (refine Ops.k_callf 14 ?_; refine Ops.callV h1 (Evs.cons rfl (Evs.cons rfl Evs.nil)) rfl ?_) | (refine Ops.k_callf 15 ?_; refine Ops.callV h2 (Evs.cons rfl Evs.nil) rfl ?_) | (refine Ops.k_callf 13 ?_; refine Ops.callV h3 (Evs.cons rfl Evs.nil) rfl ?_)) | fail)
        all_goals first | exact Fin.ret (Ent.take (by repeat' (first | exact Take.nil | refine Take.cons (by first | exact pick0 | exact pickS pick0 | exact pickS (pickS pick0) | exact pickS (pickS (pickS pick0)) | exact pickS (pickS (pickS (pickS pick0)))) ?_))) (Outs.one rfl rfl) ⟨rfl, congrArg Tr.int (by simp [h400])⟩ | (exfalso; simp [orI] at *; done)
      · cases b3
        · repeat' (first | refine goH ?_ | refine goV ?_ | refine goB (fun b => ?_) | refine goI ?_ | (refine Cw.k_cond ?_; first | (refine Cw.cond_dec rfl (fun hc => ?_) (fun hc => ?_) <;> try (exfalso; omega)) | refine Cw.cond_bool rfl (fun hc => ?_) (fun hc => ?_)) | (refine Ops.k_calla ?_; first | (refine Ops.k_callf 14 ?_; refine Ops.callV h1 (Evs.cons rfl (Evs.cons rfl Evs.nil)) rfl ?_) | (refine Ops.k_callf 15 ?_; refine Ops.callV h2 (Evs.cons rfl Evs.nil) rfl ?_) | (refine Ops.k_callf 13 ?_; refine Ops.callV h3 (Evs.cons rfl Evs.nil) rfl ?_) | (refine Ops.k_callf 42 ?_; refine Ops.callS h4 (Evs.cons rfl (Evs.cons rfl Evs.nil)) (List.Perm.refl _) rfl ?_)) | fail)
          all_goals first | exact Fin.ret (Ent.take (by repeat' (first | exact Take.nil | refine Take.cons (by first | exact pick0 | exact pickS pick0 | exact pickS (pickS pick0) | exact pickS (pickS (pickS pick0)) | exact pickS (pickS (pickS (pickS pick0)))) ?_))) (Outs.one rfl rfl) ⟨rfl, congrArg Tr.int (by simp [h400])⟩ | (exfalso; simp [orI] at *; done)
        · repeat' (first | refine goH ?_ | refine goV ?_ | refine goB (fun b => ?_) | refine goI ?_ | (refine Cw.k_cond ?_; first | (refine Cw.cond_dec rfl (fun hc => ?_) (fun hc => ?_) <;> try (exfalso; omega)) | refine Cw.cond_bool rfl (fun hc => ?_) (fun hc => ?_)) | (refine Ops.k_calla ?_; first | (refine Ops.k_callf 14 ?_; refine Ops.callV h1 (Evs.cons rfl (Evs.cons rfl Evs.nil)) rfl ?_) | (refine Ops.k_callf 15 ?_; refine Ops.callV h2 (Evs.cons rfl Evs.nil) rfl ?_) | (refine Ops.k_callf 13 ?_; refine Ops.callV h3 (Evs.cons rfl Evs.nil) rfl ?_) | (refine Ops.k_callf 42 ?_; refine Ops.callS h4 (Evs.cons rfl (Evs.cons rfl Evs.nil)) (List.Perm.refl _) rfl ?_)) | fail)
          all_goals first | exact Fin.ret (Ent.take (by repeat' (first | exact Take.nil | refine Take.cons (by first | exact pick0 | exact pickS pick0 | exact pickS (pickS pick0) | exact pickS (pickS (pickS pick0)) | exact pickS (pickS (pickS (pickS pick0)))) ?_))) (Outs.one rfl rfl) ⟨rfl, congrArg Tr.int (by simp [h400])⟩ | (exfalso; simp [orI] at *; done)
  · repeat' (first | refine goH ?_ | refine goV ?_ | refine goB (fun b => ?_) | refine goI ?_ | (refine Cw.k_cond ?_; first | (refine Cw.cond_dec rfl (fun hc => ?_) (fun hc => ?_) <;> try (exfalso; omega)) | refine Cw.cond_bool rfl (fun hc => ?_) (fun hc => ?_)) | (refine Ops.k_calla ?_; first | (refine Ops.k_callf 14 ?_; refine Ops.callV h1 (Evs.cons rfl (Evs.cons rfl Evs.nil)) rfl ?_) | (refine Ops.k_callf 15 ?_; refine Ops.callV h2 (Evs.cons rfl Evs.nil) rfl ?_) | (refine Ops.k_callf 13 ?_; refine Ops.callV h3 (Evs.cons rfl Evs.nil) rfl ?_)) | fail)
    all_goals first | exact Fin.ret (Ent.take (by repeat' (first | exact Take.nil | refine Take.cons (by first | exact pick0 | exact pickS pick0 | exact pickS (pickS pick0) | exact pickS (pickS (pickS pick0)) | exact pickS (pickS (pickS (pickS pick0)))) ?_))) (Outs.one rfl rfl) ⟨rfl, rfl⟩ | (exfalso; simp [orI] at *; done)

def cntLt (day : Int) (l : List Int) : Int := sumF (fun d => if d < day then 1 else 0) l
theorem cntLt_cons (day x : Int) (l : List Int) : cntLt day (x :: l) = (if x < day then 1 else 0) + cntLt day l := rfl
theorem cntLt_bd (day : Int) : ∀ l : List Int, 0 ≤ cntLt day l ∧ cntLt day l ≤ l.length
  | [] => by simp [cntLt, sumF]
  | x :: l => by have := cntLt_bd day l; rw [cntLt_cons, List.length_cons]; split <;> omega
def staleGo : Int → List Int → List Int → Int
  | day, [], last => cntLt day last
  | day, m :: s, last => cntLt day (last.take (min m.toNat last.length)) + staleGo (day + 1) s (last.drop (min m.toNat last.length))
theorem staleGo_nil : ∀ (s : List Int) (day : Int), staleGo day s [] = 0
  | [], day => rfl
  | m :: s, day => by
    rw [staleGo]
    simp only [List.take_nil, List.drop_nil, staleGo_nil s]
    rfl

theorem late_fn (many day n : Int) (last : List Int) (b1 b2 b3 : Nat) (E1 E2 E3 : Nat) (hm : 0 ≤ many ∧ many ≤ last.length) (hn : 0 ≤ n ∧ n ≤ 1000000) (hl : last.length ≤ 1000000) :
    Spec Tryd.prog 45 [.int many, .ptr b1, .ptr b2, .ptr b3] [Chunk.box b1 E1 [.ints last], Chunk.box b2 E2 [.int day], Chunk.box b3 E3 [.int n]]
      (fun r cs => r = Tr.tup [] ∧ cs = [Chunk.box b1 E1 [.ints (last.drop many.toNat)], Chunk.box b2 E2 [.int day], Chunk.box b3 E3 [.int (n + cntLt day (last.take many.toNat))]]) := by
  refine Spec.body Tryd.func45 rfl rfl (Tryd.ntmps45) rfl fun w0 own0 M => ?_
  have hL := intRows_len last
  have htk : (intRows last).take many.toNat = intRows (last.take many.toNat) := by simp [intRows, List.map_take]
  have hdr : (intRows last).drop many.toNat = intRows (last.drop many.toNat) := by simp [intRows, List.map_drop]
  have hL2 : (intRows (last.take many.toNat)).length = many.toNat := by rw [intRows_len, List.length_take]; omega
  repeat' (first | refine goH ?_ | refine goV ?_ | refine goI ?_ | (refine Cw.k_cond ?_; first | (refine Cw.cond_dec rfl (fun hc => ?_) (fun hc => ?_) <;> try (exfalso; omega)) | refine Cw.cond_bool rfl (fun hc => ?_) (fun hc => ?_)) | fail)
  rw [htk]
  refine Cw.loopI [(0, _), (1, _), (2, _), (3, _), (9, _), (10, _)] [Chunk.box b1 E1 [.ints last], Chunk.box b2 E2 [.int day]] (fun q e cc => ∃ (k : Nat) (s : Int), q = many.toNat - k ∧ (k ≤ many.toNat ∧ s + cntLt day ((last.take many.toNat).drop k) = n + cntLt day (last.take many.toNat) ∧ 0 ≤ s ∧ s ≤ 1000000 + k) ∧ e = [(11, .int k)] ∧ cc = [Chunk.box b3 E3 [.int s]]) ⟨_, _, _, (Ent.mkP (by repeat' (first | exact Sub.nil | refine Sub.cons rfl ?_)) (by repeat' (first | exact List.Perm.refl _ | refine Perm.cons' (by first | exact pick0 | exact pickS pick0 | exact pickS (pickS pick0) | exact pickS (pickS (pickS pick0)) | exact pickS (pickS (pickS (pickS pick0)))) ?_))), 0, n, rfl, ⟨by omega, by simp, by omega, by omega⟩, rfl, rfl⟩ ?_
  rintro _ _ _ ⟨k, s, rfl, ⟨hk, hV, b1', b2'⟩, rfl, rfl⟩
  by_cases hkl : k < many.toNat
  · obtain ⟨x, hx⟩ : ∃ x, (last.take many.toNat)[k]? = some x := at_lt (by rw [List.length_take]; omega)
    have hrow := intRows_at hx
    rw [drop_at hx, cntLt_cons] at hV
    by_cases hd : x < day
    · rw [if_pos hd] at hV
      repeat' (first | refine goH ?_ | refine goV ?_ | refine goI ?_ | (refine Cw.k_cond ?_; first | (refine Cw.cond_dec rfl (fun hc => ?_) (fun hc => ?_) <;> try (exfalso; omega)) | refine Cw.cond_bool rfl (fun hc => ?_) (fun hc => ?_)) | fail)
      exact ⟨_, _, _, (Ent.mk (by repeat' (first | exact Sub.nil | refine Sub.cons rfl ?_)) (by repeat' (first | exact Take.nil | refine Take.cons (by first | exact pick0 | exact pickS pick0 | exact pickS (pickS pick0) | exact pickS (pickS (pickS pick0)) | exact pickS (pickS (pickS (pickS pick0)))) ?_))), ⟨k + 1, _, rfl, ⟨by omega, by omega, by omega, by omega⟩, rfl, rfl⟩, by omega⟩
    · rw [if_neg hd] at hV
      repeat' (first | refine goH ?_ | refine goV ?_ | refine goI ?_ | (refine Cw.k_cond ?_; first | (refine Cw.cond_dec rfl (fun hc => ?_) (fun hc => ?_) <;> try (exfalso; omega)) | refine Cw.cond_bool rfl (fun hc => ?_) (fun hc => ?_)) | fail)
      exact ⟨_, _, _, (Ent.mk (by repeat' (first | exact Sub.nil | refine Sub.cons rfl ?_)) (by repeat' (first | exact Take.nil | refine Take.cons (by first | exact pick0 | exact pickS pick0 | exact pickS (pickS pick0) | exact pickS (pickS (pickS pick0)) | exact pickS (pickS (pickS (pickS pick0)))) ?_))), ⟨k + 1, _, rfl, ⟨by omega, by omega, by omega, by omega⟩, rfl, rfl⟩, by omega⟩
  · rw [List.drop_eq_nil_of_le (by rw [List.length_take]; omega)] at hV
    have hV' : s = n + cntLt day (last.take many.toNat) := by simpa [cntLt, sumF] using hV
    repeat' (first | refine goH ?_ | refine goV ?_ | refine goI ?_ | (refine Cw.k_cond ?_; first | (refine Cw.cond_dec rfl (fun hc => ?_) (fun hc => ?_) <;> try (exfalso; omega)) | refine Cw.cond_bool rfl (fun hc => ?_) (fun hc => ?_)) | fail)
    rw [hdr, hV']
    exact Fin.norm (Ent.mk (by repeat' (first | exact Sub.nil | refine Sub.cons rfl ?_)) (by repeat' (first | exact Take.nil | refine Take.cons (by first | exact pick0 | exact pickS pick0 | exact pickS (pickS pick0) | exact pickS (pickS (pickS pick0)) | exact pickS (pickS (pickS (pickS pick0)))) ?_))) (Outs.zero rfl) ⟨rfl, rfl⟩
end Lg
