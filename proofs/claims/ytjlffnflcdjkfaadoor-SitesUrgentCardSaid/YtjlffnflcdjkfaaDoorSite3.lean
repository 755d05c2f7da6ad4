/- A part of the proof of a law of this seat: it adds no condition. By an AI agent. -/
import Derived.Test.YtjlffnflcdjkfaaDoorSite1
set_option linter.all false
set_option maxRecDepth 100000
set_option maxHeartbeats 4000000
namespace Lg
open Go Go.Proofs

theorem sitesE_len {l : List Site} (h : sitesE l = 0) : l.length ≤ 200 := by
  unfold sitesE at h
  split at h
  · omega
  · omega
theorem sitesE_at {l : List Site} (h : sitesE l = 0) {k : Nat} {x : Site} (hx : l[k]? = some x) : (1 ≤ x.have_.length ∧ x.have_.length ≤ 60 ∧ x.rate.length = x.have_.length) ∧ ∀ (i : Nat) (a b : Int), x.have_[i]? = some a → x.rate[i]? = some b → 0 ≤ a ∧ a ≤ 10000 ∧ 0 ≤ b ∧ b ≤ 1000000 := by
  unfold sitesE at h
  split at h
  · omega
  have hk := (List.getElem?_eq_some_iff.1 hx).1
  have h2 := firstE_zero h k (Nat.zero_le _) (by omega)
  unfold siteE at h2
  rw [hx] at h2
  simp only at h2
  split at h2
  · omega
  split at h2
  · omega
  split at h2
  · omega
  · rename_i h3
    have hle : lenE x = 0 := by omega
    unfold lenE at hle
    split at hle
    · omega
    split at hle
    · omega
    split at hle
    · omega
    refine ⟨by omega, fun i a b ha hb => ?_⟩
    have h4 := firstE_zero h2 i (Nat.zero_le _) (by have := (List.getElem?_eq_some_iff.1 ha).1; omega)
    unfold valE at h4
    rw [ha, hb] at h4
    simp only at h4
    split at h4
    · omega
    · omega

def leftR : List Int → List Int → Int → Int
  | h :: hs, r :: rs, n => leftR hs rs (if 0 < r then min n (100 * h / r) else n)
  | _, _, n => n
def leftI (x : Site) : Int := leftR x.have_ x.rate 4000
theorem leftR_nil (r : List Int) (n : Int) : leftR [] r n = n := by unfold leftR; rfl

theorem left_fn (l : List Site) (hl : SBd l) : PFn Tryd.prog 20 [.sites l] (· = .tup [.ints (if sitesE l ≠ 0 then [] else l.map leftI), .int (sitesE l)]) := by
  have k1 := checkSites_fn l hl
  have hL : (l.map Site.row).length = l.length := List.length_map _
  refine PFn.mk (Spec.body Tryd.func20 rfl rfl (Tryd.ntmps20) rfl fun w0 own0 M => ?_)
  by_cases h1 : sitesE l ≠ 0
  · rw [if_pos h1]
    generalize sitesE l = se at *
    repeat' (first | refine goH ?_ | refine goV ?_ | refine goB (fun b => ?_) | refine goC (fun ad cap => ?_) | refine goI ?_ | (refine Cw.k_cond ?_; first | (refine Cw.cond_dec rfl (fun hc => ?_) (fun hc => ?_) <;> try (exfalso; omega)) | refine Cw.cond_bool rfl (fun hc => ?_) (fun hc => ?_)) | (refine Ops.k_calla ?_; first | (refine Ops.k_callf 19 ?_; refine Ops.callV k1 (Evs.cons rfl Evs.nil) rfl ?_)) | fail)
    refine Fin.ret (Ent.trans (Ent.nilsl 1 (s := 2) rfl) (Ent.take (by repeat' (first | exact Take.nil | refine Take.cons (by first | exact pick0 | exact pickS pick0 | exact pickS (pickS pick0) | exact pickS (pickS (pickS pick0)) | exact pickS (pickS (pickS (pickS pick0)))) ?_)))) (Outs.many rfl (OutL.cons (by first | exact OutE.tmp rfl | exact OutE.agg inferInstance rfl rfl | exact OutE.one inferInstance rfl) (OutL.cons (by first | exact OutE.tmp rfl | exact OutE.agg inferInstance rfl rfl | exact OutE.one inferInstance rfl) OutL.nil)) rfl) ⟨rfl, rfl⟩
  have h0 : sitesE l = 0 := by omega
  rw [if_neg h1, h0]
  rw [h0] at k1
  have hll := sitesE_len h0
  repeat' (first | refine goH ?_ | refine goV ?_ | refine goB (fun b => ?_) | refine goC (fun ad cap => ?_) | refine goI ?_ | (refine Cw.k_cond ?_; first | (refine Cw.cond_dec rfl (fun hc => ?_) (fun hc => ?_) <;> try (exfalso; omega)) | refine Cw.cond_bool rfl (fun hc => ?_) (fun hc => ?_)) | (refine Ops.k_calla ?_; first | (refine Ops.k_callf 19 ?_; refine Ops.callV k1 (Evs.cons rfl Evs.nil) rfl ?_)) | fail)
  refine Cw.loopI [(16, _), (17, _)] _ (fun n e cc => ∃ (k : Nat) (ad : Option Addr) (cap : Nat) (rows : List (List Tr)), n = l.length - k ∧ (k ≤ l.length ∧ rows = intRows ((l.take k).map leftI) ∧ rows.length = k) ∧ e = [(5, Tr.raw (.slice ad rows.length cap)), (18, .int k)] ∧ cc = [Chunk.own ad cap 1 3 rows])
    ⟨_, _, _, Ent.trans (Ent.nil 1 3) (Ent.mkP (by repeat' (first | exact Sub.nil | refine Sub.cons rfl ?_)) (by repeat' (first | exact List.Perm.refl _ | refine Perm.cons' (by first | exact pick0 | exact pickS pick0 | exact pickS (pickS pick0) | exact pickS (pickS (pickS pick0)) | exact pickS (pickS (pickS (pickS pick0)))) ?_))), 0, none, 0, [], rfl, ⟨by omega, rfl, by simp⟩, rfl, rfl⟩ ?_
  rintro _ _ _ ⟨k, ad, cap, rows, rfl, ⟨hk, hrows, hrl⟩, rfl, rfl⟩
  by_cases hkl : k < l.length
  · obtain ⟨x, hx⟩ := at_lt hkl
    have hrow : (l.map Site.row)[((k : Nat) : Int).toNat]? = some [.str x.key, .ints x.have_, .ints x.rate] := rows_at hx
    obtain ⟨⟨v1, v2, v3⟩, vb⟩ := sitesE_at h0 hx
    have hH := intRows_len x.have_
    have hR := intRows_len x.rate
    repeat' (first | refine goH ?_ | refine goV ?_ | refine goB (fun b => ?_) | refine goC (fun ad cap => ?_) | refine goI ?_ | (refine Cw.k_cond ?_; first | (refine Cw.cond_dec rfl (fun hc => ?_) (fun hc => ?_) <;> try (exfalso; omega)) | refine Cw.cond_bool rfl (fun hc => ?_) (fun hc => ?_)) | fail)
    refine Cw.loopI [(5, _), (7, _), (16, _), (17, _), (18, _), (23, _), (24, _)] _ (fun q e cc => ∃ (i : Nat) (n : Int), q = x.rate.length - i ∧ (i ≤ x.rate.length ∧ leftR (x.have_.drop i) (x.rate.drop i) n = leftI x ∧ 0 ≤ n ∧ n ≤ 4000) ∧ e = [(8, .int n), (25, .int i)] ∧ cc = [])
      ⟨_, _, _, (Ent.mkP (by repeat' (first | exact Sub.nil | refine Sub.cons rfl ?_)) (by repeat' (first | exact List.Perm.refl _ | refine Perm.cons' (by first | exact pick0 | exact pickS pick0 | exact pickS (pickS pick0) | exact pickS (pickS (pickS pick0)) | exact pickS (pickS (pickS (pickS pick0)))) ?_))), 0, 4000, rfl, ⟨by omega, rfl, by omega, by omega⟩, rfl, rfl⟩ ?_
    rintro _ _ _ ⟨i, n, rfl, ⟨hi, hV, n1, n2⟩, rfl, rfl⟩
    by_cases hil : i < x.rate.length
    · obtain ⟨rv, hrv⟩ := at_lt hil
      obtain ⟨hv, hhv⟩ := at_lt (l := x.have_) (k := i) (by omega)
      have hr1 := intRows_at hhv
      have hr2 := intRows_at hrv
      have hb := vb i hv rv hhv hrv
      rw [drop_at hhv, drop_at hrv, leftR] at hV
      by_cases hpos : 0 < rv
      · rw [if_pos hpos] at hV
        have hq : 0 ≤ 100 * hv / rv := Int.ediv_nonneg (by omega) (by omega)
        repeat' (first | refine goH ?_ | refine goV ?_ | refine goB (fun b => ?_) | refine goC (fun ad cap => ?_) | refine goI ?_ | (refine Cw.k_cond ?_; first | (refine Cw.cond_dec rfl (fun hc => ?_) (fun hc => ?_) <;> try (exfalso; omega)) | refine Cw.cond_bool rfl (fun hc => ?_) (fun hc => ?_)) | fail)
        exact ⟨_, _, _, (Ent.mk (by repeat' (first | exact Sub.nil | refine Sub.cons rfl ?_)) (by repeat' (first | exact Take.nil | refine Take.cons (by first | exact pick0 | exact pickS pick0 | exact pickS (pickS pick0) | exact pickS (pickS (pickS pick0)) | exact pickS (pickS (pickS (pickS pick0)))) ?_))), ⟨i + 1, _, rfl, ⟨by omega, hV, by omega, by omega⟩, rfl, rfl⟩, by omega⟩
      · rw [if_neg hpos] at hV
        repeat' (first | refine goH ?_ | refine goV ?_ | refine goB (fun b => ?_) | refine goC (fun ad cap => ?_) | refine goI ?_ | (refine Cw.k_cond ?_; first | (refine Cw.cond_dec rfl (fun hc => ?_) (fun hc => ?_) <;> try (exfalso; omega)) | refine Cw.cond_bool rfl (fun hc => ?_) (fun hc => ?_)) | fail)
        exact ⟨_, _, _, (Ent.mk (by repeat' (first | exact Sub.nil | refine Sub.cons rfl ?_)) (by repeat' (first | exact Take.nil | refine Take.cons (by first | exact pick0 | exact pickS pick0 | exact pickS (pickS pick0) | exact pickS (pickS (pickS pick0)) | exact pickS (pickS (pickS (pickS pick0)))) ?_))), ⟨i + 1, _, rfl, ⟨by omega, hV, by omega, by omega⟩, rfl, rfl⟩, by omega⟩
    · rw [List.drop_eq_nil_of_le (by omega), leftR_nil] at hV
      subst hV
      have key : rows ++ [[Tr.int (leftI x)]] = intRows ((l.take (k + 1)).map leftI) := by rw [take_at hx, List.map_append, intRows_app, ← hrows]; rfl
      repeat' (first | refine goH ?_ | refine goV ?_ | refine goB (fun b => ?_) | refine goC (fun ad cap => ?_) | refine goI ?_ | (refine Cw.k_cond ?_; first | (refine Cw.cond_dec rfl (fun hc => ?_) (fun hc => ?_) <;> try (exfalso; omega)) | refine Cw.cond_bool rfl (fun hc => ?_) (fun hc => ?_)) | fail)
      rw [key]
      exact ⟨_, _, _, (Ent.mk (by repeat' (first | exact Sub.nil | refine Sub.cons rfl ?_)) (by repeat' (first | exact Take.nil | refine Take.cons (by first | exact pick0 | exact pickS pick0 | exact pickS (pickS pick0) | exact pickS (pickS (pickS pick0)) | exact pickS (pickS (pickS (pickS pick0)))) ?_))), ⟨k + 1, _, _, _, rfl, ⟨by omega, rfl, by rw [intRows_len, List.length_map, List.length_take]; omega⟩, rfl, rfl⟩, by omega⟩
  · rw [List.take_of_length_le (by omega)] at hrows
    subst hrows
    repeat' (first | refine goH ?_ | refine goV ?_ | refine goB (fun b => ?_) | refine goC (fun ad cap => ?_) | refine goI ?_ | (refine Cw.k_cond ?_; first | (refine Cw.cond_dec rfl (fun hc => ?_) (fun hc => ?_) <;> try (exfalso; omega)) | refine Cw.cond_bool rfl (fun hc => ?_) (fun hc => ?_)) | fail)
    refine Fin.ret (Ent.trans (Ent.settle (s := 2) rfl (by first | exact pick0 | exact pickS pick0 | exact pickS (pickS pick0) | exact pickS (pickS (pickS pick0)) | exact pickS (pickS (pickS (pickS pick0)))) rfl) (Ent.take (by repeat' (first | exact Take.nil | refine Take.cons (by first | exact pick0 | exact pickS pick0 | exact pickS (pickS pick0) | exact pickS (pickS (pickS pick0)) | exact pickS (pickS (pickS (pickS pick0)))) ?_)))) (Outs.many rfl (OutL.cons (by first | exact OutE.tmp rfl | exact OutE.agg inferInstance rfl rfl | exact OutE.one inferInstance rfl) (OutL.cons (by first | exact OutE.tmp rfl | exact OutE.agg inferInstance rfl rfl | exact OutE.one inferInstance rfl) OutL.nil)) rfl) ⟨rfl, rfl⟩
theorem leftOf_fn (l : List Site) (h0 : sitesE l = 0) : PFn Tryd.prog 22 [.sites l] (· = .ints (l.map leftI)) := by
  have hL : (l.map Site.row).length = l.length := List.length_map _
  have hll := sitesE_len h0
  refine PFn.mk (Spec.body Tryd.func22 rfl rfl (Tryd.ntmps22) rfl fun w0 own0 M => ?_)
  repeat' (first | refine goH ?_ | refine goV ?_ | refine goB (fun b => ?_) | refine goC (fun ad cap => ?_) | refine goI ?_ | (refine Cw.k_cond ?_; first | (refine Cw.cond_dec rfl (fun hc => ?_) (fun hc => ?_) <;> try (exfalso; omega)) | refine Cw.cond_bool rfl (fun hc => ?_) (fun hc => ?_)) | fail)
  refine Cw.loopI [(9, _), (10, _)] _ (fun n e cc => ∃ (k : Nat) (ad : Option Addr) (cap : Nat) (rows : List (List Tr)), n = l.length - k ∧ (k ≤ l.length ∧ rows = intRows ((l.take k).map leftI) ∧ rows.length = k) ∧ e = [(3, Tr.raw (.slice ad rows.length cap)), (11, .int k)] ∧ cc = [Chunk.own ad cap 1 3 rows])
    ⟨_, _, _, Ent.trans (Ent.nil 1 3) (Ent.mkP (by repeat' (first | exact Sub.nil | refine Sub.cons rfl ?_)) (by repeat' (first | exact List.Perm.refl _ | refine Perm.cons' (by first | exact pick0 | exact pickS pick0 | exact pickS (pickS pick0) | exact pickS (pickS (pickS pick0)) | exact pickS (pickS (pickS (pickS pick0)))) ?_))), 0, none, 0, [], rfl, ⟨by omega, rfl, by simp⟩, rfl, rfl⟩ ?_
  rintro _ _ _ ⟨k, ad, cap, rows, rfl, ⟨hk, hrows, hrl⟩, rfl, rfl⟩
  by_cases hkl : k < l.length
  · obtain ⟨x, hx⟩ := at_lt hkl
    have hrow : (l.map Site.row)[((k : Nat) : Int).toNat]? = some [.str x.key, .ints x.have_, .ints x.rate] := rows_at hx
    obtain ⟨⟨v1, v2, v3⟩, vb⟩ := sitesE_at h0 hx
    have hH := intRows_len x.have_
    have hR := intRows_len x.rate
    repeat' (first | refine goH ?_ | refine goV ?_ | refine goB (fun b => ?_) | refine goC (fun ad cap => ?_) | refine goI ?_ | (refine Cw.k_cond ?_; first | (refine Cw.cond_dec rfl (fun hc => ?_) (fun hc => ?_) <;> try (exfalso; omega)) | refine Cw.cond_bool rfl (fun hc => ?_) (fun hc => ?_)) | fail)
    refine Cw.loopI [(3, _), (5, _), (9, _), (10, _), (11, _), (16, _), (17, _)] _ (fun q e cc => ∃ (i : Nat) (n : Int), q = x.rate.length - i ∧ (i ≤ x.rate.length ∧ leftR (x.have_.drop i) (x.rate.drop i) n = leftI x ∧ 0 ≤ n ∧ n ≤ 4000) ∧ e = [(6, .int n), (18, .int i)] ∧ cc = [])
      ⟨_, _, _, (Ent.mkP (by repeat' (first | exact Sub.nil | refine Sub.cons rfl ?_)) (by repeat' (first | exact List.Perm.refl _ | refine Perm.cons' (by first | exact pick0 | exact pickS pick0 | exact pickS (pickS pick0) | exact pickS (pickS (pickS pick0)) | exact pickS (pickS (pickS (pickS pick0)))) ?_))), 0, 4000, rfl, ⟨by omega, rfl, by omega, by omega⟩, rfl, rfl⟩ ?_
    rintro _ _ _ ⟨i, n, rfl, ⟨hi, hV, n1, n2⟩, rfl, rfl⟩
    by_cases hil : i < x.rate.length
    · obtain ⟨rv, hrv⟩ := at_lt hil
      obtain ⟨hv, hhv⟩ := at_lt (l := x.have_) (k := i) (by omega)
      have hr1 := intRows_at hhv
      have hr2 := intRows_at hrv
      have hb := vb i hv rv hhv hrv
      rw [drop_at hhv, drop_at hrv, leftR] at hV
      by_cases hpos : 0 < rv
      · rw [if_pos hpos] at hV
        have hq : 0 ≤ 100 * hv / rv := Int.ediv_nonneg (by omega) (by omega)
        repeat' (first | refine goH ?_ | refine goV ?_ | refine goB (fun b => ?_) | refine goC (fun ad cap => ?_) | refine goI ?_ | (refine Cw.k_cond ?_; first | (refine Cw.cond_dec rfl (fun hc => ?_) (fun hc => ?_) <;> try (exfalso; omega)) | refine Cw.cond_bool rfl (fun hc => ?_) (fun hc => ?_)) | fail)
        exact ⟨_, _, _, (Ent.mk (by repeat' (first | exact Sub.nil | refine Sub.cons rfl ?_)) (by repeat' (first | exact Take.nil | refine Take.cons (by first | exact pick0 | exact pickS pick0 | exact pickS (pickS pick0) | exact pickS (pickS (pickS pick0)) | exact pickS (pickS (pickS (pickS pick0)))) ?_))), ⟨i + 1, _, rfl, ⟨by omega, hV, by omega, by omega⟩, rfl, rfl⟩, by omega⟩
      · rw [if_neg hpos] at hV
        repeat' (first | refine goH ?_ | refine goV ?_ | refine goB (fun b => ?_) | refine goC (fun ad cap => ?_) | refine goI ?_ | (refine Cw.k_cond ?_; first | (refine Cw.cond_dec rfl (fun hc => ?_) (fun hc => ?_) <;> try (exfalso; omega)) | refine Cw.cond_bool rfl (fun hc => ?_) (fun hc => ?_)) | fail)
        exact ⟨_, _, _, (Ent.mk (by repeat' (first | exact Sub.nil | refine Sub.cons rfl ?_)) (by repeat' (first | exact Take.nil | refine Take.cons (by first | exact pick0 | exact pickS pick0 | exact pickS (pickS pick0) | exact pickS (pickS (pickS pick0)) | exact pickS (pickS (pickS (pickS pick0)))) ?_))), ⟨i + 1, _, rfl, ⟨by omega, hV, by omega, by omega⟩, rfl, rfl⟩, by omega⟩
    · rw [List.drop_eq_nil_of_le (by omega), leftR_nil] at hV
      subst hV
      have key : rows ++ [[Tr.int (leftI x)]] = intRows ((l.take (k + 1)).map leftI) := by rw [take_at hx, List.map_append, intRows_app, ← hrows]; rfl
      repeat' (first | refine goH ?_ | refine goV ?_ | refine goB (fun b => ?_) | refine goC (fun ad cap => ?_) | refine goI ?_ | (refine Cw.k_cond ?_; first | (refine Cw.cond_dec rfl (fun hc => ?_) (fun hc => ?_) <;> try (exfalso; omega)) | refine Cw.cond_bool rfl (fun hc => ?_) (fun hc => ?_)) | fail)
      rw [key]
      exact ⟨_, _, _, (Ent.mk (by repeat' (first | exact Sub.nil | refine Sub.cons rfl ?_)) (by repeat' (first | exact Take.nil | refine Take.cons (by first | exact pick0 | exact pickS pick0 | exact pickS (pickS pick0) | exact pickS (pickS (pickS pick0)) | exact pickS (pickS (pickS (pickS pick0)))) ?_))), ⟨k + 1, _, _, _, rfl, ⟨by omega, rfl, by rw [intRows_len, List.length_map, List.length_take]; omega⟩, rfl, rfl⟩, by omega⟩
  · rw [List.take_of_length_le (by omega)] at hrows
    subst hrows
    repeat' (first | refine goH ?_ | refine goV ?_ | refine goB (fun b => ?_) | refine goC (fun ad cap => ?_) | refine goI ?_ | (refine Cw.k_cond ?_; first | (refine Cw.cond_dec rfl (fun hc => ?_) (fun hc => ?_) <;> try (exfalso; omega)) | refine Cw.cond_bool rfl (fun hc => ?_) (fun hc => ?_)) | fail)
    refine Fin.ret (Ent.trans (Ent.settle (s := 2) rfl (by first | exact pick0 | exact pickS pick0 | exact pickS (pickS pick0) | exact pickS (pickS (pickS pick0)) | exact pickS (pickS (pickS (pickS pick0)))) rfl) (Ent.take (by repeat' (first | exact Take.nil | refine Take.cons (by first | exact pick0 | exact pickS pick0 | exact pickS (pickS pick0) | exact pickS (pickS (pickS pick0)) | exact pickS (pickS (pickS (pickS pick0)))) ?_)))) (Outs.sole rfl (by first | exact OutE.tmp rfl | exact OutE.agg inferInstance rfl rfl | exact OutE.one inferInstance rfl)) ⟨rfl, rfl⟩
end Lg
