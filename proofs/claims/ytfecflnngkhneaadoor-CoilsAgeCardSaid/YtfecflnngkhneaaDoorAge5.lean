/- A part of the proof of a law of this seat: it adds no condition. By an AI agent. -/
import Derived.Test.YtfecflnngkhneaaDoorAge4
set_option linter.all false
set_option maxRecDepth 100000
set_option maxHeartbeats 4000000
namespace Lg
open Go Go.Proofs

theorem staleOf_fn (c : Coil) (hc : c.ps.length ≤ 1000) (hm : ∀ p ∈ c.ps, 1 ≤ p.many ∧ p.many ≤ 1000) (l : List Lot) (hl : l.length ≤ 1000000) (day : Int) (hday : 0 ≤ day ∧ day ≤ 4000) (sales : List Int) (hs : sales.length ≤ 1000) (hsb : ∀ m ∈ sales, 0 ≤ m ∧ m ≤ 1000) :
    PFn Tryd.prog 19 [.agg c.row, .lots l, .int day, .ints sales] (· = .int (staleI l c.ps day sales)) := by
  have hu := (units_ref c.ps (fun p hp => by have := hm p hp; omega) (by omega)).val
  have hul := unitsU_len (ps := c.ps) (fun p hp => by have := hm p hp; omega)
  have hub := unitsI_bd c.ps hm
  have hL := intRows_len sales
  refine PFn.mk (Spec.body Tryd.func19 rfl rfl (Tryd.ntmps19) rfl fun w0 own0 M => ?_)
  obtain ⟨prod, most, ps⟩ := c
  unfold Coil.row staleI
  simp only at *
  generalize unitsU ps = us at *
  clear hm
  have hL2 := strRows_len us
  repeat' (first | refine goH ?_ | refine goV ?_ | refine goB (fun b => ?_) | refine goI ?_ | (refine Cw.k_cond ?_; first | (refine Cw.cond_dec rfl (fun hc => ?_) (fun hc => ?_) <;> try (exfalso; omega)) | refine Cw.cond_bool rfl (fun hc => ?_) (fun hc => ?_)) | (refine Ops.k_calla ?_; first | (refine Ops.k_callf 50 ?_; refine Ops.callV hu (Evs.cons rfl Evs.nil) rfl ?_)) | fail)
  refine Cw.loopI [(1, _), (2, _), (3, _)] _ (fun q e cc => ∃ (i : Nat) (n : Int) (all : List ByteArray), q = (sales.length - i) + all.length ∧ (n + staleGo (day + (min i sales.length : Nat)) (sales.drop i) (expsU l all) = staleGo day sales (expsU l us) ∧ 0 ≤ n ∧ n + all.length ≤ 1000000 ∧ i ≤ 1000000 + 1000000 - all.length) ∧ e = [(9, .strs all), (10, .int n), (11, .int i)] ∧ cc = [])
    ⟨_, _, _, (Ent.mkP (by repeat' (first | exact Sub.nil | refine Sub.cons rfl ?_)) (by repeat' (first | exact List.Perm.refl _ | refine Perm.cons' (by first | exact pick0 | exact pickS pick0 | exact pickS (pickS pick0) | exact pickS (pickS (pickS pick0)) | exact pickS (pickS (pickS (pickS pick0)))) ?_))), 0, 0, us, rfl, ⟨by simp, by omega, by omega, by omega⟩, rfl, rfl⟩ ?_
  rintro _ _ _ ⟨i, n, all, rfl, ⟨hV, b1, b2, b3⟩, rfl, rfl⟩
  have hL3 := strRows_len all
  cases hall : all with
  | nil =>
    subst hall
    rw [show expsU l [] = [] from rfl, staleGo_nil] at hV
    repeat' (first | refine goH ?_ | refine goV ?_ | refine goB (fun b => ?_) | refine goI ?_ | (refine Cw.k_cond ?_; first | (refine Cw.cond_dec rfl (fun hc => ?_) (fun hc => ?_) <;> try (exfalso; omega)) | refine Cw.cond_bool rfl (fun hc => ?_) (fun hc => ?_)) | fail)
    exact Fin.ret (Ent.take (by repeat' (first | exact Take.nil | refine Take.cons (by first | exact pick0 | exact pickS pick0 | exact pickS (pickS pick0) | exact pickS (pickS (pickS pick0)) | exact pickS (pickS (pickS (pickS pick0)))) ?_))) (Outs.one rfl rfl) ⟨rfl, congrArg Tr.int (by omega)⟩
  | cons u0 rest0 =>
    rw [← hall]
    have hpos : 0 < all.length := by rw [hall]; simp
    clear hall
    have inner : ∀ (q : Nat) (hq : q ≤ all.length) (d : Int) (hd : d = day + (min i sales.length : Nat)), True := fun _ _ _ _ => trivial
    have hexl : (expsU l all).length = all.length := by simp [expsU]
    by_cases hil : i < sales.length
    · obtain ⟨m, hm⟩ := at_lt hil
      have hrow := intRows_at hm
      have hmb := hsb m (List.mem_of_getElem? hm)
      rw [drop_at hm, staleGo, hexl] at hV
      obtain ⟨q, hq⟩ : ∃ q, q = min m.toNat all.length := ⟨_, rfl⟩
      rw [← hq] at hV
      have hqi : min m ((strRows all).length : Int) = (q : Int) := by omega
      have htk : (strRows all).take ((q : Nat) : Int).toNat = strRows (all.take q) := by simp [strRows, List.map_take]
      have hdr : (strRows all).drop ((q : Nat) : Int).toNat = strRows (all.drop q) := by simp [strRows, List.map_drop]
      have hL4 : (strRows (all.take q)).length = q := by rw [strRows_len, List.length_take]; omega
      have hte : (expsU l all).take q = expsU l (all.take q) := by simp [expsU, List.map_take]
      have hde : (expsU l all).drop q = expsU l (all.drop q) := by simp [expsU, List.map_drop]
      rw [hte, hde] at hV
      repeat' (first | refine goH ?_ | ((fail_if_success refine Ops.k_c_min ?_); refine goV ?_) | ((fail_if_success refine Ops.k_c_min ?_); refine goB (fun b => ?_)) | refine goI ?_ | (refine Cw.k_cond ?_; first | (refine Cw.cond_dec rfl (fun hc => ?_) (fun hc => ?_) <;> try (exfalso; omega)) | refine Cw.cond_bool rfl (fun hc => ?_) (fun hc => ?_)) | fail)
      refine Ops.min2 rfl rfl rfl ?_
      rw [hqi]
      repeat' (first | refine goH ?_ | refine goV ?_ | refine goB (fun b => ?_) | refine goI ?_ | (refine Cw.k_cond ?_; first | (refine Cw.cond_dec rfl (fun hc => ?_) (fun hc => ?_) <;> try (exfalso; omega)) | refine Cw.cond_bool rfl (fun hc => ?_) (fun hc => ?_)) | fail)
      rw [htk]
      refine Cw.loopI [(1, _), (2, _), (3, _), (9, _), (11, _), (12, _), (39, _), (40, _)] _ (fun x e cc => ∃ (j : Nat) (s : Int), x = q - j ∧ (j ≤ q ∧ s + cntLt (day + (min i sales.length : Nat)) (expsU l ((all.take q).drop j)) = n + cntLt (day + (min i sales.length : Nat)) (expsU l (all.take q)) ∧ 0 ≤ s ∧ s ≤ n + j) ∧ e = [(10, .int s), (41, .int j)] ∧ cc = [])
        ⟨_, _, _, (Ent.mkP (by repeat' (first | exact Sub.nil | refine Sub.cons rfl ?_)) (by repeat' (first | exact List.Perm.refl _ | refine Perm.cons' (by first | exact pick0 | exact pickS pick0 | exact pickS (pickS pick0) | exact pickS (pickS (pickS pick0)) | exact pickS (pickS (pickS (pickS pick0)))) ?_))), 0, n, rfl, ⟨by omega, by simp, by omega, by omega⟩, rfl, rfl⟩ ?_
      rintro _ _ _ ⟨j, s, rfl, ⟨hj, hW, c1, c2⟩, rfl, rfl⟩
      by_cases hjl : j < q
      · obtain ⟨x, hx⟩ : ∃ x, (all.take q)[j]? = some x := at_lt (by rw [List.length_take]; omega)
        have hrowx := strRows_at hx
        have hlo := lotOf_fn l hl x
        unfold Lot.row at hlo
        have hexp : expOf l x = (lotD l x).exp := rfl
        rw [drop_at hx, show ∀ t, expsU l (x :: t) = expOf l x :: expsU l t from fun _ => rfl, cntLt_cons, hexp] at hW
        generalize lotD l x = y at hlo hW
        by_cases hd : y.exp < day + ((min i sales.length : Nat) : Int)
        · rw [if_pos hd] at hW
          repeat' (first | refine goH ?_ | refine goV ?_ | refine goB (fun b => ?_) | refine goI ?_ | (refine Cw.k_cond ?_; first | (refine Cw.cond_dec rfl (fun hc => ?_) (fun hc => ?_) <;> try (exfalso; omega)) | refine Cw.cond_bool rfl (fun hc => ?_) (fun hc => ?_)) | (refine Ops.k_calla ?_; first | (refine Ops.k_callf 47 ?_; refine Ops.callV hlo (Evs.cons rfl (Evs.cons rfl Evs.nil)) rfl ?_)) | fail)
          exact ⟨_, _, _, (Ent.mk (by repeat' (first | exact Sub.nil | refine Sub.cons rfl ?_)) (by repeat' (first | exact Take.nil | refine Take.cons (by first | exact pick0 | exact pickS pick0 | exact pickS (pickS pick0) | exact pickS (pickS (pickS pick0)) | exact pickS (pickS (pickS (pickS pick0)))) ?_))), ⟨j + 1, _, rfl, ⟨by omega, by omega, by omega, by omega⟩, rfl, rfl⟩, by omega⟩
        · rw [if_neg hd] at hW
          repeat' (first | refine goH ?_ | refine goV ?_ | refine goB (fun b => ?_) | refine goI ?_ | (refine Cw.k_cond ?_; first | (refine Cw.cond_dec rfl (fun hc => ?_) (fun hc => ?_) <;> try (exfalso; omega)) | refine Cw.cond_bool rfl (fun hc => ?_) (fun hc => ?_)) | (refine Ops.k_calla ?_; first | (refine Ops.k_callf 47 ?_; refine Ops.callV hlo (Evs.cons rfl (Evs.cons rfl Evs.nil)) rfl ?_)) | fail)
          exact ⟨_, _, _, (Ent.mk (by repeat' (first | exact Sub.nil | refine Sub.cons rfl ?_)) (by repeat' (first | exact Take.nil | refine Take.cons (by first | exact pick0 | exact pickS pick0 | exact pickS (pickS pick0) | exact pickS (pickS (pickS pick0)) | exact pickS (pickS (pickS (pickS pick0)))) ?_))), ⟨j + 1, _, rfl, ⟨by omega, by omega, by omega, by omega⟩, rfl, rfl⟩, by omega⟩
      · have hje : j = q := by omega
        rw [List.drop_eq_nil_of_le (by rw [List.length_take]; omega), show cntLt (day + ((min i sales.length : Nat) : Int)) (expsU l []) = 0 from rfl] at hW
        repeat' (first | refine goH ?_ | refine goV ?_ | refine goB (fun b => ?_) | refine goI ?_ | (refine Cw.k_cond ?_; first | (refine Cw.cond_dec rfl (fun hc => ?_) (fun hc => ?_) <;> try (exfalso; omega)) | refine Cw.cond_bool rfl (fun hc => ?_) (fun hc => ?_)) | fail)
        rw [hdr]
        have hdl : (all.drop q).length = all.length - q := List.length_drop
        refine ⟨_, _, _, (Ent.mk (by repeat' (first | exact Sub.nil | refine Sub.cons rfl ?_)) (by repeat' (first | exact Take.nil | refine Take.cons (by first | exact pick0 | exact pickS pick0 | exact pickS (pickS pick0) | exact pickS (pickS (pickS pick0)) | exact pickS (pickS (pickS (pickS pick0)))) ?_))), ⟨i + 1, _, all.drop q, rfl, ⟨?_, by omega, by omega, by omega⟩, rfl, rfl⟩, by omega⟩
        rw [show min (i + 1) sales.length = min i sales.length + 1 by omega, show day + ((min i sales.length + 1 : Nat) : Int) = day + ((min i sales.length : Nat) : Int) + 1 by omega, ← hV]
        omega
    · rw [List.drop_eq_nil_of_le (by omega), staleGo] at hV
      obtain ⟨q, hq⟩ : ∃ q, q = all.length := ⟨_, rfl⟩
      have hqi : ((strRows all).length : Int) = (q : Int) := by omega
      have htk : (strRows all).take ((q : Nat) : Int).toNat = strRows (all.take q) := by simp [strRows, List.map_take]
      have hdr : (strRows all).drop ((q : Nat) : Int).toNat = strRows (all.drop q) := by simp [strRows, List.map_drop]
      have hL4 : (strRows (all.take q)).length = q := by rw [strRows_len, List.length_take]; omega
      have hta : all.take q = all := List.take_of_length_le (by omega)
      rw [← hta] at hV
      repeat' (first | refine goH ?_ | ((fail_if_success refine Ops.k_slice ?_); refine goV ?_) | ((fail_if_success refine Ops.k_slice ?_); refine goB (fun b => ?_)) | refine goI ?_ | (refine Cw.k_cond ?_; first | (refine Cw.cond_dec rfl (fun hc => ?_) (fun hc => ?_) <;> try (exfalso; omega)) | refine Cw.cond_bool rfl (fun hc => ?_) (fun hc => ?_)) | fail)
      rw [hqi]
      repeat' (first | refine goH ?_ | refine goV ?_ | refine goB (fun b => ?_) | refine goI ?_ | (refine Cw.k_cond ?_; first | (refine Cw.cond_dec rfl (fun hc => ?_) (fun hc => ?_) <;> try (exfalso; omega)) | refine Cw.cond_bool rfl (fun hc => ?_) (fun hc => ?_)) | fail)
      rw [htk]
      refine Cw.loopI [(1, _), (2, _), (3, _), (9, _), (11, _), (12, _), (39, _), (40, _)] _ (fun x e cc => ∃ (j : Nat) (s : Int), x = q - j ∧ (j ≤ q ∧ s + cntLt (day + (min i sales.length : Nat)) (expsU l ((all.take q).drop j)) = n + cntLt (day + (min i sales.length : Nat)) (expsU l (all.take q)) ∧ 0 ≤ s ∧ s ≤ n + j) ∧ e = [(10, .int s), (41, .int j)] ∧ cc = [])
        ⟨_, _, _, (Ent.mkP (by repeat' (first | exact Sub.nil | refine Sub.cons rfl ?_)) (by repeat' (first | exact List.Perm.refl _ | refine Perm.cons' (by first | exact pick0 | exact pickS pick0 | exact pickS (pickS pick0) | exact pickS (pickS (pickS pick0)) | exact pickS (pickS (pickS (pickS pick0)))) ?_))), 0, n, rfl, ⟨by omega, by simp, by omega, by omega⟩, rfl, rfl⟩ ?_
      rintro _ _ _ ⟨j, s, rfl, ⟨hj, hW, c1, c2⟩, rfl, rfl⟩
      by_cases hjl : j < q
      · obtain ⟨x, hx⟩ : ∃ x, (all.take q)[j]? = some x := at_lt (by rw [List.length_take]; omega)
        have hrowx := strRows_at hx
        have hlo := lotOf_fn l hl x
        unfold Lot.row at hlo
        have hexp : expOf l x = (lotD l x).exp := rfl
        rw [drop_at hx, show ∀ t, expsU l (x :: t) = expOf l x :: expsU l t from fun _ => rfl, cntLt_cons, hexp] at hW
        generalize lotD l x = y at hlo hW
        by_cases hd : y.exp < day + ((min i sales.length : Nat) : Int)
        · rw [if_pos hd] at hW
          repeat' (first | refine goH ?_ | refine goV ?_ | refine goB (fun b => ?_) | refine goI ?_ | (refine Cw.k_cond ?_; first | (refine Cw.cond_dec rfl (fun hc => ?_) (fun hc => ?_) <;> try (exfalso; omega)) | refine Cw.cond_bool rfl (fun hc => ?_) (fun hc => ?_)) | (refine Ops.k_calla ?_; first | (refine Ops.k_callf 47 ?_; refine Ops.callV hlo (Evs.cons rfl (Evs.cons rfl Evs.nil)) rfl ?_)) | fail)
          exact ⟨_, _, _, (Ent.mk (by repeat' (first | exact Sub.nil | refine Sub.cons rfl ?_)) (by repeat' (first | exact Take.nil | refine Take.cons (by first | exact pick0 | exact pickS pick0 | exact pickS (pickS pick0) | exact pickS (pickS (pickS pick0)) | exact pickS (pickS (pickS (pickS pick0)))) ?_))), ⟨j + 1, _, rfl, ⟨by omega, by omega, by omega, by omega⟩, rfl, rfl⟩, by omega⟩
        · rw [if_neg hd] at hW
          repeat' (first | refine goH ?_ | refine goV ?_ | refine goB (fun b => ?_) | refine goI ?_ | (refine Cw.k_cond ?_; first | (refine Cw.cond_dec rfl (fun hc => ?_) (fun hc => ?_) <;> try (exfalso; omega)) | refine Cw.cond_bool rfl (fun hc => ?_) (fun hc => ?_)) | (refine Ops.k_calla ?_; first | (refine Ops.k_callf 47 ?_; refine Ops.callV hlo (Evs.cons rfl (Evs.cons rfl Evs.nil)) rfl ?_)) | fail)
          exact ⟨_, _, _, (Ent.mk (by repeat' (first | exact Sub.nil | refine Sub.cons rfl ?_)) (by repeat' (first | exact Take.nil | refine Take.cons (by first | exact pick0 | exact pickS pick0 | exact pickS (pickS pick0) | exact pickS (pickS (pickS pick0)) | exact pickS (pickS (pickS (pickS pick0)))) ?_))), ⟨j + 1, _, rfl, ⟨by omega, by omega, by omega, by omega⟩, rfl, rfl⟩, by omega⟩
      · have hje : j = q := by omega
        rw [List.drop_eq_nil_of_le (by rw [List.length_take]; omega), show cntLt (day + ((min i sales.length : Nat) : Int)) (expsU l []) = 0 from rfl] at hW
        repeat' (first | refine goH ?_ | refine goV ?_ | refine goB (fun b => ?_) | refine goI ?_ | (refine Cw.k_cond ?_; first | (refine Cw.cond_dec rfl (fun hc => ?_) (fun hc => ?_) <;> try (exfalso; omega)) | refine Cw.cond_bool rfl (fun hc => ?_) (fun hc => ?_)) | fail)
        rw [hdr]
        have hdl : (all.drop q).length = all.length - q := List.length_drop
        have hdn : all.drop q = [] := List.drop_eq_nil_of_le (by omega)
        refine ⟨_, _, _, (Ent.mk (by repeat' (first | exact Sub.nil | refine Sub.cons rfl ?_)) (by repeat' (first | exact Take.nil | refine Take.cons (by first | exact pick0 | exact pickS pick0 | exact pickS (pickS pick0) | exact pickS (pickS (pickS pick0)) | exact pickS (pickS (pickS (pickS pick0)))) ?_))), ⟨i + 1, _, all.drop q, rfl, ⟨?_, by omega, by omega, by omega⟩, rfl, rfl⟩, by omega⟩
        rw [hdn, show expsU l [] = [] from rfl, staleGo_nil]
        omega
end Lg
