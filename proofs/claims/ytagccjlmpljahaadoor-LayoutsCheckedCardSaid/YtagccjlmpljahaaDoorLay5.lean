/- A part of the proof of a law of this seat: it adds no condition. By an AI agent. -/
import Derived.Test.YtagccjlmpljahaaDoorFind
import Derived.Test.YtagccjlmpljahaaDoorOff2
import Derived.Test.YtagccjlmpljahaaDoorLgX
set_option linter.all false
set_option maxRecDepth 100000
set_option maxHeartbeats 4000000
namespace Lg
open Go Go.Proofs

def listE (l : List Offer) (xs : List ByteArray) : Int := if xs.length > 60 then 2 else if xs.any (oddB l) then 8 else 0
theorem listFault_fn (l : List Offer) (hl : l.length ≤ 1000000) (xs : List ByteArray) (hx : xs.length ≤ 1000000) : PFn Tryd.prog 32 [.offers l, .strs xs] (· = .int (listE l xs)) := by
  have k := strange_fn l hl xs hx
  have hL := strRows_len xs
  refine PFn.mk (Spec.body Tryd.func32 rfl rfl (Tryd.ntmps32) rfl fun w0 own0 M => ?_)
  unfold listE
  by_cases h1 : xs.length > 60
  · rw [if_pos h1]
    repeat' (first | refine goH ?_ | refine goV ?_ | refine goI ?_ | (refine Cw.k_cond ?_; first | (refine Cw.cond_dec rfl (fun hc => ?_) (fun hc => ?_) <;> try (exfalso; omega)) | refine Cw.cond_bool rfl (fun hc => ?_) (fun hc => ?_)) | fail)
    exact Fin.ret Ent.refl (Outs.one rfl rfl) ⟨rfl, rfl⟩
  rw [if_neg h1]
  cases h2 : xs.any (oddB l)
  · rw [h2] at k
    repeat' (first | refine goH ?_ | refine goV ?_ | refine goI ?_ | (refine Cw.k_cond ?_; first | (refine Cw.cond_dec rfl (fun hc => ?_) (fun hc => ?_) <;> try (exfalso; omega)) | refine Cw.cond_bool rfl (fun hc => ?_) (fun hc => ?_)) | (refine Ops.k_calla ?_; first | (refine Ops.k_callf 73 ?_; refine Ops.callV k (Evs.cons rfl (Evs.cons rfl Evs.nil)) rfl ?_)) | fail)
    exact Fin.ret Ent.refl (Outs.one rfl rfl) ⟨rfl, rfl⟩
  · rw [h2] at k
    repeat' (first | refine goH ?_ | refine goV ?_ | refine goI ?_ | (refine Cw.k_cond ?_; first | (refine Cw.cond_dec rfl (fun hc => ?_) (fun hc => ?_) <;> try (exfalso; omega)) | refine Cw.cond_bool rfl (fun hc => ?_) (fun hc => ?_)) | (refine Ops.k_calla ?_; first | (refine Ops.k_callf 73 ?_; refine Ops.callV k (Evs.cons rfl (Evs.cons rfl Evs.nil)) rfl ?_)) | fail)
    exact Fin.ret Ent.refl (Outs.one rfl rfl) ⟨rfl, rfl⟩

def cntS (l : List Offer) (g : List Int) (x : ByteArray) : List Int := if x = ⟨#[]⟩ then g else g.set (offIx l x).toNat (g.getD (offIx l x).toNat 0 + 1)
def cntF (l : List Offer) (xs : List ByteArray) : List Int := xs.foldl (cntS l) (List.replicate l.length 0)
theorem cntS_len (l : List Offer) (g : List Int) (x : ByteArray) : (cntS l g x).length = g.length := by
  unfold cntS
  split <;> simp
theorem cntF_snoc (l : List Offer) (xs : List ByteArray) (x : ByteArray) : cntF l (xs ++ [x]) = cntS l (cntF l xs) x := by simp [cntF, List.foldl_append]
theorem foldl_cnt_len (l : List Offer) : ∀ (xs : List ByteArray) (g : List Int), (xs.foldl (cntS l) g).length = g.length
  | [], g => rfl
  | x :: xs, g => by rw [List.foldl_cons, foldl_cnt_len l xs, cntS_len]
theorem cntF_len (l : List Offer) (xs : List ByteArray) : (cntF l xs).length = l.length := by unfold cntF; rw [foldl_cnt_len, List.length_replicate]
theorem cntS_bd {l : List Offer} {g : List Int} {x : ByteArray} {k : Int} (h : ∀ v ∈ g, 0 ≤ v ∧ v ≤ k) (hk : 0 ≤ k) : ∀ v ∈ cntS l g x, 0 ≤ v ∧ v ≤ k + 1 := by
  intro v hv
  unfold cntS at hv
  split at hv
  · have := h v hv; omega
  · rcases List.mem_or_eq_of_mem_set hv with h1 | rfl
    · have := h v h1; omega
    · have : 0 ≤ g.getD (offIx l x).toNat 0 ∧ g.getD (offIx l x).toNat 0 ≤ k := by
        rw [List.getD_eq_getElem?_getD]
        cases hg : g[(offIx l x).toNat]? with
        | none => exact ⟨Int.le_refl _, hk⟩
        | some y => exact h y (List.mem_of_getElem? hg)
      omega
theorem oddB_ok {l : List Offer} {x : ByteArray} (h : oddB l x = false) (hx : ¬ x = ⟨#[]⟩) : ∃ (j : Nat) (o : Offer), offIx l x = j ∧ l[j]? = some o ∧ j < l.length := by
  unfold oddB at h
  rw [if_neg hx] at h
  cases f : findO l x with
  | none => rw [f] at h; cases h
  | some o =>
    obtain ⟨j, h1, h2⟩ := offIx_some f
    exact ⟨j, o, h1, h2, (List.getElem?_eq_some_iff.1 h2).1⟩
theorem any_odd {l : List Offer} {xs : List ByteArray} (h : xs.any (oddB l) = false) : ∀ x ∈ xs, oddB l x = false := by
  intro x hx
  cases h2 : oddB l x
  · rfl
  · rw [List.any_eq_true.2 ⟨x, hx, h2⟩] at h; cases h
theorem zeroRows (n : Nat) : List.replicate n [Tr.raw (.int .i64 0)] = intRows (List.replicate n 0) := by unfold intRows; rw [List.map_replicate]
theorem intRows_set (l : List Int) (i : Nat) (v : Int) : (intRows l).set i [Tr.int v] = intRows (l.set i v) := by
  unfold intRows
  rw [List.map_set]

def cnt1E (l : List Offer) (xs : List ByteArray) : Int := if offersE l ≠ 0 then offersE l else listE l xs

theorem counts_fn (l : List Offer) (hl : OBd l) (xs : List ByteArray) (hx : xs.length ≤ 1000) : PFn Tryd.prog 30 [.offers l, .strs xs] (· = .tup [.ints (if cnt1E l xs ≠ 0 then [] else cntF l xs), .int (cnt1E l xs)]) := by
  have k1 := checkOffers_fn l hl
  have hll := hl.1
  have k2 := unknown_fn l (by omega) xs (by omega)
  have hL := strRows_len xs
  have hL2 : (l.map Offer.row).length = l.length := List.length_map _
  refine PFn.mk (Spec.body Tryd.func30 rfl rfl (Tryd.ntmps30) rfl fun w0 own0 M => ?_)
  by_cases h1 : offersE l ≠ 0
  · have e : cnt1E l xs = offersE l := by unfold cnt1E; rw [if_pos h1]
    rw [e, if_pos h1]
    generalize offersE l = oe at *
    repeat' (first | refine goH ?_ | refine goV ?_ | refine goC (fun ad cap => ?_) | refine goI ?_ | (refine Cw.k_cond ?_; first | (refine Cw.cond_dec rfl (fun hc => ?_) (fun hc => ?_) <;> try (exfalso; omega)) | refine Cw.cond_bool rfl (fun hc => ?_) (fun hc => ?_)) | (refine Ops.k_calla ?_; first | (refine Ops.k_callf 75 ?_; refine Ops.callV k1 (Evs.cons rfl Evs.nil) rfl ?_)) | fail)
    refine Fin.ret (Ent.trans (Ent.nilsl 1 (s := 4) rfl) (Ent.take (by repeat' (first | exact Take.nil | refine Take.cons (by first | exact pick0 | exact pickS pick0 | exact pickS (pickS pick0) | exact pickS (pickS (pickS pick0)) | exact pickS (pickS (pickS (pickS pick0)))) ?_)))) (Outs.many rfl (OutL.cons (by first | exact OutE.tmp rfl | exact OutE.agg inferInstance rfl rfl | exact OutE.one inferInstance rfl) (OutL.cons (by first | exact OutE.tmp rfl | exact OutE.agg inferInstance rfl rfl | exact OutE.one inferInstance rfl) OutL.nil)) rfl) ⟨rfl, rfl⟩
  have e : cnt1E l xs = listE l xs := by unfold cnt1E; rw [if_neg h1]
  rw [show offersE l = 0 by omega] at k1
  rw [e]
  unfold listE
  by_cases h2 : xs.length > 60
  · rw [if_pos h2]
    repeat' (first | refine goH ?_ | refine goV ?_ | refine goC (fun ad cap => ?_) | refine goI ?_ | (refine Cw.k_cond ?_; first | (refine Cw.cond_dec rfl (fun hc => ?_) (fun hc => ?_) <;> try (exfalso; omega)) | refine Cw.cond_bool rfl (fun hc => ?_) (fun hc => ?_)) | (refine Ops.k_calla ?_; first | (refine Ops.k_callf 75 ?_; refine Ops.callV k1 (Evs.cons rfl Evs.nil) rfl ?_) | (refine Ops.k_callf 76 ?_; refine Ops.callV k2 (Evs.cons rfl (Evs.cons rfl Evs.nil)) rfl ?_)) | fail)
    refine Fin.ret (Ent.trans (Ent.nilsl 1 (s := 4) rfl) (Ent.take (by repeat' (first | exact Take.nil | refine Take.cons (by first | exact pick0 | exact pickS pick0 | exact pickS (pickS pick0) | exact pickS (pickS (pickS pick0)) | exact pickS (pickS (pickS (pickS pick0)))) ?_)))) (Outs.many rfl (OutL.cons (by first | exact OutE.tmp rfl | exact OutE.agg inferInstance rfl rfl | exact OutE.one inferInstance rfl) (OutL.cons (by first | exact OutE.tmp rfl | exact OutE.agg inferInstance rfl rfl | exact OutE.one inferInstance rfl) OutL.nil)) rfl) ⟨rfl, rfl⟩
  rw [if_neg h2]
  cases hodd : xs.any (oddB l)
  rotate_left
  · rw [hodd] at k2
    repeat' (first | refine goH ?_ | refine goV ?_ | refine goC (fun ad cap => ?_) | refine goI ?_ | (refine Cw.k_cond ?_; first | (refine Cw.cond_dec rfl (fun hc => ?_) (fun hc => ?_) <;> try (exfalso; omega)) | refine Cw.cond_bool rfl (fun hc => ?_) (fun hc => ?_)) | (refine Ops.k_calla ?_; first | (refine Ops.k_callf 75 ?_; refine Ops.callV k1 (Evs.cons rfl Evs.nil) rfl ?_) | (refine Ops.k_callf 76 ?_; refine Ops.callV k2 (Evs.cons rfl (Evs.cons rfl Evs.nil)) rfl ?_)) | fail)
    refine Fin.ret (Ent.trans (Ent.nilsl 1 (s := 4) rfl) (Ent.take (by repeat' (first | exact Take.nil | refine Take.cons (by first | exact pick0 | exact pickS pick0 | exact pickS (pickS pick0) | exact pickS (pickS (pickS pick0)) | exact pickS (pickS (pickS (pickS pick0)))) ?_)))) (Outs.many rfl (OutL.cons (by first | exact OutE.tmp rfl | exact OutE.agg inferInstance rfl rfl | exact OutE.one inferInstance rfl) (OutL.cons (by first | exact OutE.tmp rfl | exact OutE.agg inferInstance rfl rfl | exact OutE.one inferInstance rfl) OutL.nil)) rfl) ⟨rfl, rfl⟩
  rw [hodd] at k2
  repeat' (first | refine goH ?_ | refine goV ?_ | refine goC (fun ad cap => ?_) | refine goI ?_ | (refine Cw.k_cond ?_; first | (refine Cw.cond_dec rfl (fun hc => ?_) (fun hc => ?_) <;> try (exfalso; omega)) | refine Cw.cond_bool rfl (fun hc => ?_) (fun hc => ?_)) | (refine Ops.k_calla ?_; first | (refine Ops.k_callf 75 ?_; refine Ops.callV k1 (Evs.cons rfl Evs.nil) rfl ?_) | (refine Ops.k_callf 76 ?_; refine Ops.callV k2 (Evs.cons rfl (Evs.cons rfl Evs.nil)) rfl ?_)) | fail)
  rw [hL2, Int.toNat_natCast, show ([Value.int .i64 0].map Tr.raw) = [Tr.raw (.int .i64 0)] from rfl, zeroRows]
  refine Cw.loopI [(0, _), (26, _), (27, _)] _ (fun n e cc => ∃ (k : Nat) (ad : Option Addr) (cap : Nat) (gs : List Int), n = xs.length - k ∧ (k ≤ xs.length ∧ gs = cntF l (xs.take k) ∧ gs.length = l.length ∧ ∀ v ∈ gs, 0 ≤ v ∧ v ≤ (k : Int)) ∧ e = [(7, Tr.raw (.slice ad l.length cap)), (28, .int k)] ∧ cc = [Chunk.own ad cap 1 3 (intRows gs)])
    ⟨_, _, _, (Ent.mkP (by repeat' (first | exact Sub.nil | refine Sub.cons rfl ?_)) (by repeat' (first | exact List.Perm.refl _ | refine Perm.cons' (by first | exact pick0 | exact pickS pick0 | exact pickS (pickS pick0) | exact pickS (pickS (pickS pick0)) | exact pickS (pickS (pickS (pickS pick0)))) ?_))), 0, ad, cap, _, rfl, ⟨by omega, rfl, by rw [cntF_len], by intro v hv; simp [cntF] at hv; omega⟩, rfl, rfl⟩ ?_
  clear ad cap
  rintro _ _ _ ⟨k, ad, cap, gs, rfl, ⟨hk, hgs, hgl, hgb⟩, rfl, rfl⟩
  have hil := intRows_len gs
  by_cases hkl : k < xs.length
  · obtain ⟨x, hx1⟩ := at_lt hkl
    have hrow : (strRows xs)[((k : Nat) : Int).toNat]? = some [.str x] := strRows_at hx1
    have hox := any_odd hodd x (List.mem_of_getElem? hx1)
    have hst : cntF l (xs.take (k + 1)) = cntS l gs x := by rw [take_at hx1, cntF_snoc, ← hgs]
    by_cases he : x = ⟨#[]⟩
    · have e2 : cntS l gs x = gs := by unfold cntS; rw [if_pos he]
      repeat' (first | refine goH ?_ | (refine Ops.k_b_neq ?_; first | (refine Ops.val' rfl (OpV.neqS_f rfl rfl (by assumption)) ?_)) | refine goV ?_ | refine goC (fun ad cap => ?_) | refine goI ?_ | (refine Cw.k_cond ?_; first | (refine Cw.cond_dec rfl (fun hc => ?_) (fun hc => ?_) <;> try (exfalso; omega)) | refine Cw.cond_bool rfl (fun hc => ?_) (fun hc => ?_)) | fail)
      exact ⟨_, _, _, (Ent.mk (by repeat' (first | exact Sub.nil | refine Sub.cons rfl ?_)) (by repeat' (first | exact Take.nil | refine Take.cons (by first | exact pick0 | exact pickS pick0 | exact pickS (pickS pick0) | exact pickS (pickS (pickS pick0)) | exact pickS (pickS (pickS (pickS pick0)))) ?_))), ⟨k + 1, _, _, gs, rfl, ⟨by omega, by rw [hst, e2], hgl, fun v hv => by have := hgb v hv; omega⟩, rfl, rfl⟩, by omega⟩
    · obtain ⟨j, o, hj, hoj, hjl⟩ := oddB_ok hox he
      have k3 := offer_fn l (by omega) x
      rw [hj] at k3
      obtain ⟨v, hv⟩ := at_lt (l := gs) (k := j) (by omega)
      have hvb := hgb v (List.mem_of_getElem? hv)
      have hrv : (intRows gs)[((j : Nat) : Int).toNat]? = some [.int v] := intRows_at hv
      have e2 : cntS l gs x = gs.set j (v + 1) := by unfold cntS; rw [if_neg he, hj, Int.toNat_natCast, List.getD_eq_getElem?_getD, hv]; rfl
      have key : (intRows gs).set ((j : Nat) : Int).toNat [Tr.int (v + 1)] = intRows (cntS l gs x) := by rw [e2, Int.toNat_natCast, intRows_set]
      repeat' (first | refine goH ?_ | (refine Ops.k_b_neq ?_; first | (refine Ops.val' rfl (OpV.neqS_t rfl rfl (by assumption)) ?_)) | refine goV ?_ | refine goC (fun ad cap => ?_) | refine goI ?_ | (refine Cw.k_cond ?_; first | (refine Cw.cond_dec rfl (fun hc => ?_) (fun hc => ?_) <;> try (exfalso; omega)) | refine Cw.cond_bool rfl (fun hc => ?_) (fun hc => ?_)) | (refine Ops.k_calla ?_; first | (refine Ops.k_callf 83 ?_; refine Ops.callV k3 (Evs.cons rfl (Evs.cons rfl Evs.nil)) rfl ?_)) | fail)
      rw [show ([Tr.int v].set 0 (Tr.int (v + 1))) = [Tr.int (v + 1)] from rfl, key]
      exact ⟨_, _, _, (Ent.mk (by repeat' (first | exact Sub.nil | refine Sub.cons rfl ?_)) (by repeat' (first | exact Take.nil | refine Take.cons (by first | exact pick0 | exact pickS pick0 | exact pickS (pickS pick0) | exact pickS (pickS (pickS pick0)) | exact pickS (pickS (pickS (pickS pick0)))) ?_))), ⟨k + 1, _, _, _, rfl, ⟨by omega, hst.symm, by rw [cntS_len]; exact hgl, fun v hv => by have := cntS_bd hgb (by omega) v hv; omega⟩, rfl, rfl⟩, by omega⟩
  · rw [List.take_of_length_le (by omega)] at hgs
    subst hgs
    repeat' (first | refine goH ?_ | refine goV ?_ | refine goC (fun ad cap => ?_) | refine goI ?_ | (refine Cw.k_cond ?_; first | (refine Cw.cond_dec rfl (fun hc => ?_) (fun hc => ?_) <;> try (exfalso; omega)) | refine Cw.cond_bool rfl (fun hc => ?_) (fun hc => ?_)) | fail)
    refine Fin.ret (Ent.trans (Ent.settle (s := 4) rfl (by first | exact pick0 | exact pickS pick0 | exact pickS (pickS pick0) | exact pickS (pickS (pickS pick0)) | exact pickS (pickS (pickS (pickS pick0)))) (by omega)) (Ent.take (by repeat' (first | exact Take.nil | refine Take.cons (by first | exact pick0 | exact pickS pick0 | exact pickS (pickS pick0) | exact pickS (pickS (pickS pick0)) | exact pickS (pickS (pickS (pickS pick0)))) ?_)))) (Outs.many rfl (OutL.cons (by exact OutE.tmp rfl) (OutL.cons (by exact OutE.tmp rfl) OutL.nil)) rfl) ⟨rfl, rfl⟩
theorem countsIn_fn (l : List Offer) (hll : l.length ≤ 1000) (xs : List ByteArray) (hx : xs.length ≤ 1000) (hodd : xs.any (oddB l) = false) : PFn Tryd.prog 34 [.offers l, .strs xs] (· = .ints (cntF l xs)) := by
  have hL := strRows_len xs
  have hL2 : (l.map Offer.row).length = l.length := List.length_map _
  refine PFn.mk (Spec.body Tryd.func34 rfl rfl (Tryd.ntmps34) rfl fun w0 own0 M => ?_)
  repeat' (first | refine goH ?_ | refine goV ?_ | refine goC (fun ad cap => ?_) | refine goI ?_ | (refine Cw.k_cond ?_; first | (refine Cw.cond_dec rfl (fun hc => ?_) (fun hc => ?_) <;> try (exfalso; omega)) | refine Cw.cond_bool rfl (fun hc => ?_) (fun hc => ?_)) | fail)
  rw [hL2, Int.toNat_natCast, show ([Value.int .i64 0].map Tr.raw) = [Tr.raw (.int .i64 0)] from rfl, zeroRows]
  refine Cw.loopI [(0, _), (11, _), (12, _)] _ (fun n e cc => ∃ (k : Nat) (ad : Option Addr) (cap : Nat) (gs : List Int), n = xs.length - k ∧ (k ≤ xs.length ∧ gs = cntF l (xs.take k) ∧ gs.length = l.length ∧ ∀ v ∈ gs, 0 ≤ v ∧ v ≤ (k : Int)) ∧ e = [(5, Tr.raw (.slice ad l.length cap)), (13, .int k)] ∧ cc = [Chunk.own ad cap 1 3 (intRows gs)])
    ⟨_, _, _, (Ent.mkP (by repeat' (first | exact Sub.nil | refine Sub.cons rfl ?_)) (by repeat' (first | exact List.Perm.refl _ | refine Perm.cons' (by first | exact pick0 | exact pickS pick0 | exact pickS (pickS pick0) | exact pickS (pickS (pickS pick0)) | exact pickS (pickS (pickS (pickS pick0)))) ?_))), 0, ad, cap, _, rfl, ⟨by omega, rfl, by rw [cntF_len], by intro v hv; simp [cntF] at hv; omega⟩, rfl, rfl⟩ ?_
  clear ad cap
  rintro _ _ _ ⟨k, ad, cap, gs, rfl, ⟨hk, hgs, hgl, hgb⟩, rfl, rfl⟩
  have hil := intRows_len gs
  by_cases hkl : k < xs.length
  · obtain ⟨x, hx1⟩ := at_lt hkl
    have hrow : (strRows xs)[((k : Nat) : Int).toNat]? = some [.str x] := strRows_at hx1
    have hox := any_odd hodd x (List.mem_of_getElem? hx1)
    have hst : cntF l (xs.take (k + 1)) = cntS l gs x := by rw [take_at hx1, cntF_snoc, ← hgs]
    by_cases he : x = ⟨#[]⟩
    · have e2 : cntS l gs x = gs := by unfold cntS; rw [if_pos he]
      repeat' (first | refine goH ?_ | (refine Ops.k_b_neq ?_; first | (refine Ops.val' rfl (OpV.neqS_f rfl rfl (by assumption)) ?_)) | refine goV ?_ | refine goC (fun ad cap => ?_) | refine goI ?_ | (refine Cw.k_cond ?_; first | (refine Cw.cond_dec rfl (fun hc => ?_) (fun hc => ?_) <;> try (exfalso; omega)) | refine Cw.cond_bool rfl (fun hc => ?_) (fun hc => ?_)) | fail)
      exact ⟨_, _, _, (Ent.mk (by repeat' (first | exact Sub.nil | refine Sub.cons rfl ?_)) (by repeat' (first | exact Take.nil | refine Take.cons (by first | exact pick0 | exact pickS pick0 | exact pickS (pickS pick0) | exact pickS (pickS (pickS pick0)) | exact pickS (pickS (pickS (pickS pick0)))) ?_))), ⟨k + 1, _, _, gs, rfl, ⟨by omega, by rw [hst, e2], hgl, fun v hv => by have := hgb v hv; omega⟩, rfl, rfl⟩, by omega⟩
    · obtain ⟨j, o, hj, hoj, hjl⟩ := oddB_ok hox he
      have k3 := offerOf_fn l (by omega) x
      rw [hj] at k3
      obtain ⟨v, hv⟩ := at_lt (l := gs) (k := j) (by omega)
      have hvb := hgb v (List.mem_of_getElem? hv)
      have hrv : (intRows gs)[((j : Nat) : Int).toNat]? = some [.int v] := intRows_at hv
      have e2 : cntS l gs x = gs.set j (v + 1) := by unfold cntS; rw [if_neg he, hj, Int.toNat_natCast, List.getD_eq_getElem?_getD, hv]; rfl
      have key : (intRows gs).set ((j : Nat) : Int).toNat [Tr.int (v + 1)] = intRows (cntS l gs x) := by rw [e2, Int.toNat_natCast, intRows_set]
      repeat' (first | refine goH ?_ | (refine Ops.k_b_neq ?_; first | (refine Ops.val' rfl (OpV.neqS_t rfl rfl (by assumption)) ?_)) | refine goV ?_ | refine goC (fun ad cap => ?_) | refine goI ?_ | (refine Cw.k_cond ?_; first | (refine Cw.cond_dec rfl (fun hc => ?_) (fun hc => ?_) <;> try (exfalso; omega)) | refine Cw.cond_bool rfl (fun hc => ?_) (fun hc => ?_)) | (refine Ops.k_calla ?_; first | (refine Ops.k_callf 80 ?_; refine Ops.callV k3 (Evs.cons rfl (Evs.cons rfl Evs.nil)) rfl ?_)) | fail)
      rw [show ([Tr.int v].set 0 (Tr.int (v + 1))) = [Tr.int (v + 1)] from rfl, key]
      exact ⟨_, _, _, (Ent.mk (by repeat' (first | exact Sub.nil | refine Sub.cons rfl ?_)) (by repeat' (first | exact Take.nil | refine Take.cons (by first | exact pick0 | exact pickS pick0 | exact pickS (pickS pick0) | exact pickS (pickS (pickS pick0)) | exact pickS (pickS (pickS (pickS pick0)))) ?_))), ⟨k + 1, _, _, _, rfl, ⟨by omega, hst.symm, by rw [cntS_len]; exact hgl, fun v hv => by have := cntS_bd hgb (by omega) v hv; omega⟩, rfl, rfl⟩, by omega⟩
  · rw [List.take_of_length_le (by omega)] at hgs
    subst hgs
    repeat' (first | refine goH ?_ | refine goV ?_ | refine goC (fun ad cap => ?_) | refine goI ?_ | (refine Cw.k_cond ?_; first | (refine Cw.cond_dec rfl (fun hc => ?_) (fun hc => ?_) <;> try (exfalso; omega)) | refine Cw.cond_bool rfl (fun hc => ?_) (fun hc => ?_)) | fail)
    exact Fin.ret (Ent.trans (Ent.settle (s := 4) rfl (by first | exact pick0 | exact pickS pick0 | exact pickS (pickS pick0) | exact pickS (pickS (pickS pick0)) | exact pickS (pickS (pickS (pickS pick0)))) (by omega)) (Ent.take (by repeat' (first | exact Take.nil | refine Take.cons (by first | exact pick0 | exact pickS pick0 | exact pickS (pickS pick0) | exact pickS (pickS (pickS pick0)) | exact pickS (pickS (pickS (pickS pick0)))) ?_)))) (Outs.one rfl rfl) ⟨rfl, rfl⟩
end Lg
