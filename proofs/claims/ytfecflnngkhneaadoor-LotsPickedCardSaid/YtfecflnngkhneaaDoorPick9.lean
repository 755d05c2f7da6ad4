/- A part of the proof of a law of this seat: it adds no condition. By an AI agent. -/
import Derived.Test.YtfecflnngkhneaaDoorPick1
import Derived.Test.YtfecflnngkhneaaDoorPick6
import Derived.Test.YtfecflnngkhneaaDoorPick8
set_option linter.all false
set_option maxRecDepth 100000
set_option maxHeartbeats 4000000
namespace Lg
open Go Go.Proofs

def pickP (l : List Lot) (p : ByteArray) (many fr : Int) : List Piece := (pickR l p many fr).2.2
def pick1E (l : List Lot) (p : ByteArray) (many day left : Int) : Int := if lotsErr l ≠ 0 then lotsErr l else pickE l p many day left
theorem pickE_ok {l : List Lot} {p : ByteArray} {many day left : Int} (h : pickE l p many day left = 0) : isKey p = true ∧ (0 ≤ day ∧ day ≤ 4000) ∧ (0 ≤ left ∧ left ≤ 4000) ∧ (0 ≤ many ∧ many ≤ 100000) ∧ many ≤ freshI l p (day + left) := by
  unfold pickE freshE daysE at h
  cases hk : isKey p
  · rw [hk] at h; simp at h
  · rw [hk] at h
    cases h1 : dayB day
    · rw [h1] at h; simp at h
    · cases h2 : dayB left
      · rw [h1, h2] at h; simp at h
      · rw [h1, h2] at h
        simp only [Bool.true_eq_false, Bool.and_self, if_true, if_false, ne_eq, not_true_eq_false] at h
        split at h
        · omega
        · split at h
          · omega
          · exact ⟨rfl, dayB_iff.1 h1, dayB_iff.1 h2, by omega, by omega⟩

theorem lotRow4 {l : List Lot} : ∀ r ∈ l.map Lot.row, r.length = 4 := by
  intro r hr
  obtain ⟨x, _, rfl⟩ := List.mem_map.1 hr
  rfl
theorem pick_fn (l : List Lot) (hl : l.length < 20) (p : ByteArray) (many day left : Int) : PFn Tryd.prog 26 [.lots l, .str p, .int many, .int day, .int left] (· = .tup [.pieces (if pick1E l p many day left ≠ 0 then [] else pickP l p many (day + left)), .int (pick1E l p many day left)]) := by
  have h1 := checkLots_fn l (by omega)
  have hL : (l.map Lot.row).length = l.length := List.length_map _
  refine PFn.mk (Spec.body Tryd.func26 rfl rfl (Tryd.ntmps26) rfl fun w0 own0 M => ?_)
  by_cases h0 : lotsErr l ≠ 0
  · rw [show pick1E l p many day left = lotsErr l by unfold pick1E; rw [if_pos h0], if_pos h0]
    repeat' (first | refine goH ?_ | refine goV ?_ | refine goI ?_ | (refine Cw.k_cond ?_; first | (refine Cw.cond_dec rfl (fun hc => ?_) (fun hc => ?_) <;> try (exfalso; omega)) | refine Cw.cond_bool rfl (fun hc => ?_) (fun hc => ?_)) | (refine Ops.k_calla ?_; first | (refine Ops.k_callf 23 ?_; refine Ops.callV h1 (Evs.cons rfl Evs.nil) rfl ?_)) | fail)
    refine Fin.ret (Ent.trans (Ent.nilsl 2 (s := 10) rfl) (Ent.take (by repeat' (first | exact Take.nil | refine Take.cons (by first | exact pick0 | exact pickS pick0 | exact pickS (pickS pick0) | exact pickS (pickS (pickS pick0)) | exact pickS (pickS (pickS (pickS pick0)))) ?_)))) (Outs.many rfl (OutL.cons (by first | exact OutE.tmp rfl | exact OutE.agg inferInstance rfl rfl | exact OutE.one inferInstance rfl) (OutL.cons (by first | exact OutE.tmp rfl | exact OutE.agg inferInstance rfl rfl | exact OutE.one inferInstance rfl) OutL.nil)) rfl) ⟨rfl, rfl⟩
  have he : lotsErr l = 0 := by omega
  rw [he] at h1
  have hok := lotsErr_LOk he
  have h2 := pickFault_fn l hok p many day left
  rw [show pick1E l p many day left = pickE l p many day left by unfold pick1E; rw [if_neg h0]]
  by_cases h3 : pickE l p many day left ≠ 0
  · rw [if_pos h3]
    generalize pickE l p many day left = pe at *
    repeat' (first | refine goH ?_ | refine goV ?_ | refine goI ?_ | (refine Cw.k_cond ?_; first | (refine Cw.cond_dec rfl (fun hc => ?_) (fun hc => ?_) <;> try (exfalso; omega)) | refine Cw.cond_bool rfl (fun hc => ?_) (fun hc => ?_)) | (refine Ops.k_calla ?_; first | (refine Ops.k_callf 23 ?_; refine Ops.callV h1 (Evs.cons rfl Evs.nil) rfl ?_) | (refine Ops.k_callf 57 ?_; refine Ops.callV h2 (Evs.cons rfl (Evs.cons rfl (Evs.cons rfl (Evs.cons rfl (Evs.cons rfl Evs.nil))))) rfl ?_)) | fail)
    refine Fin.ret (Ent.trans (Ent.nilsl 2 (s := 10) rfl) (Ent.take (by repeat' (first | exact Take.nil | refine Take.cons (by first | exact pick0 | exact pickS pick0 | exact pickS (pickS pick0) | exact pickS (pickS (pickS pick0)) | exact pickS (pickS (pickS (pickS pick0)))) ?_)))) (Outs.many rfl (OutL.cons (by first | exact OutE.tmp rfl | exact OutE.agg inferInstance rfl rfl | exact OutE.one inferInstance rfl) (OutL.cons (by first | exact OutE.tmp rfl | exact OutE.agg inferInstance rfl rfl | exact OutE.one inferInstance rfl) OutL.nil)) rfl) ⟨rfl, rfl⟩
  have h30 : pickE l p many day left = 0 := by omega
  obtain ⟨_, k1, k2, k3, k4⟩ := pickE_ok h30
  rw [h30] at h2 ⊢
  have hpk := fun ad cap => picked_fn l hok hl p many (day + left) k3 ad cap (l.map Lot.row).length hL
  repeat' (first | refine goH ?_ | refine goV ?_ | refine goI ?_ | (refine Cw.k_cond ?_; first | (refine Cw.cond_dec rfl (fun hc => ?_) (fun hc => ?_) <;> try (exfalso; omega)) | refine Cw.cond_bool rfl (fun hc => ?_) (fun hc => ?_)) | (refine Ops.k_calla ?_; first | (refine Ops.k_callf 23 ?_; refine Ops.callV h1 (Evs.cons rfl Evs.nil) rfl ?_) | (refine Ops.k_callf 57 ?_; refine Ops.callV h2 (Evs.cons rfl (Evs.cons rfl (Evs.cons rfl (Evs.cons rfl (Evs.cons rfl Evs.nil))))) rfl ?_) | (refine Ops.k_callf 59 ?_; (refine Ops.callO (clone_lot (l.map Lot.row) lotRow4 (by omega)) (Evs.cons rfl Evs.nil) rfl (fun ad cap rows hr => ?_); subst hr)) | (refine Ops.k_callf 58 ?_; (refine Ops.call (hpk _ _) (Evs.cons rfl (Evs.cons rfl (Evs.cons rfl (Evs.cons rfl Evs.nil)))) (by first | exact pick0 | exact pickS pick0 | exact pickS (pickS pick0) | exact pickS (pickS (pickS pick0)) | exact pickS (pickS (pickS (pickS pick0)))) rfl ?_; rintro r cs' ⟨ad2, cap2, rfl, rfl⟩))) | fail)
  refine Fin.ret (Ent.trans (Ent.settle (s := 10) rfl (by first | exact pick0 | exact pickS pick0 | exact pickS (pickS pick0) | exact pickS (pickS (pickS pick0)) | exact pickS (pickS (pickS (pickS pick0)))) rfl) (Ent.take (by repeat' (first | exact Take.nil | refine Take.cons (by first | exact pick0 | exact pickS pick0 | exact pickS (pickS pick0) | exact pickS (pickS (pickS pick0)) | exact pickS (pickS (pickS (pickS pick0)))) ?_)))) (Outs.many rfl (OutL.cons (by first | exact OutE.tmp rfl | exact OutE.agg inferInstance rfl rfl | exact OutE.one inferInstance rfl) (OutL.cons (by first | exact OutE.tmp rfl | exact OutE.agg inferInstance rfl rfl | exact OutE.one inferInstance rfl) OutL.nil)) rfl) ⟨rfl, rfl⟩

theorem pickOf_fn (l : List Lot) (hok : LOk l) (hl : l.length < 1000) (p : ByteArray) (many day left : Int) (hd : -1000 ≤ day ∧ day ≤ 10000) (hle : -1000 ≤ left ∧ left ≤ 10000) : PFn Tryd.prog 35 [.lots l, .str p, .int many, .int day, .int left] (· = .tup [.pieces (if pickE l p many day left ≠ 0 then [] else pickP l p many (day + left)), .int (pickE l p many day left)]) := by
  have hL : (l.map Lot.row).length = l.length := List.length_map _
  have h1 := freshFault_fn p day left
  have h2 := freshOf_fn l hok p day left (by omega) (by omega)
  refine PFn.mk (Spec.body Tryd.func35 rfl rfl (Tryd.ntmps35) rfl fun w0 own0 M => ?_)
  have hpe : pickE l p many day left = if freshE p day left ≠ 0 then freshE p day left else if many < 0 ∨ 100000 < many then 1 else if freshI l p (day + left) < many then 8 else 0 := rfl
  by_cases h0 : freshE p day left ≠ 0
  · rw [if_pos h0] at hpe
    rw [hpe, if_pos h0]
    generalize freshE p day left = fe at *
    repeat' (first | refine goH ?_ | refine goV ?_ | refine goG ?_ | (refine Ops.k_guard ?_; first | (refine Ops.guard_dec rfl rfl (fun hc => ?_) (fun hc => ?_) <;> try (exfalso; omega)) | refine Ops.guard_split rfl rfl (fun hc => ?_) (fun hc => ?_)) | refine goI ?_ | (refine Cw.k_cond ?_; first | (refine Cw.cond_dec rfl (fun hc => ?_) (fun hc => ?_) <;> try (exfalso; omega)) | refine Cw.cond_bool rfl (fun hc => ?_) (fun hc => ?_)) | (refine Ops.k_calla ?_; first | (refine Ops.k_callf 29 ?_; refine Ops.callV h1 (Evs.cons rfl (Evs.cons rfl (Evs.cons rfl Evs.nil))) rfl ?_)) | fail)
    refine Fin.ret (Ent.trans (Ent.nilsl 2 (s := 10) rfl) (Ent.take (by repeat' (first | exact Take.nil | refine Take.cons (by first | exact pick0 | exact pickS pick0 | exact pickS (pickS pick0) | exact pickS (pickS (pickS pick0)) | exact pickS (pickS (pickS (pickS pick0)))) ?_)))) (Outs.many rfl (OutL.cons (by first | exact OutE.tmp rfl | exact OutE.agg inferInstance rfl rfl | exact OutE.one inferInstance rfl) (OutL.cons (by first | exact OutE.tmp rfl | exact OutE.agg inferInstance rfl rfl | exact OutE.one inferInstance rfl) OutL.nil)) rfl) ⟨rfl, rfl⟩
  rw [if_neg h0] at hpe
  have h00 : freshE p day left = 0 := by omega
  rw [h00] at h1
  by_cases h3 : many < 0 ∨ 100000 < many
  · rw [if_pos h3] at hpe
    rw [hpe]
    repeat' (first | refine goH ?_ | refine goV ?_ | refine goG ?_ | (refine Ops.k_guard ?_; first | (refine Ops.guard_dec rfl rfl (fun hc => ?_) (fun hc => ?_) <;> try (exfalso; omega)) | refine Ops.guard_split rfl rfl (fun hc => ?_) (fun hc => ?_)) | refine goI ?_ | (refine Cw.k_cond ?_; first | (refine Cw.cond_dec rfl (fun hc => ?_) (fun hc => ?_) <;> try (exfalso; omega)) | refine Cw.cond_bool rfl (fun hc => ?_) (fun hc => ?_)) | (refine Ops.k_calla ?_; first | (refine Ops.k_callf 29 ?_; refine Ops.callV h1 (Evs.cons rfl (Evs.cons rfl (Evs.cons rfl Evs.nil))) rfl ?_)) | fail)
    all_goals (refine Fin.ret (Ent.trans (Ent.nilsl 2 (s := 10) rfl) (Ent.take (by repeat' (first | exact Take.nil | refine Take.cons (by first | exact pick0 | exact pickS pick0 | exact pickS (pickS pick0) | exact pickS (pickS (pickS pick0)) | exact pickS (pickS (pickS (pickS pick0)))) ?_)))) (Outs.many rfl (OutL.cons (by first | exact OutE.tmp rfl | exact OutE.agg inferInstance rfl rfl | exact OutE.one inferInstance rfl) (OutL.cons (by first | exact OutE.tmp rfl | exact OutE.agg inferInstance rfl rfl | exact OutE.one inferInstance rfl) OutL.nil)) rfl) ⟨rfl, rfl⟩)
  rw [if_neg h3] at hpe
  by_cases h4 : freshI l p (day + left) < many
  · rw [if_pos h4] at hpe
    rw [hpe]
    repeat' (first | refine goH ?_ | refine goV ?_ | refine goG ?_ | (refine Ops.k_guard ?_; first | (refine Ops.guard_dec rfl rfl (fun hc => ?_) (fun hc => ?_) <;> try (exfalso; omega)) | refine Ops.guard_split rfl rfl (fun hc => ?_) (fun hc => ?_)) | refine goI ?_ | (refine Cw.k_cond ?_; first | (refine Cw.cond_dec rfl (fun hc => ?_) (fun hc => ?_) <;> try (exfalso; omega)) | refine Cw.cond_bool rfl (fun hc => ?_) (fun hc => ?_)) | (refine Ops.k_calla ?_; first | (refine Ops.k_callf 29 ?_; refine Ops.callV h1 (Evs.cons rfl (Evs.cons rfl (Evs.cons rfl Evs.nil))) rfl ?_) | (refine Ops.k_callf 31 ?_; refine Ops.callV h2 (Evs.cons rfl (Evs.cons rfl (Evs.cons rfl (Evs.cons rfl Evs.nil)))) rfl ?_)) | fail)
    all_goals (refine Fin.ret (Ent.trans (Ent.nilsl 2 (s := 10) rfl) (Ent.take (by repeat' (first | exact Take.nil | refine Take.cons (by first | exact pick0 | exact pickS pick0 | exact pickS (pickS pick0) | exact pickS (pickS (pickS pick0)) | exact pickS (pickS (pickS (pickS pick0)))) ?_)))) (Outs.many rfl (OutL.cons (by first | exact OutE.tmp rfl | exact OutE.agg inferInstance rfl rfl | exact OutE.one inferInstance rfl) (OutL.cons (by first | exact OutE.tmp rfl | exact OutE.agg inferInstance rfl rfl | exact OutE.one inferInstance rfl) OutL.nil)) rfl) ⟨rfl, rfl⟩)
  rw [if_neg h4] at hpe
  obtain ⟨_, k1, k2, k3, k4⟩ := pickE_ok hpe
  rw [hpe]
  have hpk := fun ad cap => taken_fn l hok hl p many day left k3 (by omega) (by omega) k4 ad cap (l.map Lot.row).length hL
  repeat' (first | refine goH ?_ | refine goV ?_ | refine goG ?_ | (refine Ops.k_guard ?_; first | (refine Ops.guard_dec rfl rfl (fun hc => ?_) (fun hc => ?_) <;> try (exfalso; omega)) | refine Ops.guard_split rfl rfl (fun hc => ?_) (fun hc => ?_)) | refine goI ?_ | (refine Cw.k_cond ?_; first | (refine Cw.cond_dec rfl (fun hc => ?_) (fun hc => ?_) <;> try (exfalso; omega)) | refine Cw.cond_bool rfl (fun hc => ?_) (fun hc => ?_)) | (refine Ops.k_calla ?_; first | (refine Ops.k_callf 29 ?_; refine Ops.callV h1 (Evs.cons rfl (Evs.cons rfl (Evs.cons rfl Evs.nil))) rfl ?_) | (refine Ops.k_callf 31 ?_; refine Ops.callV h2 (Evs.cons rfl (Evs.cons rfl (Evs.cons rfl (Evs.cons rfl Evs.nil)))) rfl ?_) | (refine Ops.k_callf 59 ?_; (refine Ops.callO (clone_lot (l.map Lot.row) lotRow4 (by omega)) (Evs.cons rfl Evs.nil) rfl (fun ad cap rows hr => ?_); subst hr)) | (refine Ops.k_callf 61 ?_; (refine Ops.call (hpk _ _) (Evs.cons rfl (Evs.cons rfl (Evs.cons rfl (Evs.cons rfl (Evs.cons rfl Evs.nil))))) (by first | exact pick0 | exact pickS pick0 | exact pickS (pickS pick0) | exact pickS (pickS (pickS pick0)) | exact pickS (pickS (pickS (pickS pick0)))) rfl ?_; rintro r cs' ⟨ad2, cap2, rfl, rfl⟩))) | fail)
  refine Fin.ret (Ent.trans (Ent.settle (s := 10) rfl (by first | exact pick0 | exact pickS pick0 | exact pickS (pickS pick0) | exact pickS (pickS (pickS pick0)) | exact pickS (pickS (pickS (pickS pick0)))) rfl) (Ent.take (by repeat' (first | exact Take.nil | refine Take.cons (by first | exact pick0 | exact pickS pick0 | exact pickS (pickS pick0) | exact pickS (pickS (pickS pick0)) | exact pickS (pickS (pickS (pickS pick0)))) ?_)))) (Outs.many rfl (OutL.cons (by first | exact OutE.tmp rfl | exact OutE.agg inferInstance rfl rfl | exact OutE.one inferInstance rfl) (OutL.cons (by first | exact OutE.tmp rfl | exact OutE.agg inferInstance rfl rfl | exact OutE.one inferInstance rfl) OutL.nil)) rfl) ⟨rfl, rfl⟩

def spoilX (day : Int) (x : Lot) : Lot := if x.exp < day then ⟨x.id, x.prod, x.exp, 0⟩ else x
def spoilP (day : Int) : List Lot → List Piece
  | [] => []
  | x :: l => if x.exp < day ∧ 0 < x.many then ⟨x.id, x.many⟩ :: spoilP day l else spoilP day l
theorem spoilP_app (day : Int) : ∀ (a b : List Lot), spoilP day (a ++ b) = spoilP day a ++ spoilP day b
  | [], b => rfl
  | x :: a, b => by
    rw [List.cons_append, spoilP, spoilP, spoilP_app day a b]
    split <;> rfl
theorem spoilP_len (day : Int) : ∀ a : List Lot, (spoilP day a).length ≤ a.length
  | [] => Nat.le_refl _
  | x :: a => by
    have := spoilP_len day a
    rw [spoilP, List.length_cons]
    split
    · rw [List.length_cons]; omega
    · omega
theorem set_same {α : Type} {l : List α} {k : Nat} {x : α} (h : l[k]? = some x) : l.set k x = l := by
  obtain ⟨hk, rfl⟩ := List.getElem?_eq_some_iff.1 h
  exact List.set_getElem_self hk
theorem spoil_step {l : List Lot} {day : Int} {k : Nat} {x : Lot} (hx : l[k]? = some x) : (l.take (k + 1)).map (spoilX day) ++ l.drop (k + 1) = ((l.take k).map (spoilX day) ++ l.drop k).set k (spoilX day x) := by
  obtain ⟨hk, _⟩ := List.getElem?_eq_some_iff.1 hx
  rw [take_at hx, drop_at hx, List.map_append, List.set_append]
  have : ((l.take k).map (spoilX day)).length = k := by rw [List.length_map, List.length_take]; omega
  rw [if_neg (by omega), this, Nat.sub_self]
  simp
theorem spoil_mid {l : List Lot} {day : Int} {k : Nat} {x : Lot} (hx : l[k]? = some x) : ((l.take k).map (spoilX day) ++ l.drop k)[k]? = some x := by
  obtain ⟨hk, _⟩ := List.getElem?_eq_some_iff.1 hx
  rw [List.getElem?_append_right (by rw [List.length_map, List.length_take]; omega), List.length_map, List.length_take, List.getElem?_drop, show k + (k - min k l.length) = k by omega]
  exact hx
def spoil1E (l : List Lot) (day : Int) : Int := if lotsErr l ≠ 0 then lotsErr l else if dayB day then 0 else 1

theorem spoil_fn (l : List Lot) (hl : l.length ≤ 1000000) (day : Int) : PFn Tryd.prog 27 [.lots l, .int day] (· = .tup [.lots (if spoil1E l day ≠ 0 then [] else l.map (spoilX day)), .pieces (if spoil1E l day ≠ 0 then [] else spoilP day l), .int (spoil1E l day)]) := by
  have h1 := checkLots_fn l hl
  have h2 := day_fn day
  have hL : (l.map Lot.row).length = l.length := List.length_map _
  refine PFn.mk (Spec.body Tryd.func27 rfl rfl (Tryd.ntmps27) rfl fun w0 own0 M => ?_)
  by_cases h0 : lotsErr l ≠ 0
  · rw [show spoil1E l day = lotsErr l by unfold spoil1E; rw [if_pos h0], if_pos h0, if_pos h0]
    repeat' (first | refine goH ?_ | refine goV ?_ | refine goB (fun b => ?_) | refine goC (fun ad cap => ?_) | refine goI ?_ | (refine Cw.k_cond ?_; first | (refine Cw.cond_dec rfl (fun hc => ?_) (fun hc => ?_) <;> try (exfalso; omega)) | refine Cw.cond_bool rfl (fun hc => ?_) (fun hc => ?_)) | (refine Ops.k_calla ?_; first | (refine Ops.k_callf 23 ?_; refine Ops.callV h1 (Evs.cons rfl Evs.nil) rfl ?_)) | fail)
    refine Fin.ret (Ent.trans (Ent.nilsl 4 (s := 4) rfl) (Ent.trans (Ent.nilsl 2 (s := 5) rfl) (Ent.take (by repeat' (first | exact Take.nil | refine Take.cons (by first | exact pick0 | exact pickS pick0 | exact pickS (pickS pick0) | exact pickS (pickS (pickS pick0)) | exact pickS (pickS (pickS (pickS pick0)))) ?_))))) (Outs.many rfl (OutL.cons (by first | exact OutE.tmp rfl | exact OutE.agg inferInstance rfl rfl | exact OutE.one inferInstance rfl) (OutL.cons (by first | exact OutE.tmp rfl | exact OutE.agg inferInstance rfl rfl | exact OutE.one inferInstance rfl) (OutL.cons (by first | exact OutE.tmp rfl | exact OutE.agg inferInstance rfl rfl | exact OutE.one inferInstance rfl) OutL.nil))) rfl) ⟨rfl, rfl⟩
  have he : lotsErr l = 0 := by omega
  rw [he] at h1
  rw [show spoil1E l day = if dayB day then 0 else 1 by unfold spoil1E; rw [if_neg h0]]
  cases hd : dayB day
  · rw [hd] at h2
    repeat' (first | refine goH ?_ | refine goV ?_ | refine goB (fun b => ?_) | refine goC (fun ad cap => ?_) | refine goI ?_ | (refine Cw.k_cond ?_; first | (refine Cw.cond_dec rfl (fun hc => ?_) (fun hc => ?_) <;> try (exfalso; omega)) | refine Cw.cond_bool rfl (fun hc => ?_) (fun hc => ?_)) | (refine Ops.k_calla ?_; first | (refine Ops.k_callf 23 ?_; refine Ops.callV h1 (Evs.cons rfl Evs.nil) rfl ?_) | (refine Ops.k_callf 55 ?_; refine Ops.callV h2 (Evs.cons rfl Evs.nil) rfl ?_)) | fail)
    refine Fin.ret (Ent.trans (Ent.nilsl 4 (s := 4) rfl) (Ent.trans (Ent.nilsl 2 (s := 5) rfl) (Ent.take (by repeat' (first | exact Take.nil | refine Take.cons (by first | exact pick0 | exact pickS pick0 | exact pickS (pickS pick0) | exact pickS (pickS (pickS pick0)) | exact pickS (pickS (pickS (pickS pick0)))) ?_))))) (Outs.many rfl (OutL.cons (by first | exact OutE.tmp rfl | exact OutE.agg inferInstance rfl rfl | exact OutE.one inferInstance rfl) (OutL.cons (by first | exact OutE.tmp rfl | exact OutE.agg inferInstance rfl rfl | exact OutE.one inferInstance rfl) (OutL.cons (by first | exact OutE.tmp rfl | exact OutE.agg inferInstance rfl rfl | exact OutE.one inferInstance rfl) OutL.nil))) rfl) ⟨rfl, rfl⟩
  rw [hd] at h2
  repeat' (first | refine goH ?_ | refine goV ?_ | refine goB (fun b => ?_) | refine goC (fun ad cap => ?_) | refine goI ?_ | (refine Cw.k_cond ?_; first | (refine Cw.cond_dec rfl (fun hc => ?_) (fun hc => ?_) <;> try (exfalso; omega)) | refine Cw.cond_bool rfl (fun hc => ?_) (fun hc => ?_)) | (refine Ops.k_calla ?_; first | (refine Ops.k_callf 23 ?_; refine Ops.callV h1 (Evs.cons rfl Evs.nil) rfl ?_) | (refine Ops.k_callf 55 ?_; refine Ops.callV h2 (Evs.cons rfl Evs.nil) rfl ?_) | (refine Ops.k_callf 59 ?_; (refine Ops.callO (clone_lot (l.map Lot.row) lotRow4 (by omega)) (Evs.cons rfl Evs.nil) rfl (fun ad cap rows hr => ?_); subst hr))) | fail)
  refine Cw.loopI [(1, _), (8, _), (22, _), (23, _)] _ (fun q e c => ∃ (k : Nat) (ad2 : Option Addr) (cap2 : Nat) (lr pr : List (List Tr)), q = l.length - k ∧ (k ≤ l.length ∧ lr = ((l.take k).map (spoilX day) ++ l.drop k).map Lot.row ∧ pr = (spoilP day (l.take k)).map Piece.row ∧ lr.length = l.length ∧ pr.length ≤ k) ∧ e = [(9, Tr.raw (.slice ad2 pr.length cap2)), (24, .int k)] ∧ c = [Chunk.own ad2 cap2 2 67 pr, Chunk.own ad cap 4 64 lr])
    ⟨_, _, _, Ent.trans (Ent.nil 2 67) (Ent.mkP (by repeat' (first | exact Sub.nil | refine Sub.cons rfl ?_)) (by repeat' (first | exact List.Perm.refl _ | refine Perm.cons' (by first | exact pick0 | exact pickS pick0 | exact pickS (pickS pick0) | exact pickS (pickS (pickS pick0)) | exact pickS (pickS (pickS (pickS pick0)))) ?_))), 0, none, 0, l.map Lot.row, [], rfl, ⟨by omega, by simp, rfl, hL, by simp⟩, rfl, rfl⟩ ?_
  rintro _ _ _ ⟨k, ad2, cap2, lr, pr, rfl, ⟨hk, hlr, hpr, hll, hpl⟩, rfl, rfl⟩
  by_cases hkl : k < l.length
  · obtain ⟨x, hx⟩ := at_lt hkl
    have hrow : (l.map Lot.row)[((k : Nat) : Int).toNat]? = some [.str x.id, .str x.prod, .int x.exp, .int x.many] := rows_at hx
    have hrow2 : lr[((k : Nat) : Int).toNat]? = some [.str x.id, .str x.prod, .int x.exp, .int x.many] := by rw [hlr]; exact rows_at (f := Lot.row) (spoil_mid hx)
    have hst := spoil_step (day := day) hx
    by_cases hex : x.exp < day
    · have hset : lr.set ((k : Nat) : Int).toNat ([Tr.str x.id, .str x.prod, .int x.exp, .int x.many].set 3 (Tr.int 0)) = ((l.take (k + 1)).map (spoilX day) ++ l.drop (k + 1)).map Lot.row := by
        rw [hst, hlr]
        unfold spoilX
        rw [if_pos hex]
        exact row_set (spoil_mid hx)
      by_cases hm : 0 < x.many
      · have hpp : pr ++ [[Tr.str x.id, Tr.int x.many]] = (spoilP day (l.take (k + 1))).map Piece.row := by
          rw [take_at hx, spoilP_app, List.map_append, ← hpr]
          simp [spoilP, hex, hm, Piece.row]
        repeat' (first | refine goH ?_ | refine goV ?_ | refine goB (fun b => ?_) | refine goC (fun ad cap => ?_) | refine goI ?_ | (refine Cw.k_cond ?_; first | (refine Cw.cond_dec rfl (fun hc => ?_) (fun hc => ?_) <;> try (exfalso; omega)) | refine Cw.cond_bool rfl (fun hc => ?_) (fun hc => ?_)) | fail)
        exact ⟨_, _, _, (Ent.mk (by repeat' (first | exact Sub.nil | refine Sub.cons rfl ?_)) (by repeat' (first | exact Take.nil | refine Take.cons (by first | exact pick0 | exact pickS pick0 | exact pickS (pickS pick0) | exact pickS (pickS (pickS pick0)) | exact pickS (pickS (pickS (pickS pick0)))) ?_))), ⟨k + 1, _, _, _, _, rfl, ⟨by omega, hset, hpp, by rw [List.length_set]; exact hll, by simp only [List.length_append, List.length_cons, List.length_nil]; omega⟩, rfl, rfl⟩, by omega⟩
      · have hpp : pr = (spoilP day (l.take (k + 1))).map Piece.row := by
          rw [take_at hx, spoilP_app, List.map_append, ← hpr]
          simp [spoilP, hm]
        repeat' (first | refine goH ?_ | refine goV ?_ | refine goB (fun b => ?_) | refine goC (fun ad cap => ?_) | refine goI ?_ | (refine Cw.k_cond ?_; first | (refine Cw.cond_dec rfl (fun hc => ?_) (fun hc => ?_) <;> try (exfalso; omega)) | refine Cw.cond_bool rfl (fun hc => ?_) (fun hc => ?_)) | fail)
        exact ⟨_, _, _, (Ent.mk (by repeat' (first | exact Sub.nil | refine Sub.cons rfl ?_)) (by repeat' (first | exact Take.nil | refine Take.cons (by first | exact pick0 | exact pickS pick0 | exact pickS (pickS pick0) | exact pickS (pickS (pickS pick0)) | exact pickS (pickS (pickS (pickS pick0)))) ?_))), ⟨k + 1, _, _, _, _, rfl, ⟨by omega, hset, hpp, by rw [List.length_set]; exact hll, by omega⟩, rfl, rfl⟩, by omega⟩
    · have hset : lr = ((l.take (k + 1)).map (spoilX day) ++ l.drop (k + 1)).map Lot.row := by
        rw [hst, hlr, show spoilX day x = x by unfold spoilX; rw [if_neg hex], set_same (spoil_mid hx)]
      have hpp : pr = (spoilP day (l.take (k + 1))).map Piece.row := by
        rw [take_at hx, spoilP_app, List.map_append, ← hpr]
        simp [spoilP, hex]
      repeat' (first | refine goH ?_ | refine goV ?_ | refine goB (fun b => ?_) | refine goC (fun ad cap => ?_) | refine goI ?_ | (refine Cw.k_cond ?_; first | (refine Cw.cond_dec rfl (fun hc => ?_) (fun hc => ?_) <;> try (exfalso; omega)) | refine Cw.cond_bool rfl (fun hc => ?_) (fun hc => ?_)) | fail)
      exact ⟨_, _, _, (Ent.mk (by repeat' (first | exact Sub.nil | refine Sub.cons rfl ?_)) (by repeat' (first | exact Take.nil | refine Take.cons (by first | exact pick0 | exact pickS pick0 | exact pickS (pickS pick0) | exact pickS (pickS (pickS pick0)) | exact pickS (pickS (pickS (pickS pick0)))) ?_))), ⟨k + 1, _, _, _, _, rfl, ⟨by omega, hset, hpp, hll, by omega⟩, rfl, rfl⟩, by omega⟩
  · rw [List.take_of_length_le (by omega), List.drop_eq_nil_of_le (by omega), List.append_nil] at hlr
    rw [List.take_of_length_le (by omega)] at hpr
    subst hlr
    subst hpr
    repeat' (first | refine goH ?_ | refine goV ?_ | refine goB (fun b => ?_) | refine goC (fun ad cap => ?_) | refine goI ?_ | (refine Cw.k_cond ?_; first | (refine Cw.cond_dec rfl (fun hc => ?_) (fun hc => ?_) <;> try (exfalso; omega)) | refine Cw.cond_bool rfl (fun hc => ?_) (fun hc => ?_)) | fail)
    refine Fin.ret (Ent.trans (Ent.settle (s := 4) rfl (by first | exact pick0 | exact pickS pick0 | exact pickS (pickS pick0) | exact pickS (pickS (pickS pick0)) | exact pickS (pickS (pickS (pickS pick0)))) (by omega)) (Ent.trans (Ent.settle (s := 5) rfl (by first | exact pick0 | exact pickS pick0 | exact pickS (pickS pick0) | exact pickS (pickS (pickS pick0)) | exact pickS (pickS (pickS (pickS pick0)))) rfl) (Ent.take (by repeat' (first | exact Take.nil | refine Take.cons (by first | exact pick0 | exact pickS pick0 | exact pickS (pickS pick0) | exact pickS (pickS (pickS pick0)) | exact pickS (pickS (pickS (pickS pick0)))) ?_))))) (Outs.many rfl (OutL.cons (by exact OutE.tmp rfl) (OutL.cons (by exact OutE.tmp rfl) (OutL.cons (by exact OutE.tmp rfl) OutL.nil))) rfl) ⟨rfl, rfl⟩
end Lg
