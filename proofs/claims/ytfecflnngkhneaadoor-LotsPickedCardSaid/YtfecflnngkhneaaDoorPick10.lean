/- A part of the proof of a law of this seat: it adds no condition. By an AI agent. -/
import Derived.Test.YtfecflnngkhneaaDoorPick9
set_option linter.all false
set_option maxRecDepth 100000
set_option maxHeartbeats 4000000
namespace Lg
open Go Go.Proofs

theorem spoilOf_fn (l : List Lot) (hok : LOk l) (day : Int) : PFn Tryd.prog 32 [.lots l, .int day] (· = .tup [.lots (l.map (spoilX day)), .pieces (spoilP day l)]) := by
  have hL : (l.map Lot.row).length = l.length := List.length_map _
  have hl := hok.len
  refine PFn.mk (Spec.body Tryd.func32 rfl rfl (Tryd.ntmps32) rfl fun w0 own0 M => ?_)
  repeat' (first | refine goH ?_ | refine goV ?_ | refine goB (fun b => ?_) | refine goC (fun ad cap => ?_) | refine goG ?_ | (refine Ops.k_guard ?_; first | (refine Ops.guard_dec rfl rfl (fun hc => ?_) (fun hc => ?_) <;> try (exfalso; omega)) | refine Ops.guard_split rfl rfl (fun hc => ?_) (fun hc => ?_)) | refine goI ?_ | (refine Cw.k_cond ?_; first | (refine Cw.cond_dec rfl (fun hc => ?_) (fun hc => ?_) <;> try (exfalso; omega)) | refine Cw.cond_bool rfl (fun hc => ?_) (fun hc => ?_)) | (refine Ops.k_calla ?_; first | (refine Ops.k_callf 59 ?_; (refine Ops.callO (clone_lot (l.map Lot.row) lotRow4 (by omega)) (Evs.cons rfl Evs.nil) rfl (fun ad cap rows hr => ?_); subst hr))) | fail)
  refine Cw.loopI [(1, _), (6, _), (12, _), (13, _)] _ (fun q e c => ∃ (k : Nat) (ad2 : Option Addr) (cap2 : Nat) (lr pr : List (List Tr)), q = l.length - k ∧ (k ≤ l.length ∧ lr = ((l.take k).map (spoilX day) ++ l.drop k).map Lot.row ∧ pr = (spoilP day (l.take k)).map Piece.row ∧ lr.length = l.length ∧ pr.length ≤ k) ∧ e = [(7, Tr.raw (.slice ad2 pr.length cap2)), (14, .int k)] ∧ c = [Chunk.own ad2 cap2 2 67 pr, Chunk.own ad cap 4 64 lr])
    ⟨_, _, _, Ent.trans (Ent.nil 2 67) (Ent.mkP (by repeat' (first | exact Sub.nil | refine Sub.cons rfl ?_)) (by repeat' (first | exact List.Perm.refl _ | refine Perm.cons' (by first | exact pick0 | exact pickS pick0 | exact pickS (pickS pick0) | exact pickS (pickS (pickS pick0)) | exact pickS (pickS (pickS (pickS pick0)))) ?_))), 0, none, 0, l.map Lot.row, [], rfl, ⟨by omega, by simp, rfl, hL, by simp⟩, rfl, rfl⟩ ?_
  rintro _ _ _ ⟨k, ad2, cap2, lr, pr, rfl, ⟨hk, hlr, hpr, hll, hpl⟩, rfl, rfl⟩
  by_cases hkl : k < l.length
  · obtain ⟨x, hx⟩ := at_lt hkl
    have hrow2 : lr[((k : Nat) : Int).toNat]? = some [.str x.id, .str x.prod, .int x.exp, .int x.many] := by rw [hlr]; exact rows_at (f := Lot.row) (spoil_mid hx)
    have hst := spoil_step (day := day) hx
    have hxm := (hok.many x (List.mem_of_getElem? hx)).1
    by_cases hex : x.exp < day
    · by_cases hm : 0 < x.many
      · have hset : lr.set ((k : Nat) : Int).toNat ([Tr.str x.id, .str x.prod, .int x.exp, .int x.many].set 3 (Tr.int 0)) = ((l.take (k + 1)).map (spoilX day) ++ l.drop (k + 1)).map Lot.row := by
          rw [hst, hlr]
          unfold spoilX
          rw [if_pos hex]
          exact row_set (spoil_mid hx)
        have hpp : pr ++ [[Tr.str x.id, Tr.int x.many]] = (spoilP day (l.take (k + 1))).map Piece.row := by
          rw [take_at hx, spoilP_app, List.map_append, ← hpr]
          simp [spoilP, hex, hm, Piece.row]
        repeat' (first | refine goH ?_ | refine goV ?_ | refine goB (fun b => ?_) | refine goC (fun ad cap => ?_) | refine goG ?_ | (refine Ops.k_guard ?_; first | (refine Ops.guard_dec rfl rfl (fun hc => ?_) (fun hc => ?_) <;> try (exfalso; omega)) | refine Ops.guard_split rfl rfl (fun hc => ?_) (fun hc => ?_)) | refine goI ?_ | (refine Cw.k_cond ?_; first | (refine Cw.cond_dec rfl (fun hc => ?_) (fun hc => ?_) <;> try (exfalso; omega)) | refine Cw.cond_bool rfl (fun hc => ?_) (fun hc => ?_)) | fail)
        all_goals exact ⟨_, _, _, (Ent.mk (by repeat' (first | exact Sub.nil | refine Sub.cons rfl ?_)) (by repeat' (first | exact Take.nil | refine Take.cons (by first | exact pick0 | exact pickS pick0 | exact pickS (pickS pick0) | exact pickS (pickS (pickS pick0)) | exact pickS (pickS (pickS (pickS pick0)))) ?_))), ⟨k + 1, _, _, _, _, rfl, ⟨by omega, hset, hpp, by rw [List.length_set]; exact hll, by simp only [List.length_append, List.length_cons, List.length_nil]; omega⟩, rfl, rfl⟩, by omega⟩
      · have hset : lr = ((l.take (k + 1)).map (spoilX day) ++ l.drop (k + 1)).map Lot.row := by
          have e : spoilX day x = x := by
            unfold spoilX
            rw [if_pos hex]
            cases x
            simp only at hm hxm ⊢
            congr 1
            omega
          rw [hst, hlr, e, set_same (spoil_mid hx)]
        have hpp : pr = (spoilP day (l.take (k + 1))).map Piece.row := by
          rw [take_at hx, spoilP_app, List.map_append, ← hpr]
          simp [spoilP, hm]
        repeat' (first | refine goH ?_ | refine goV ?_ | refine goB (fun b => ?_) | refine goC (fun ad cap => ?_) | refine goG ?_ | (refine Ops.k_guard ?_; first | (refine Ops.guard_dec rfl rfl (fun hc => ?_) (fun hc => ?_) <;> try (exfalso; omega)) | refine Ops.guard_split rfl rfl (fun hc => ?_) (fun hc => ?_)) | refine goI ?_ | (refine Cw.k_cond ?_; first | (refine Cw.cond_dec rfl (fun hc => ?_) (fun hc => ?_) <;> try (exfalso; omega)) | refine Cw.cond_bool rfl (fun hc => ?_) (fun hc => ?_)) | fail)
        all_goals exact ⟨_, _, _, (Ent.mk (by repeat' (first | exact Sub.nil | refine Sub.cons rfl ?_)) (by repeat' (first | exact Take.nil | refine Take.cons (by first | exact pick0 | exact pickS pick0 | exact pickS (pickS pick0) | exact pickS (pickS (pickS pick0)) | exact pickS (pickS (pickS (pickS pick0)))) ?_))), ⟨k + 1, _, _, _, _, rfl, ⟨by omega, hset, hpp, hll, by omega⟩, rfl, rfl⟩, by omega⟩
    · have hset : lr = ((l.take (k + 1)).map (spoilX day) ++ l.drop (k + 1)).map Lot.row := by
        rw [hst, hlr, show spoilX day x = x by unfold spoilX; rw [if_neg hex], set_same (spoil_mid hx)]
      have hpp : pr = (spoilP day (l.take (k + 1))).map Piece.row := by
        rw [take_at hx, spoilP_app, List.map_append, ← hpr]
        simp [spoilP, hex]
      repeat' (first | refine goH ?_ | refine goV ?_ | refine goB (fun b => ?_) | refine goC (fun ad cap => ?_) | refine goG ?_ | (refine Ops.k_guard ?_; first | (refine Ops.guard_dec rfl rfl (fun hc => ?_) (fun hc => ?_) <;> try (exfalso; omega)) | refine Ops.guard_split rfl rfl (fun hc => ?_) (fun hc => ?_)) | refine goI ?_ | (refine Cw.k_cond ?_; first | (refine Cw.cond_dec rfl (fun hc => ?_) (fun hc => ?_) <;> try (exfalso; omega)) | refine Cw.cond_bool rfl (fun hc => ?_) (fun hc => ?_)) | fail)
      all_goals exact ⟨_, _, _, (Ent.mk (by repeat' (first | exact Sub.nil | refine Sub.cons rfl ?_)) (by repeat' (first | exact Take.nil | refine Take.cons (by first | exact pick0 | exact pickS pick0 | exact pickS (pickS pick0) | exact pickS (pickS (pickS pick0)) | exact pickS (pickS (pickS (pickS pick0)))) ?_))), ⟨k + 1, _, _, _, _, rfl, ⟨by omega, hset, hpp, hll, by omega⟩, rfl, rfl⟩, by omega⟩
  · rw [List.take_of_length_le (by omega), List.drop_eq_nil_of_le (by omega), List.append_nil] at hlr
    rw [List.take_of_length_le (by omega)] at hpr
    subst hlr
    subst hpr
    repeat' (first | refine goH ?_ | refine goV ?_ | refine goB (fun b => ?_) | refine goC (fun ad cap => ?_) | refine goG ?_ | (refine Ops.k_guard ?_; first | (refine Ops.guard_dec rfl rfl (fun hc => ?_) (fun hc => ?_) <;> try (exfalso; omega)) | refine Ops.guard_split rfl rfl (fun hc => ?_) (fun hc => ?_)) | refine goI ?_ | (refine Cw.k_cond ?_; first | (refine Cw.cond_dec rfl (fun hc => ?_) (fun hc => ?_) <;> try (exfalso; omega)) | refine Cw.cond_bool rfl (fun hc => ?_) (fun hc => ?_)) | fail)
    refine Fin.ret (Ent.trans (Ent.settle (s := 4) rfl (by first | exact pick0 | exact pickS pick0 | exact pickS (pickS pick0) | exact pickS (pickS (pickS pick0)) | exact pickS (pickS (pickS (pickS pick0)))) (by omega)) (Ent.trans (Ent.settle (s := 5) rfl (by first | exact pick0 | exact pickS pick0 | exact pickS (pickS pick0) | exact pickS (pickS (pickS pick0)) | exact pickS (pickS (pickS (pickS pick0)))) rfl) (Ent.take (by repeat' (first | exact Take.nil | refine Take.cons (by first | exact pick0 | exact pickS pick0 | exact pickS (pickS pick0) | exact pickS (pickS (pickS pick0)) | exact pickS (pickS (pickS (pickS pick0)))) ?_))))) (Outs.many rfl (OutL.cons (by exact OutE.tmp rfl) (OutL.cons (by exact OutE.tmp rfl) OutL.nil)) rfl) ⟨rfl, rfl⟩
end Lg
