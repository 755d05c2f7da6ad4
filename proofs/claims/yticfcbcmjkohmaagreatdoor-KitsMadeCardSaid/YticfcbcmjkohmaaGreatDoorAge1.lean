/- A part of the proof of a law of this seat: it adds no condition. By an AI agent. -/
import Derived.Test.YticfcbcmjkohmaaGreatDoorOwn
section
set_option linter.all false
set_option maxRecDepth 100000
set_option maxHeartbeats 2000000
namespace Lg
open Go Go.Proofs
def orI : List Int → Int
  | [] => 0
  | x :: l => if x ≠ 0 then x else orI l
theorem orI_cons (x : Int) (l : List Int) : orI (x :: l) = if x ≠ 0 then x else orI l := rfl
theorem cmpOr_fn (l : List Int) (hl : l.length ≤ 1000) : PFn Tryz.prog 12 [.ints l] (· = .int (orI l)) := by
  refine PFn.mk (Spec.body Tryz.func12 rfl rfl (Tryz.ntmps12) rfl fun w0 own0 M => ?_)
  have hL := intRows_len l
  repeat' (first | refine Ops.nil ?_ | refine Then.norm ?_ | refine Cw.seq ?_ | refine Cw.region ?_ | refine Cw.block ?_ | refine Cw.exit ?_ | refine Cw.skip ?_ | refine Cw.ret ?_ | refine Then.exit ?_ | refine Then.ret ?_ | refine InB.exit ?_ | refine InB.norm ?_ | refine InB.ret ?_ | refine InB.exit_ne rfl ?_ | (refine Ops.k_move ?_; first | refine Ops.move rfl rfl ?_ | refine Ops.move_any rfl ?_) | (refine Ops.k_assign ?_; first | refine Ops.assign rfl rfl ?_ | refine Ops.assign_any rfl ?_) | (refine Ops.k_load ?_; first | refine Ops.load_ref_one rfl rfl ?_ | refine Ops.load_ref_agg rfl rfl rfl ?_ | refine Ops.load_box_one rfl goPk rfl rfl ?_ | refine Ops.load_box_agg rfl goPk rfl rfl ?_ | refine Ops.load_own_one rfl goPk (by first | rfl | assumption | (simp [*]; done)) rfl rfl ?_ | refine Ops.load_own_agg rfl goPk (by first | rfl | assumption | (simp [*]; done)) rfl ?_ | refine Ops.load_box_part rfl goPk rfl rfl rfl ?_ | refine Ops.load_q_one rfl goPk (by first | rfl | assumption | (simp [*]; done)) rfl rfl ?_) | (refine Ops.k_c_len ?_; first | refine Ops.len_raw rfl rfl ?_ | refine Ops.len_sl rfl rfl ?_ | refine Ops.len_str rfl rfl rfl ?_ | refine Ops.len_q rfl rfl ?_) | (refine Ops.k_b_lss ?_; first | refine Ops.lss rfl rfl rfl ?_) | (refine Ops.k_b_neq ?_; first | refine Ops.neq rfl rfl rfl ?_) | (refine Ops.k_b_add ?_; first | refine Ops.add rfl rfl (by first | omega | (simp; done) | (simp; omega)) rfl ?_) | (refine Ops.k_indexAddr ?_; first | refine Ops.indexAddr_sl rfl rfl (by omega) (by first | rfl | assumption | (simp [*]; done)) rfl ?_ | refine Ops.indexAddr_own rfl rfl goPk (by first | rfl | omega | (simp; done) | (simp; omega)) (by first | omega | (simp; done) | (simp; omega)) (by first | omega | (simp; done) | (simp; omega)) rfl ?_ | refine Ops.indexAddr_q rfl rfl goPk (by first | rfl | omega | (simp; done) | (simp; omega)) (by first | omega | (simp; done) | (simp; omega)) (by first | omega | (simp; done) | (simp; omega)) rfl ?_) | (refine Cw.k_cond ?_; first | refine Cw.cond_true rfl ?_ | refine Cw.cond_false rfl ?_ | (refine Cw.cond_dec rfl (fun hc => ?_) (fun hc => ?_) <;> try (exfalso; omega)) | refine Cw.cond_bool rfl (fun hc => ?_) (fun hc => ?_)))
  refine Cw.loop (ι := Nat) (fun k => k ≤ l.length ∧ orI (l.drop k) = orI l) (fun k => [(3, .int 0), (6, .ints l), (7, .int (intRows l).length), (8, .int k)]) (fun _ => []) (fun k => l.length - k) ⟨0, ⟨by omega, rfl⟩, (Ent.mk goSub goTk)⟩ ?_
  rintro k ⟨hk, h1⟩
  by_cases hkl : k < l.length
  · obtain ⟨x, hx⟩ := at_lt hkl
    have hrow := intRows_at hx
    rw [drop_at hx, orI_cons] at h1
    by_cases hz : x = 0
    · rw [if_neg (by omega)] at h1
      repeat' (first | refine Ops.nil ?_ | refine Then.norm ?_ | refine Cw.seq ?_ | refine Cw.region ?_ | refine Cw.block ?_ | refine Cw.exit ?_ | refine Cw.skip ?_ | refine Cw.ret ?_ | refine Then.exit ?_ | refine Then.ret ?_ | refine InB.exit ?_ | refine InB.norm ?_ | refine InB.ret ?_ | refine InB.exit_ne rfl ?_ | (refine Ops.k_move ?_; first | refine Ops.move rfl rfl ?_ | refine Ops.move_any rfl ?_) | (refine Ops.k_assign ?_; first | refine Ops.assign rfl rfl ?_ | refine Ops.assign_any rfl ?_) | (refine Ops.k_load ?_; first | refine Ops.load_ref_one rfl rfl ?_ | refine Ops.load_ref_agg rfl rfl rfl ?_ | refine Ops.load_box_one rfl goPk rfl rfl ?_ | refine Ops.load_box_agg rfl goPk rfl rfl ?_ | refine Ops.load_own_one rfl goPk (by first | rfl | assumption | (simp [*]; done)) rfl rfl ?_ | refine Ops.load_own_agg rfl goPk (by first | rfl | assumption | (simp [*]; done)) rfl ?_ | refine Ops.load_box_part rfl goPk rfl rfl rfl ?_ | refine Ops.load_q_one rfl goPk (by first | rfl | assumption | (simp [*]; done)) rfl rfl ?_) | (refine Ops.k_c_len ?_; first | refine Ops.len_raw rfl rfl ?_ | refine Ops.len_sl rfl rfl ?_ | refine Ops.len_str rfl rfl rfl ?_ | refine Ops.len_q rfl rfl ?_) | (refine Ops.k_b_lss ?_; first | refine Ops.lss rfl rfl rfl ?_) | (refine Ops.k_b_neq ?_; first | refine Ops.neq rfl rfl rfl ?_) | (refine Ops.k_b_add ?_; first | refine Ops.add rfl rfl (by first | omega | (simp; done) | (simp; omega)) rfl ?_) | (refine Ops.k_indexAddr ?_; first | refine Ops.indexAddr_sl rfl rfl (by omega) (by first | rfl | assumption | (simp [*]; done)) rfl ?_ | refine Ops.indexAddr_own rfl rfl goPk (by first | rfl | omega | (simp; done) | (simp; omega)) (by first | omega | (simp; done) | (simp; omega)) (by first | omega | (simp; done) | (simp; omega)) rfl ?_ | refine Ops.indexAddr_q rfl rfl goPk (by first | rfl | omega | (simp; done) | (simp; omega)) (by first | omega | (simp; done) | (simp; omega)) (by first | omega | (simp; done) | (simp; omega)) rfl ?_) | (refine Cw.k_cond ?_; first | refine Cw.cond_true rfl ?_ | refine Cw.cond_false rfl ?_ | (refine Cw.cond_dec rfl (fun hc => ?_) (fun hc => ?_) <;> try (exfalso; omega)) | refine Cw.cond_bool rfl (fun hc => ?_) (fun hc => ?_)))
      exact ⟨k + 1, ⟨by omega, h1⟩, by omega, (Ent.mk goSub goTk)⟩
    · rw [if_pos hz] at h1
      repeat' (first | refine Ops.nil ?_ | refine Then.norm ?_ | refine Cw.seq ?_ | refine Cw.region ?_ | refine Cw.block ?_ | refine Cw.exit ?_ | refine Cw.skip ?_ | refine Cw.ret ?_ | refine Then.exit ?_ | refine Then.ret ?_ | refine InB.exit ?_ | refine InB.norm ?_ | refine InB.ret ?_ | refine InB.exit_ne rfl ?_ | (refine Ops.k_move ?_; first | refine Ops.move rfl rfl ?_ | refine Ops.move_any rfl ?_) | (refine Ops.k_assign ?_; first | refine Ops.assign rfl rfl ?_ | refine Ops.assign_any rfl ?_) | (refine Ops.k_load ?_; first | refine Ops.load_ref_one rfl rfl ?_ | refine Ops.load_ref_agg rfl rfl rfl ?_ | refine Ops.load_box_one rfl goPk rfl rfl ?_ | refine Ops.load_box_agg rfl goPk rfl rfl ?_ | refine Ops.load_own_one rfl goPk (by first | rfl | assumption | (simp [*]; done)) rfl rfl ?_ | refine Ops.load_own_agg rfl goPk (by first | rfl | assumption | (simp [*]; done)) rfl ?_ | refine Ops.load_box_part rfl goPk rfl rfl rfl ?_ | refine Ops.load_q_one rfl goPk (by first | rfl | assumption | (simp [*]; done)) rfl rfl ?_) | (refine Ops.k_c_len ?_; first | refine Ops.len_raw rfl rfl ?_ | refine Ops.len_sl rfl rfl ?_ | refine Ops.len_str rfl rfl rfl ?_ | refine Ops.len_q rfl rfl ?_) | (refine Ops.k_b_lss ?_; first | refine Ops.lss rfl rfl rfl ?_) | (refine Ops.k_b_neq ?_; first | refine Ops.neq rfl rfl rfl ?_) | (refine Ops.k_b_add ?_; first | refine Ops.add rfl rfl (by first | omega | (simp; done) | (simp; omega)) rfl ?_) | (refine Ops.k_indexAddr ?_; first | refine Ops.indexAddr_sl rfl rfl (by omega) (by first | rfl | assumption | (simp [*]; done)) rfl ?_ | refine Ops.indexAddr_own rfl rfl goPk (by first | rfl | omega | (simp; done) | (simp; omega)) (by first | omega | (simp; done) | (simp; omega)) (by first | omega | (simp; done) | (simp; omega)) rfl ?_ | refine Ops.indexAddr_q rfl rfl goPk (by first | rfl | omega | (simp; done) | (simp; omega)) (by first | omega | (simp; done) | (simp; omega)) (by first | omega | (simp; done) | (simp; omega)) rfl ?_) | (refine Cw.k_cond ?_; first | refine Cw.cond_true rfl ?_ | refine Cw.cond_false rfl ?_ | (refine Cw.cond_dec rfl (fun hc => ?_) (fun hc => ?_) <;> try (exfalso; omega)) | refine Cw.cond_bool rfl (fun hc => ?_) (fun hc => ?_)))
      exact Fin.ret Ent.refl (Outs.one rfl rfl) ⟨rfl, congrArg Tr.int h1⟩
  · rw [List.drop_eq_nil_of_le (by omega), orI] at h1
    repeat' (first | refine Ops.nil ?_ | refine Then.norm ?_ | refine Cw.seq ?_ | refine Cw.region ?_ | refine Cw.block ?_ | refine Cw.exit ?_ | refine Cw.skip ?_ | refine Cw.ret ?_ | refine Then.exit ?_ | refine Then.ret ?_ | refine InB.exit ?_ | refine InB.norm ?_ | refine InB.ret ?_ | refine InB.exit_ne rfl ?_ | (refine Ops.k_move ?_; first | refine Ops.move rfl rfl ?_ | refine Ops.move_any rfl ?_) | (refine Ops.k_assign ?_; first | refine Ops.assign rfl rfl ?_ | refine Ops.assign_any rfl ?_) | (refine Ops.k_load ?_; first | refine Ops.load_ref_one rfl rfl ?_ | refine Ops.load_ref_agg rfl rfl rfl ?_ | refine Ops.load_box_one rfl goPk rfl rfl ?_ | refine Ops.load_box_agg rfl goPk rfl rfl ?_ | refine Ops.load_own_one rfl goPk (by first | rfl | assumption | (simp [*]; done)) rfl rfl ?_ | refine Ops.load_own_agg rfl goPk (by first | rfl | assumption | (simp [*]; done)) rfl ?_ | refine Ops.load_box_part rfl goPk rfl rfl rfl ?_ | refine Ops.load_q_one rfl goPk (by first | rfl | assumption | (simp [*]; done)) rfl rfl ?_) | (refine Ops.k_c_len ?_; first | refine Ops.len_raw rfl rfl ?_ | refine Ops.len_sl rfl rfl ?_ | refine Ops.len_str rfl rfl rfl ?_ | refine Ops.len_q rfl rfl ?_) | (refine Ops.k_b_lss ?_; first | refine Ops.lss rfl rfl rfl ?_) | (refine Ops.k_b_neq ?_; first | refine Ops.neq rfl rfl rfl ?_) | (refine Ops.k_b_add ?_; first | refine Ops.add rfl rfl (by first | omega | (simp; done) | (simp; omega)) rfl ?_) | (refine Ops.k_indexAddr ?_; first | refine Ops.indexAddr_sl rfl rfl (by omega) (by first | rfl | assumption | (simp [*]; done)) rfl ?_ | refine Ops.indexAddr_own rfl rfl goPk (by first | rfl | omega | (simp; done) | (simp; omega)) (by first | omega | (simp; done) | (simp; omega)) (by first | omega | (simp; done) | (simp; omega)) rfl ?_ | refine Ops.indexAddr_q rfl rfl goPk (by first | rfl | omega | (simp; done) | (simp; omega)) (by first | omega | (simp; done) | (simp; omega)) (by first | omega | (simp; done) | (simp; omega)) rfl ?_) | (refine Cw.k_cond ?_; first | refine Cw.cond_true rfl ?_ | refine Cw.cond_false rfl ?_ | (refine Cw.cond_dec rfl (fun hc => ?_) (fun hc => ?_) <;> try (exfalso; omega)) | refine Cw.cond_bool rfl (fun hc => ?_) (fun hc => ?_)))
    exact Fin.ret Ent.refl (Outs.one rfl rfl) ⟨rfl, congrArg Tr.int h1⟩
end Lg
end
section
set_option linter.all false
set_option maxRecDepth 100000
set_option maxHeartbeats 4000000
namespace Lg
open Go Go.Proofs

def strRows (l : List ByteArray) : List (List Tr) := l.map fun x => [Tr.str x]
abbrev Tr.strs (l : List ByteArray) : Tr := Tr.sl 1 (strRows l)
theorem strRows_len (l : List ByteArray) : (strRows l).length = l.length := by simp [strRows]
theorem strRows_at {l : List ByteArray} {j : Nat} {x : ByteArray} (h : l[j]? = some x) : (strRows l)[j]? = some [Tr.str x] := rows_at h
theorem strRows_app (a b : List ByteArray) : strRows (a ++ b) = strRows a ++ strRows b := by simp [strRows]
theorem strRows_get {l : List ByteArray} {j : Nat} (h : j < l.length) : (strRows l)[j]? = some [Tr.str l[j]] := strRows_at (List.getElem?_eq_getElem h)
inductive IsStrs : List (List Tr) → List ByteArray → Prop
  | nil : IsStrs [] []
  | cons {rows : List (List Tr)} {l : List ByteArray} {x : ByteArray} (h : IsStrs rows l) : IsStrs ([Tr.str x] :: rows) (x :: l)
theorem IsStrs.eq {rows : List (List Tr)} {l : List ByteArray} (h : IsStrs rows l) : rows = strRows l := by
  induction h with
  | nil => rfl
  | cons h ih => rw [ih]; rfl
/-- one of some strings -/
theorem one_gen {rows : List (List Tr)} {l : List ByteArray} (hr : IsStrs rows l) (h : 0 < l.length ∧ l.length ≤ 100000) :
    Gen Tryz.prog 25 23 [.sl 1 rows] 1 (fun r => ∃ v, r = .str v ∧ v ∈ l) := by
  have h := hr.eq
  subst h
  unfold Gen
  intro b xs N hN
  refine Spec.body Tryz.func23 rfl rfl (Tryz.ntmps23) rfl fun w0 own0 M => ?_
  have hl := strRows_len l
  repeat' (first | refine goH ?_ | refine goV ?_ | refine goI ?_ | (refine Cw.k_cond ?_; first | (refine Cw.cond_dec rfl (fun hc => ?_) (fun hc => ?_) <;> try (exfalso; omega)) | refine Cw.cond_bool rfl (fun hc => ?_) (fun hc => ?_)) | (refine Ops.k_calla ?_; first | (refine Ops.k_callf 24 ?_; (refine Ops.callG (next_gen _ (by omega)) (Evs.cons rfl (Evs.cons rfl Evs.nil)) goPk (by omega) rfl ?_; rintro r ⟨v, rfl, hv⟩; unfold InRange at hv; have hj : v.toNat < l.length := (by omega); have hj2 := strRows_get hj))) | fail)
  exact Fin.ret Ent.refl (Outs.one rfl rfl) ⟨rfl, _, rfl, List.getElem_mem hj⟩
theorem day_gen : Gen Tryz.prog 25 6 [] 2 (fun r => ∃ v, r = .int v ∧ -1 ≤ v ∧ v ≤ 4001) := by
  unfold Gen
  intro b xs N hN
  refine Spec.body Tryz.func6 rfl rfl (Tryz.ntmps6) rfl fun w0 own0 M => ?_
  repeat' (first | refine goH ?_ | refine goV ?_ | refine goI ?_ | (refine Cw.k_cond ?_; first | (refine Cw.cond_dec rfl (fun hc => ?_) (fun hc => ?_) <;> try (exfalso; omega)) | refine Cw.cond_bool rfl (fun hc => ?_) (fun hc => ?_)) | (refine Ops.k_calla ?_; first | (refine Ops.k_callf 7 ?_; (refine Ops.callG (pick_gen (by repeat' (first | exact IsInts.nil | apply IsInts.cons)) (by simp)) (Evs.cons rfl (Evs.cons rfl Evs.nil)) goPk (by omega) rfl ?_; rintro r ⟨u, rfl, hu⟩; simp only [List.mem_cons, List.mem_nil_iff, or_false] at hu))) | fail)
  exact Fin.ret (Ent.strm_only goPk (by omega)) (Outs.one rfl rfl) ⟨rfl, _, rfl, by omega⟩
end Lg
end
section
set_option linter.all false
set_option maxRecDepth 100000
set_option maxHeartbeats 4000000
namespace Lg
open Go Go.Proofs



def findL (l : List Lot) (id : ByteArray) : Option Lot := l.find? (fun x => decide (x.id = id))
def lotIx (l : List Lot) (id : ByteArray) : Int := idxFrom (fun x : Lot => decide (x.id = id)) l 0
def lotD (l : List Lot) (id : ByteArray) : Lot := (findL l id).getD ⟨⟨#[]⟩, ⟨#[]⟩, 0, 0⟩
theorem lotIx_none {l : List Lot} {id : ByteArray} (h : findL l id = none) : lotIx l id = -1 := (idxFrom_find _ l 0).1 h
theorem lotIx_some {l : List Lot} {id : ByteArray} {x : Lot} (h : findL l id = some x) : ∃ j : Nat, lotIx l id = j ∧ l[j]? = some x := by
  obtain ⟨j, h1, h2⟩ := (idxFrom_find _ l 0).2 x h
  exact ⟨j, by unfold lotIx; omega, h2⟩
theorem lotIx_neg {l : List Lot} {id : ByteArray} : decide (lotIx l id < 0) = (findL l id).isNone := by
  cases h : findL l id with
  | none => rw [lotIx_none h]; rfl
  | some x => obtain ⟨j, h1, _⟩ := lotIx_some h; rw [h1]; simp

def strangeB (l : List Lot) (ps : List Piece) : Bool := ps.any fun p => (findL l p.lot).isNone
theorem strangeB_cons (l : List Lot) (p : Piece) (ps : List Piece) : strangeB l (p :: ps) = ((findL l p.lot).isNone || strangeB l ps) := rfl

def coilDayErr (l : List Lot) (c : Coil) (day : Int) : Int := if lotsErr l ≠ 0 then lotsErr l else if coilErr c ≠ 0 then coilErr c else if strangeB l c.ps then 8 else if dayB day then 0 else 1
theorem dayFault1_fn (n : Int) : PFn Tryz.prog 60 [.int n] (· = .bool (!dayB n)) := by
  refine PFn.mk (Spec.body Tryz.func60 rfl rfl (Tryz.ntmps60) rfl fun w0 own0 M => ?_)
  repeat' (first | refine goH ?_ | refine goV ?_ | refine goG ?_ | (refine Ops.k_guard ?_; first | (refine Ops.guard_dec rfl rfl (fun hc => ?_) (fun hc => ?_) <;> try (exfalso; omega)) | refine Ops.guard_split rfl rfl (fun hc => ?_) (fun hc => ?_)) | refine goI ?_ | (refine Cw.k_cond ?_; first | (refine Cw.cond_dec rfl (fun hc => ?_) (fun hc => ?_) <;> try (exfalso; omega)) | refine Cw.cond_bool rfl (fun hc => ?_) (fun hc => ?_)) | fail)
  all_goals (refine Fin.ret (Ent.take goTk) (Outs.one rfl rfl) ⟨rfl, congrArg Tr.bool ?_⟩)
  all_goals (rw [Bool.eq_iff_iff]; simp [dayB, outB] at *; try omega)
theorem dayFault_fn (l : List Int) (hl : l.length ≤ 1000000) : PFn Tryz.prog 38 [.ints l] (· = .int (if l.any (fun n => !dayB n) then 1 else 0)) := by
  have k := containsFunc_int (cin := []) (caps := []) (g := 60) (p := fun n => !dayB n) (l := l) (by omega) (fun x _ => (dayFault1_fn x).lend)
  refine PFn.mk (Spec.body Tryz.func38 rfl rfl (Tryz.ntmps38) rfl fun w0 own0 M => ?_)
  generalize (l.any fun n => !dayB n) = b at *
  repeat' (first | refine goH ?_ | refine goV ?_ | refine goI ?_ | (refine Cw.k_cond ?_; first | (refine Cw.cond_dec rfl (fun hc => ?_) (fun hc => ?_) <;> try (exfalso; omega)) | refine Cw.cond_bool rfl (fun hc => ?_) (fun hc => ?_)) | (refine Ops.k_calla ?_; first | (refine Ops.k_callf 59 ?_; refine Ops.callS k (Evs.cons rfl (Evs.cons rfl Evs.nil)) (List.Perm.refl _) rfl ?_)) | fail)
  all_goals (refine Fin.ret (Ent.take goTk) (Outs.one rfl rfl) ⟨rfl, congrArg Tr.int ?_⟩; simp_all)
end Lg
end
