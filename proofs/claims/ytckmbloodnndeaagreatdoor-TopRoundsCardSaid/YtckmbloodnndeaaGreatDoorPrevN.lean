/- A part of the proof of a law of this seat: it adds no condition. By an AI agent. -/
import Derived.Test.YtckmbloodnndeaaGreatDoorHi5
section
set_option linter.all false
set_option maxRecDepth 100000
set_option maxHeartbeats 4000000
namespace Lg
open Go Go.Proofs

def bump (h : List Int) (s : Nat) : List Int := (h ++ List.replicate (s + 1 - h.length) 0).set s ((h ++ List.replicate (s + 1 - h.length) 0).getD s 0 + 1)
def histGo : List Int → List Sales → List Int
  | h, [] => h
  | h, d :: l => histGo (if d.out = true then h else bump h d.sold.toNat) l
theorem histGo_cons (h : List Int) (d : Sales) (l : List Sales) : histGo h (d :: l) = histGo (if d.out = true then h else bump h d.sold.toNat) l := rfl
theorem bump_len (h : List Int) (s : Nat) : (bump h s).length = max h.length (s + 1) := by
  unfold bump
  simp
  omega
theorem bump_bd {h : List Int} {s : Nat} {B : Int} (hB : 0 ≤ B) (hh : ∀ x ∈ h, 0 ≤ x ∧ x ≤ B) : ∀ x ∈ bump h s, 0 ≤ x ∧ x ≤ B + 1 := by
  have h1 : ∀ x ∈ h ++ List.replicate (s + 1 - h.length) 0, 0 ≤ x ∧ x ≤ B := fun x hx => by
    rcases List.mem_append.1 hx with hx | hx
    · exact hh x hx
    · have := List.eq_of_mem_replicate hx
      omega
  intro x hx
  unfold bump at hx
  rcases List.mem_or_eq_of_mem_set hx with hx | hx
  · have := h1 x hx; omega
  · generalize h ++ List.replicate (s + 1 - h.length) 0 = q at *
    rw [hx, List.getD_eq_getElem?_getD]
    cases hq : q[s]? with
    | none => simp; omega
    | some y =>
      have := h1 y (List.mem_of_getElem? hq)
      simp
      omega

theorem histogramR_fn (l : List Sales) (hr : Right l) (h0 : daysFault l = 0) : PFn Tryz.prog 16 [.sales l] (· = .tup [.ints (histGo [] l), .int 0]) := by
  refine PFn.mk (Spec.body Tryz.func16 rfl rfl (Tryz.ntmps16) rfl fun w0 own0 M => ?_)
  have hL : (l.map Sales.row).length = l.length := List.length_map _
  have h400 := hr.len
  have hck := checkDays_fn l
  rw [h0] at hck
  repeat' (first | refine Ops.nil ?_ | refine Then.norm ?_ | refine Cw.seq ?_ | refine Cw.region ?_ | refine Cw.block ?_ | refine Cw.exit ?_ | refine Cw.skip ?_ | refine Cw.ret ?_ | refine Then.exit ?_ | refine Then.ret ?_ | refine InB.exit ?_ | refine InB.norm ?_ | refine InB.ret ?_ | refine InB.exit_ne rfl ?_ | (refine Ops.k_move ?_; first | refine Ops.move rfl rfl ?_ | refine Ops.move_any rfl ?_) | (refine Ops.k_assign ?_; first | refine Ops.assign rfl rfl ?_ | refine Ops.assign_any rfl ?_) | (refine Ops.k_load ?_; first | refine Ops.load_ref_one rfl rfl ?_ | refine Ops.load_ref_agg rfl rfl rfl ?_ | refine Ops.load_box_one rfl goPk rfl rfl ?_ | refine Ops.load_box_agg rfl goPk rfl rfl ?_ | refine Ops.load_own_one rfl goPk (by first | rfl | assumption | (simp [*]; done)) rfl rfl ?_ | refine Ops.load_own_agg rfl goPk (by first | rfl | assumption | (simp [*]; done)) rfl ?_ | refine Ops.load_box_part rfl goPk rfl rfl rfl ?_ | refine Ops.load_q_one rfl goPk (by first | rfl | assumption | (simp [*]; done)) rfl rfl ?_) | (refine Ops.k_store ?_; first | refine Ops.store_box rfl rfl goPk rfl rfl ?_ | refine Ops.store_own1 rfl rfl goPk (by first | rfl | assumption | (simp [*]; done)) (by decide) ?_ | refine Ops.store_own_all rfl rfl goPk (by first | assumption | omega | (simp; omega) | (simp [*]; done)) rfl ?_) | (refine Ops.k_c_len ?_; first | refine Ops.len_raw rfl rfl ?_ | refine Ops.len_sl rfl rfl ?_ | refine Ops.len_str rfl rfl rfl ?_ | refine Ops.len_q rfl rfl ?_) | (refine Ops.k_b_lss ?_; first | refine Ops.lss rfl rfl rfl ?_) | (refine Ops.k_b_neq ?_; first | refine Ops.neq rfl rfl rfl ?_) | (refine Ops.k_b_leq ?_; first | refine Ops.leq rfl rfl rfl ?_) | (refine Ops.k_b_add ?_; first | refine Ops.add rfl rfl (by first | omega | (simp; done) | (simp; omega)) rfl ?_) | (refine Ops.k_fieldAddr ?_; first | refine Ops.fieldAddr_raw rfl rfl ?_ | refine Ops.fieldAddr_ref rfl rfl ?_ | refine Ops.fieldAddr_eptr rfl rfl ?_) | (refine Ops.k_indexAddr ?_; first | refine Ops.indexAddr_sl rfl rfl (by omega) (by first | rfl | assumption | (simp [*]; done)) rfl ?_ | refine Ops.indexAddr_own rfl rfl goPk (by first | rfl | omega | (simp; done) | (simp; omega)) (by first | omega | (simp; done) | (simp; omega)) (by first | omega | (simp; done) | (simp; omega)) rfl ?_ | refine Ops.indexAddr_q rfl rfl goPk (by first | rfl | omega | (simp; done) | (simp; omega)) (by first | omega | (simp; done) | (simp; omega)) (by first | omega | (simp; done) | (simp; omega)) rfl ?_) | (refine Ops.k_alloc ?_; first | refine Ops.alloc rfl (fun b => ?_)) | (refine Ops.k_buildSlice ?_; first | (refine Ops.k_buildSlice1 ?_; refine Ops.buildSlice (by exact Parts.cons rfl rfl rfl (by exact Parts.nil)) rfl rfl rfl ?_)) | (refine Ops.k_c_append ?_; first | refine Ops.append rfl rfl goPk (by first | rfl | omega | (simp; done) | (simp; omega)) (by first | omega | (simp; done) | (simp; omega)) (by first | omega | (simp; done) | (simp; omega)) rfl (fun ad cap => ?_) | refine Ops.append_q rfl rfl goPk (by first | rfl | omega | (simp; done) | (simp; omega)) (by first | exact List.cons_ne_nil _ _ | simp) (by first | omega | (simp; done) | (simp; omega)) (by first | omega | (simp; done) | (simp; omega)) rfl (fun ad o cap => ?_)) | (refine Cw.k_cond ?_; first | refine Cw.cond_true rfl ?_ | refine Cw.cond_false rfl ?_ | (refine Cw.cond_dec rfl (fun hc => ?_) (fun hc => ?_) <;> try (exfalso; omega)) | refine Cw.cond_bool rfl (fun hc => ?_) (fun hc => ?_)) | (refine Ops.k_calla ?_; first | (refine Ops.k_callf 45 ?_; refine Ops.callV hck (Evs.cons rfl Evs.nil) rfl ?_)))
  refine Cw.loop (ι := Nat × Option Addr × Nat × List (List Tr) × List Int × Nat) (fun s => s.1 ≤ l.length ∧ s.2.2.2.1 = intRows s.2.2.2.2.1 ∧ s.2.2.2.2.2 = s.2.2.2.1.length ∧ histGo s.2.2.2.2.1 (l.drop s.1) = histGo [] l ∧ s.2.2.2.2.1.length ≤ 1001 ∧ ∀ x ∈ s.2.2.2.2.1, 0 ≤ x ∧ x ≤ (s.1 : Int))
    (fun s => [(5, Tr.raw (.slice s.2.1 s.2.2.2.2.2 s.2.2.1)), (13, .sales l), (14, .int (l.map Sales.row).length), (15, .int s.1)])
    (fun s => [Chunk.own s.2.1 s.2.2.1 1 3 s.2.2.2.1]) (fun s => l.length - s.1) ⟨(0, none, 0, [], [], 0), ⟨by simp only; omega, rfl, rfl, rfl, by simp, fun x hx => by cases hx⟩, Ent.trans (Ent.nil 1 3) (Ent.mk goSub goTk)⟩ ?_
  rintro ⟨k, ad, cap, rows, h, L⟩ ⟨hk, hrows, hLl, hgo, hlen, hbd⟩
  simp only at hk hrows hLl hgo hlen hbd ⊢
  have hrl : rows.length = h.length := by rw [hrows, intRows_len]
  by_cases hkl : ¬ k < l.length
  · rw [List.drop_eq_nil_of_le (by omega), histGo] at hgo
    repeat' (first | refine Ops.nil ?_ | refine Then.norm ?_ | refine Cw.seq ?_ | refine Cw.region ?_ | refine Cw.block ?_ | refine Cw.exit ?_ | refine Cw.skip ?_ | refine Cw.ret ?_ | refine Then.exit ?_ | refine Then.ret ?_ | refine InB.exit ?_ | refine InB.norm ?_ | refine InB.ret ?_ | refine InB.exit_ne rfl ?_ | (refine Ops.k_move ?_; first | refine Ops.move rfl rfl ?_ | refine Ops.move_any rfl ?_) | (refine Ops.k_assign ?_; first | refine Ops.assign rfl rfl ?_ | refine Ops.assign_any rfl ?_) | (refine Ops.k_load ?_; first | refine Ops.load_ref_one rfl rfl ?_ | refine Ops.load_ref_agg rfl rfl rfl ?_ | refine Ops.load_box_one rfl goPk rfl rfl ?_ | refine Ops.load_box_agg rfl goPk rfl rfl ?_ | refine Ops.load_own_one rfl goPk (by first | rfl | assumption | (simp [*]; done)) rfl rfl ?_ | refine Ops.load_own_agg rfl goPk (by first | rfl | assumption | (simp [*]; done)) rfl ?_ | refine Ops.load_box_part rfl goPk rfl rfl rfl ?_ | refine Ops.load_q_one rfl goPk (by first | rfl | assumption | (simp [*]; done)) rfl rfl ?_) | (refine Ops.k_store ?_; first | refine Ops.store_box rfl rfl goPk rfl rfl ?_ | refine Ops.store_own1 rfl rfl goPk (by first | rfl | assumption | (simp [*]; done)) (by decide) ?_ | refine Ops.store_own_all rfl rfl goPk (by first | assumption | omega | (simp; omega) | (simp [*]; done)) rfl ?_) | (refine Ops.k_c_len ?_; first | refine Ops.len_raw rfl rfl ?_ | refine Ops.len_sl rfl rfl ?_ | refine Ops.len_str rfl rfl rfl ?_ | refine Ops.len_q rfl rfl ?_) | (refine Ops.k_b_lss ?_; first | refine Ops.lss rfl rfl rfl ?_) | (refine Ops.k_b_neq ?_; first | refine Ops.neq rfl rfl rfl ?_) | (refine Ops.k_b_leq ?_; first | refine Ops.leq rfl rfl rfl ?_) | (refine Ops.k_b_add ?_; first | refine Ops.add rfl rfl (by first | omega | (simp; done) | (simp; omega)) rfl ?_) | (refine Ops.k_fieldAddr ?_; first | refine Ops.fieldAddr_raw rfl rfl ?_ | refine Ops.fieldAddr_ref rfl rfl ?_ | refine Ops.fieldAddr_eptr rfl rfl ?_) | (refine Ops.k_indexAddr ?_; first | refine Ops.indexAddr_sl rfl rfl (by omega) (by first | rfl | assumption | (simp [*]; done)) rfl ?_ | refine Ops.indexAddr_own rfl rfl goPk (by first | rfl | omega | (simp; done) | (simp; omega)) (by first | omega | (simp; done) | (simp; omega)) (by first | omega | (simp; done) | (simp; omega)) rfl ?_ | refine Ops.indexAddr_q rfl rfl goPk (by first | rfl | omega | (simp; done) | (simp; omega)) (by first | omega | (simp; done) | (simp; omega)) (by first | omega | (simp; done) | (simp; omega)) rfl ?_) | (refine Ops.k_alloc ?_; first | refine Ops.alloc rfl (fun b => ?_)) | (refine Ops.k_buildSlice ?_; first | (refine Ops.k_buildSlice1 ?_; refine Ops.buildSlice (by exact Parts.cons rfl rfl rfl (by exact Parts.nil)) rfl rfl rfl ?_)) | (refine Ops.k_c_append ?_; first | refine Ops.append rfl rfl goPk (by first | rfl | omega | (simp; done) | (simp; omega)) (by first | omega | (simp; done) | (simp; omega)) (by first | omega | (simp; done) | (simp; omega)) rfl (fun ad cap => ?_) | refine Ops.append_q rfl rfl goPk (by first | rfl | omega | (simp; done) | (simp; omega)) (by first | exact List.cons_ne_nil _ _ | simp) (by first | omega | (simp; done) | (simp; omega)) (by first | omega | (simp; done) | (simp; omega)) rfl (fun ad o cap => ?_)) | (refine Cw.k_cond ?_; first | refine Cw.cond_true rfl ?_ | refine Cw.cond_false rfl ?_ | (refine Cw.cond_dec rfl (fun hc => ?_) (fun hc => ?_) <;> try (exfalso; omega)) | refine Cw.cond_bool rfl (fun hc => ?_) (fun hc => ?_)))
    refine Fin.ret (Ent.trans (Ent.settle (s := 2) rfl goPk (by omega)) (Ent.take goTk)) (Outs.two rfl rfl rfl) ⟨rfl, ?_⟩
    rw [hrows, hgo]
  obtain ⟨d, hd⟩ := at_lt (l := l) (k := k) (by omega)
  have hsd := hr.sold d (List.mem_of_getElem? hd)
  have hrow : (l.map Sales.row)[k]? = some [Tr.int d.day, Tr.int d.sold, Tr.bool d.out] := rows_at hd
  rw [drop_at hd, histGo_cons] at hgo
  obtain ⟨dd, ds, dout⟩ := d
  simp only at hrow hsd hgo
  cases dout
  · rw [if_neg (by simp)] at hgo
    obtain ⟨s, rfl⟩ : ∃ s : Nat, ds = (s : Int) := ⟨ds.toNat, by omega⟩
    rw [show ((s : Nat) : Int).toNat = s by omega] at hgo
    repeat' (first | refine Ops.nil ?_ | refine Then.norm ?_ | refine Cw.seq ?_ | refine Cw.region ?_ | refine Cw.block ?_ | refine Cw.exit ?_ | refine Cw.skip ?_ | refine Cw.ret ?_ | refine Then.exit ?_ | refine Then.ret ?_ | refine InB.exit ?_ | refine InB.norm ?_ | refine InB.ret ?_ | refine InB.exit_ne rfl ?_ | (refine Ops.k_move ?_; first | refine Ops.move rfl rfl ?_ | refine Ops.move_any rfl ?_) | (refine Ops.k_assign ?_; first | refine Ops.assign rfl rfl ?_ | refine Ops.assign_any rfl ?_) | (refine Ops.k_load ?_; first | refine Ops.load_ref_one rfl rfl ?_ | refine Ops.load_ref_agg rfl rfl rfl ?_ | refine Ops.load_box_one rfl goPk rfl rfl ?_ | refine Ops.load_box_agg rfl goPk rfl rfl ?_ | refine Ops.load_own_one rfl goPk (by first | rfl | assumption | (simp [*]; done)) rfl rfl ?_ | refine Ops.load_own_agg rfl goPk (by first | rfl | assumption | (simp [*]; done)) rfl ?_ | refine Ops.load_box_part rfl goPk rfl rfl rfl ?_ | refine Ops.load_q_one rfl goPk (by first | rfl | assumption | (simp [*]; done)) rfl rfl ?_) | (refine Ops.k_store ?_; first | refine Ops.store_box rfl rfl goPk rfl rfl ?_ | refine Ops.store_own1 rfl rfl goPk (by first | rfl | assumption | (simp [*]; done)) (by decide) ?_ | refine Ops.store_own_all rfl rfl goPk (by first | assumption | omega | (simp; omega) | (simp [*]; done)) rfl ?_) | (refine Ops.k_c_len ?_; first | refine Ops.len_raw rfl rfl ?_ | refine Ops.len_sl rfl rfl ?_ | refine Ops.len_str rfl rfl rfl ?_ | refine Ops.len_q rfl rfl ?_) | (refine Ops.k_b_lss ?_; first | refine Ops.lss rfl rfl rfl ?_) | (refine Ops.k_b_neq ?_; first | refine Ops.neq rfl rfl rfl ?_) | (refine Ops.k_b_leq ?_; first | refine Ops.leq rfl rfl rfl ?_) | (refine Ops.k_b_add ?_; first | refine Ops.add rfl rfl (by first | omega | (simp; done) | (simp; omega)) rfl ?_) | (refine Ops.k_fieldAddr ?_; first | refine Ops.fieldAddr_raw rfl rfl ?_ | refine Ops.fieldAddr_ref rfl rfl ?_ | refine Ops.fieldAddr_eptr rfl rfl ?_) | (refine Ops.k_indexAddr ?_; first | refine Ops.indexAddr_sl rfl rfl (by omega) (by first | rfl | assumption | (simp [*]; done)) rfl ?_ | refine Ops.indexAddr_own rfl rfl goPk (by first | rfl | omega | (simp; done) | (simp; omega)) (by first | omega | (simp; done) | (simp; omega)) (by first | omega | (simp; done) | (simp; omega)) rfl ?_ | refine Ops.indexAddr_q rfl rfl goPk (by first | rfl | omega | (simp; done) | (simp; omega)) (by first | omega | (simp; done) | (simp; omega)) (by first | omega | (simp; done) | (simp; omega)) rfl ?_) | (refine Ops.k_alloc ?_; first | refine Ops.alloc rfl (fun b => ?_)) | (refine Ops.k_buildSlice ?_; first | (refine Ops.k_buildSlice1 ?_; refine Ops.buildSlice (by exact Parts.cons rfl rfl rfl (by exact Parts.nil)) rfl rfl rfl ?_)) | (refine Ops.k_c_append ?_; first | refine Ops.append rfl rfl goPk (by first | rfl | omega | (simp; done) | (simp; omega)) (by first | omega | (simp; done) | (simp; omega)) (by first | omega | (simp; done) | (simp; omega)) rfl (fun ad cap => ?_) | refine Ops.append_q rfl rfl goPk (by first | rfl | omega | (simp; done) | (simp; omega)) (by first | exact List.cons_ne_nil _ _ | simp) (by first | omega | (simp; done) | (simp; omega)) (by first | omega | (simp; done) | (simp; omega)) rfl (fun ad o cap => ?_)) | (refine Cw.k_cond ?_; first | refine Cw.cond_true rfl ?_ | refine Cw.cond_false rfl ?_ | (refine Cw.cond_dec rfl (fun hc => ?_) (fun hc => ?_) <;> try (exfalso; omega)) | refine Cw.cond_bool rfl (fun hc => ?_) (fun hc => ?_)))
    refine Cw.loop (ι := Nat × Option Addr × Nat × List (List Tr)) (fun t => t.1 ≤ s + 1 - h.length ∧ t.2.2.2 = intRows (h ++ List.replicate t.1 0))
      (fun t => [(5, Tr.raw (.slice t.2.1 t.2.2.2.length t.2.2.1)), (7, .ptr b), (13, .sales l), (14, .int (l.map Sales.row).length), (15, .int k)])
      (fun t => [Chunk.own t.2.1 t.2.2.1 1 3 t.2.2.2, Chunk.box b 77 [Tr.int dd, Tr.int s, Tr.bool false]]) (fun t => s + 1 - h.length - t.1) ⟨(0, ad, cap, rows), ⟨Nat.zero_le _, by simp only [List.replicate_zero, List.append_nil]; exact hrows⟩, (by simp only; rw [hLl]; exact (Ent.mk goSub goTk))⟩ ?_
    rintro ⟨m, ad, cap, rows⟩ ⟨hm, hrows2⟩
    simp only at hm hrows2 ⊢
    have hrl2 : rows.length = h.length + m := by rw [hrows2, intRows_len]; simp
    have key : rows ++ [[Tr.int 0]] = intRows (h ++ List.replicate (m + 1) 0) := by rw [hrows2, List.replicate_succ', ← List.append_assoc, intRows_app (h ++ List.replicate m 0)]; rfl
    by_cases hc : h.length + m ≤ s
    · repeat' (first | refine Ops.nil ?_ | refine Then.norm ?_ | refine Cw.seq ?_ | refine Cw.region ?_ | refine Cw.block ?_ | refine Cw.exit ?_ | refine Cw.skip ?_ | refine Cw.ret ?_ | refine Then.exit ?_ | refine Then.ret ?_ | refine InB.exit ?_ | refine InB.norm ?_ | refine InB.ret ?_ | refine InB.exit_ne rfl ?_ | (refine Ops.k_move ?_; first | refine Ops.move rfl rfl ?_ | refine Ops.move_any rfl ?_) | (refine Ops.k_assign ?_; first | refine Ops.assign rfl rfl ?_ | refine Ops.assign_any rfl ?_) | (refine Ops.k_load ?_; first | refine Ops.load_ref_one rfl rfl ?_ | refine Ops.load_ref_agg rfl rfl rfl ?_ | refine Ops.load_box_one rfl goPk rfl rfl ?_ | refine Ops.load_box_agg rfl goPk rfl rfl ?_ | refine Ops.load_own_one rfl goPk (by first | rfl | assumption | (simp [*]; done)) rfl rfl ?_ | refine Ops.load_own_agg rfl goPk (by first | rfl | assumption | (simp [*]; done)) rfl ?_ | refine Ops.load_box_part rfl goPk rfl rfl rfl ?_ | refine Ops.load_q_one rfl goPk (by first | rfl | assumption | (simp [*]; done)) rfl rfl ?_) | (refine Ops.k_store ?_; first | refine Ops.store_box rfl rfl goPk rfl rfl ?_ | refine Ops.store_own1 rfl rfl goPk (by first | rfl | assumption | (simp [*]; done)) (by decide) ?_ | refine Ops.store_own_all rfl rfl goPk (by first | assumption | omega | (simp; omega) | (simp [*]; done)) rfl ?_) | (refine Ops.k_c_len ?_; first | refine Ops.len_raw rfl rfl ?_ | refine Ops.len_sl rfl rfl ?_ | refine Ops.len_str rfl rfl rfl ?_ | refine Ops.len_q rfl rfl ?_) | (refine Ops.k_b_lss ?_; first | refine Ops.lss rfl rfl rfl ?_) | (refine Ops.k_b_neq ?_; first | refine Ops.neq rfl rfl rfl ?_) | (refine Ops.k_b_leq ?_; first | refine Ops.leq rfl rfl rfl ?_) | (refine Ops.k_b_add ?_; first | refine Ops.add rfl rfl (by first | omega | (simp; done) | (simp; omega)) rfl ?_) | (refine Ops.k_fieldAddr ?_; first | refine Ops.fieldAddr_raw rfl rfl ?_ | refine Ops.fieldAddr_ref rfl rfl ?_ | refine Ops.fieldAddr_eptr rfl rfl ?_) | (refine Ops.k_indexAddr ?_; first | refine Ops.indexAddr_sl rfl rfl (by omega) (by first | rfl | assumption | (simp [*]; done)) rfl ?_ | refine Ops.indexAddr_own rfl rfl goPk (by first | rfl | omega | (simp; done) | (simp; omega)) (by first | omega | (simp; done) | (simp; omega)) (by first | omega | (simp; done) | (simp; omega)) rfl ?_ | refine Ops.indexAddr_q rfl rfl goPk (by first | rfl | omega | (simp; done) | (simp; omega)) (by first | omega | (simp; done) | (simp; omega)) (by first | omega | (simp; done) | (simp; omega)) rfl ?_) | (refine Ops.k_alloc ?_; first | refine Ops.alloc rfl (fun b => ?_)) | (refine Ops.k_buildSlice ?_; first | (refine Ops.k_buildSlice1 ?_; refine Ops.buildSlice (by exact Parts.cons rfl rfl rfl (by exact Parts.nil)) rfl rfl rfl ?_)) | (refine Ops.k_c_append ?_; first | refine Ops.append rfl rfl goPk (by first | rfl | omega | (simp; done) | (simp; omega)) (by first | omega | (simp; done) | (simp; omega)) (by first | omega | (simp; done) | (simp; omega)) rfl (fun ad cap => ?_) | refine Ops.append_q rfl rfl goPk (by first | rfl | omega | (simp; done) | (simp; omega)) (by first | exact List.cons_ne_nil _ _ | simp) (by first | omega | (simp; done) | (simp; omega)) (by first | omega | (simp; done) | (simp; omega)) rfl (fun ad o cap => ?_)) | (refine Cw.k_cond ?_; first | refine Cw.cond_true rfl ?_ | refine Cw.cond_false rfl ?_ | (refine Cw.cond_dec rfl (fun hc => ?_) (fun hc => ?_) <;> try (exfalso; omega)) | refine Cw.cond_bool rfl (fun hc => ?_) (fun hc => ?_)))
      refine ⟨(m + 1, _, _, _), ⟨by simp only; omega, key⟩, by simp only; omega, (Ent.mk goSub goTk)⟩
    · have hme : List.replicate m 0 = List.replicate (s + 1 - h.length) (0 : Int) := by
        by_cases e : h.length ≤ s
        · congr 1; omega
        · rw [show m = 0 by omega, show s + 1 - h.length = 0 by omega]
      rw [hme] at hrows2
      have hbump : bump h s = (h ++ List.replicate (s + 1 - h.length) 0).set s ((h ++ List.replicate (s + 1 - h.length) 0).getD s 0 + 1) := rfl
      have hq1 : ∀ x ∈ h ++ List.replicate (s + 1 - h.length) 0, 0 ≤ x ∧ x ≤ (k : Int) := fun x hx => by
        rcases List.mem_append.1 hx with hx | hx
        · exact hbd x hx
        · have := List.eq_of_mem_replicate hx
          omega
      have hql : (h ++ List.replicate (s + 1 - h.length) (0 : Int)).length = rows.length := by rw [hrows2, intRows_len]
      generalize h ++ List.replicate (s + 1 - h.length) (0 : Int) = q at *
      obtain ⟨y, hy⟩ := at_lt (l := q) (k := s) (by omega)
      have hyb := hq1 y (List.mem_of_getElem? hy)
      have hrs : rows[((s : Nat) : Int).toNat]? = some [Tr.int y] := by rw [hrows2]; exact intRows_at hy
      have hgd : q.getD s 0 = y := by rw [List.getD_eq_getElem?_getD, hy]; rfl
      rw [hgd] at hbump
      repeat' (first | refine Ops.nil ?_ | refine Then.norm ?_ | refine Cw.seq ?_ | refine Cw.region ?_ | refine Cw.block ?_ | refine Cw.exit ?_ | refine Cw.skip ?_ | refine Cw.ret ?_ | refine Then.exit ?_ | refine Then.ret ?_ | refine InB.exit ?_ | refine InB.norm ?_ | refine InB.ret ?_ | refine InB.exit_ne rfl ?_ | (refine Ops.k_move ?_; first | refine Ops.move rfl rfl ?_ | refine Ops.move_any rfl ?_) | (refine Ops.k_assign ?_; first | refine Ops.assign rfl rfl ?_ | refine Ops.assign_any rfl ?_) | (refine Ops.k_load ?_; first | refine Ops.load_ref_one rfl rfl ?_ | refine Ops.load_ref_agg rfl rfl rfl ?_ | refine Ops.load_box_one rfl goPk rfl rfl ?_ | refine Ops.load_box_agg rfl goPk rfl rfl ?_ | refine Ops.load_own_one rfl goPk (by first | rfl | assumption | (simp [*]; done)) rfl rfl ?_ | refine Ops.load_own_agg rfl goPk (by first | rfl | assumption | (simp [*]; done)) rfl ?_ | refine Ops.load_box_part rfl goPk rfl rfl rfl ?_ | refine Ops.load_q_one rfl goPk (by first | rfl | assumption | (simp [*]; done)) rfl rfl ?_) | (refine Ops.k_store ?_; first | refine Ops.store_box rfl rfl goPk rfl rfl ?_ | refine Ops.store_own1 rfl rfl goPk (by first | rfl | assumption | (simp [*]; done)) (by decide) ?_ | refine Ops.store_own_all rfl rfl goPk (by first | assumption | omega | (simp; omega) | (simp [*]; done)) rfl ?_) | (refine Ops.k_c_len ?_; first | refine Ops.len_raw rfl rfl ?_ | refine Ops.len_sl rfl rfl ?_ | refine Ops.len_str rfl rfl rfl ?_ | refine Ops.len_q rfl rfl ?_) | (refine Ops.k_b_lss ?_; first | refine Ops.lss rfl rfl rfl ?_) | (refine Ops.k_b_neq ?_; first | refine Ops.neq rfl rfl rfl ?_) | (refine Ops.k_b_leq ?_; first | refine Ops.leq rfl rfl rfl ?_) | (refine Ops.k_b_add ?_; first | refine Ops.add rfl rfl (by first | omega | (simp; done) | (simp; omega)) rfl ?_) | (refine Ops.k_fieldAddr ?_; first | refine Ops.fieldAddr_raw rfl rfl ?_ | refine Ops.fieldAddr_ref rfl rfl ?_ | refine Ops.fieldAddr_eptr rfl rfl ?_) | (refine Ops.k_indexAddr ?_; first | refine Ops.indexAddr_sl rfl rfl (by omega) (by first | rfl | assumption | (simp [*]; done)) rfl ?_ | refine Ops.indexAddr_own rfl rfl goPk (by first | rfl | omega | (simp; done) | (simp; omega)) (by first | omega | (simp; done) | (simp; omega)) (by first | omega | (simp; done) | (simp; omega)) rfl ?_ | refine Ops.indexAddr_q rfl rfl goPk (by first | rfl | omega | (simp; done) | (simp; omega)) (by first | omega | (simp; done) | (simp; omega)) (by first | omega | (simp; done) | (simp; omega)) rfl ?_) | (refine Ops.k_alloc ?_; first | refine Ops.alloc rfl (fun b => ?_)) | (refine Ops.k_buildSlice ?_; first | (refine Ops.k_buildSlice1 ?_; refine Ops.buildSlice (by exact Parts.cons rfl rfl rfl (by exact Parts.nil)) rfl rfl rfl ?_)) | (refine Ops.k_c_append ?_; first | refine Ops.append rfl rfl goPk (by first | rfl | omega | (simp; done) | (simp; omega)) (by first | omega | (simp; done) | (simp; omega)) (by first | omega | (simp; done) | (simp; omega)) rfl (fun ad cap => ?_) | refine Ops.append_q rfl rfl goPk (by first | rfl | omega | (simp; done) | (simp; omega)) (by first | exact List.cons_ne_nil _ _ | simp) (by first | omega | (simp; done) | (simp; omega)) (by first | omega | (simp; done) | (simp; omega)) rfl (fun ad o cap => ?_)) | (refine Cw.k_cond ?_; first | refine Cw.cond_true rfl ?_ | refine Cw.cond_false rfl ?_ | (refine Cw.cond_dec rfl (fun hc => ?_) (fun hc => ?_) <;> try (exfalso; omega)) | refine Cw.cond_bool rfl (fun hc => ?_) (fun hc => ?_)))
      refine ⟨(k + 1, _, _, _, bump h s, _), ⟨by simp only; omega, ?_, ?_, hgo, ?_, ?_⟩, by simp only; omega, (Ent.mk goSub goTk)⟩
      · simp only
        rw [hbump, ← intRows_set, hrows2]
        rfl
      · simp
      · simp only
        rw [bump_len]
        omega
      · simp only
        have := bump_bd (s := s) (B := (k : Int)) (by omega) hbd
        intro x hx
        have := this x hx
        omega
  · rw [if_pos rfl] at hgo
    repeat' (first | refine Ops.nil ?_ | refine Then.norm ?_ | refine Cw.seq ?_ | refine Cw.region ?_ | refine Cw.block ?_ | refine Cw.exit ?_ | refine Cw.skip ?_ | refine Cw.ret ?_ | refine Then.exit ?_ | refine Then.ret ?_ | refine InB.exit ?_ | refine InB.norm ?_ | refine InB.ret ?_ | refine InB.exit_ne rfl ?_ | (refine Ops.k_move ?_; first | refine Ops.move rfl rfl ?_ | refine Ops.move_any rfl ?_) | (refine Ops.k_assign ?_; first | refine Ops.assign rfl rfl ?_ | refine Ops.assign_any rfl ?_) | (refine Ops.k_load ?_; first | refine Ops.load_ref_one rfl rfl ?_ | refine Ops.load_ref_agg rfl rfl rfl ?_ | refine Ops.load_box_one rfl goPk rfl rfl ?_ | refine Ops.load_box_agg rfl goPk rfl rfl ?_ | refine Ops.load_own_one rfl goPk (by first | rfl | assumption | (simp [*]; done)) rfl rfl ?_ | refine Ops.load_own_agg rfl goPk (by first | rfl | assumption | (simp [*]; done)) rfl ?_ | refine Ops.load_box_part rfl goPk rfl rfl rfl ?_ | refine Ops.load_q_one rfl goPk (by first | rfl | assumption | (simp [*]; done)) rfl rfl ?_) | (refine Ops.k_store ?_; first | refine Ops.store_box rfl rfl goPk rfl rfl ?_ | refine Ops.store_own1 rfl rfl goPk (by first | rfl | assumption | (simp [*]; done)) (by decide) ?_ | refine Ops.store_own_all rfl rfl goPk (by first | assumption | omega | (simp; omega) | (simp [*]; done)) rfl ?_) | (refine Ops.k_c_len ?_; first | refine Ops.len_raw rfl rfl ?_ | refine Ops.len_sl rfl rfl ?_ | refine Ops.len_str rfl rfl rfl ?_ | refine Ops.len_q rfl rfl ?_) | (refine Ops.k_b_lss ?_; first | refine Ops.lss rfl rfl rfl ?_) | (refine Ops.k_b_neq ?_; first | refine Ops.neq rfl rfl rfl ?_) | (refine Ops.k_b_leq ?_; first | refine Ops.leq rfl rfl rfl ?_) | (refine Ops.k_b_add ?_; first | refine Ops.add rfl rfl (by first | omega | (simp; done) | (simp; omega)) rfl ?_) | (refine Ops.k_fieldAddr ?_; first | refine Ops.fieldAddr_raw rfl rfl ?_ | refine Ops.fieldAddr_ref rfl rfl ?_ | refine Ops.fieldAddr_eptr rfl rfl ?_) | (refine Ops.k_indexAddr ?_; first | refine Ops.indexAddr_sl rfl rfl (by omega) (by first | rfl | assumption | (simp [*]; done)) rfl ?_ | refine Ops.indexAddr_own rfl rfl goPk (by first | rfl | omega | (simp; done) | (simp; omega)) (by first | omega | (simp; done) | (simp; omega)) (by first | omega | (simp; done) | (simp; omega)) rfl ?_ | refine Ops.indexAddr_q rfl rfl goPk (by first | rfl | omega | (simp; done) | (simp; omega)) (by first | omega | (simp; done) | (simp; omega)) (by first | omega | (simp; done) | (simp; omega)) rfl ?_) | (refine Ops.k_alloc ?_; first | refine Ops.alloc rfl (fun b => ?_)) | (refine Ops.k_buildSlice ?_; first | (refine Ops.k_buildSlice1 ?_; refine Ops.buildSlice (by exact Parts.cons rfl rfl rfl (by exact Parts.nil)) rfl rfl rfl ?_)) | (refine Ops.k_c_append ?_; first | refine Ops.append rfl rfl goPk (by first | rfl | omega | (simp; done) | (simp; omega)) (by first | omega | (simp; done) | (simp; omega)) (by first | omega | (simp; done) | (simp; omega)) rfl (fun ad cap => ?_) | refine Ops.append_q rfl rfl goPk (by first | rfl | omega | (simp; done) | (simp; omega)) (by first | exact List.cons_ne_nil _ _ | simp) (by first | omega | (simp; done) | (simp; omega)) (by first | omega | (simp; done) | (simp; omega)) rfl (fun ad o cap => ?_)) | (refine Cw.k_cond ?_; first | refine Cw.cond_true rfl ?_ | refine Cw.cond_false rfl ?_ | (refine Cw.cond_dec rfl (fun hc => ?_) (fun hc => ?_) <;> try (exfalso; omega)) | refine Cw.cond_bool rfl (fun hc => ?_) (fun hc => ?_)))
    refine ⟨(k + 1, _, _, _, h, _), ⟨by simp only; omega, hrows, hLl, hgo, hlen, fun x hx => ?_⟩, by simp only; omega, (Ent.mk goSub goTk)⟩
    have := hbd x hx
    simp only
    omega

def hist1 (l : List Sales) : List Int × Int := if daysFault l ≠ 0 then ([], daysFault l) else (histGo [] l, 0)
theorem histogram1_fn (l : List Sales) : PFn Tryz.prog 16 [.sales l] (· = .tup [.ints (hist1 l).1, .int (hist1 l).2]) := by
  by_cases h0 : daysFault l ≠ 0
  · rw [show hist1 l = ([], daysFault l) by unfold hist1; rw [if_pos h0]]
    have hck := checkDays_fn l
    refine PFn.mk (Spec.body Tryz.func16 rfl rfl (Tryz.ntmps16) rfl fun w0 own0 M => ?_)
    repeat' (first | refine Ops.nil ?_ | refine Then.norm ?_ | refine Cw.seq ?_ | refine Cw.region ?_ | refine Cw.block ?_ | refine Cw.exit ?_ | refine Cw.skip ?_ | refine Cw.ret ?_ | refine Then.exit ?_ | refine Then.ret ?_ | refine InB.exit ?_ | refine InB.norm ?_ | refine InB.ret ?_ | refine InB.exit_ne rfl ?_ | (refine Ops.k_move ?_; first | refine Ops.move rfl rfl ?_ | refine Ops.move_any rfl ?_) | (refine Ops.k_assign ?_; first | refine Ops.assign rfl rfl ?_ | refine Ops.assign_any rfl ?_) | (refine Ops.k_load ?_; first | refine Ops.load_ref_one rfl rfl ?_ | refine Ops.load_ref_agg rfl rfl rfl ?_ | refine Ops.load_box_one rfl goPk rfl rfl ?_ | refine Ops.load_box_agg rfl goPk rfl rfl ?_ | refine Ops.load_own_one rfl goPk (by first | rfl | assumption | (simp [*]; done)) rfl rfl ?_ | refine Ops.load_own_agg rfl goPk (by first | rfl | assumption | (simp [*]; done)) rfl ?_ | refine Ops.load_box_part rfl goPk rfl rfl rfl ?_ | refine Ops.load_q_one rfl goPk (by first | rfl | assumption | (simp [*]; done)) rfl rfl ?_) | (refine Ops.k_store ?_; first | refine Ops.store_box rfl rfl goPk rfl rfl ?_ | refine Ops.store_own1 rfl rfl goPk (by first | rfl | assumption | (simp [*]; done)) (by decide) ?_ | refine Ops.store_own_all rfl rfl goPk (by first | assumption | omega | (simp; omega) | (simp [*]; done)) rfl ?_) | (refine Ops.k_c_len ?_; first | refine Ops.len_raw rfl rfl ?_ | refine Ops.len_sl rfl rfl ?_ | refine Ops.len_str rfl rfl rfl ?_ | refine Ops.len_q rfl rfl ?_) | (refine Ops.k_b_lss ?_; first | refine Ops.lss rfl rfl rfl ?_) | (refine Ops.k_b_neq ?_; first | refine Ops.neq rfl rfl rfl ?_) | (refine Ops.k_b_leq ?_; first | refine Ops.leq rfl rfl rfl ?_) | (refine Ops.k_b_add ?_; first | refine Ops.add rfl rfl (by first | omega | (simp; done) | (simp; omega)) rfl ?_) | (refine Ops.k_fieldAddr ?_; first | refine Ops.fieldAddr_raw rfl rfl ?_ | refine Ops.fieldAddr_ref rfl rfl ?_ | refine Ops.fieldAddr_eptr rfl rfl ?_) | (refine Ops.k_indexAddr ?_; first | refine Ops.indexAddr_sl rfl rfl (by omega) (by first | rfl | assumption | (simp [*]; done)) rfl ?_ | refine Ops.indexAddr_own rfl rfl goPk (by first | rfl | omega | (simp; done) | (simp; omega)) (by first | omega | (simp; done) | (simp; omega)) (by first | omega | (simp; done) | (simp; omega)) rfl ?_ | refine Ops.indexAddr_q rfl rfl goPk (by first | rfl | omega | (simp; done) | (simp; omega)) (by first | omega | (simp; done) | (simp; omega)) (by first | omega | (simp; done) | (simp; omega)) rfl ?_) | (refine Ops.k_alloc ?_; first | refine Ops.alloc rfl (fun b => ?_)) | (refine Ops.k_buildSlice ?_; first | (refine Ops.k_buildSlice1 ?_; refine Ops.buildSlice (by exact Parts.cons rfl rfl rfl (by exact Parts.nil)) rfl rfl rfl ?_)) | (refine Ops.k_c_append ?_; first | refine Ops.append rfl rfl goPk (by first | rfl | omega | (simp; done) | (simp; omega)) (by first | omega | (simp; done) | (simp; omega)) (by first | omega | (simp; done) | (simp; omega)) rfl (fun ad cap => ?_) | refine Ops.append_q rfl rfl goPk (by first | rfl | omega | (simp; done) | (simp; omega)) (by first | exact List.cons_ne_nil _ _ | simp) (by first | omega | (simp; done) | (simp; omega)) (by first | omega | (simp; done) | (simp; omega)) rfl (fun ad o cap => ?_)) | (refine Cw.k_cond ?_; first | refine Cw.cond_true rfl ?_ | refine Cw.cond_false rfl ?_ | (refine Cw.cond_dec rfl (fun hc => ?_) (fun hc => ?_) <;> try (exfalso; omega)) | refine Cw.cond_bool rfl (fun hc => ?_) (fun hc => ?_)) | (refine Ops.k_calla ?_; first | (refine Ops.k_callf 45 ?_; refine Ops.callV hck (Evs.cons rfl Evs.nil) rfl ?_)))
    exact Fin.ret (Ent.trans (Ent.nilsl 1 (s := 2) rfl) (Ent.take goTk)) (Outs.two rfl rfl rfl) ⟨rfl, rfl⟩
  · replace h0 : daysFault l = 0 := by omega
    rw [show hist1 l = (histGo [] l, 0) by unfold hist1; rw [if_neg (by omega)]]
    exact histogramR_fn l (daysFault_right h0) h0
end Lg
end
section
set_option linter.all false
set_option maxRecDepth 100000
set_option maxHeartbeats 8000000
namespace Lg
open Go Go.Proofs

/-! ### the best order makes at least as much as another one -/
theorem bestUp_top (h : List Int) (m w : Int) : ∀ (n k : Nat), k ≤ n → gainH h k m w ≤ gainH h (bestUp h m w n) m w
  | 0, k, hk => by
    have : k = 0 := by omega
    subst this
    rw [bestUp]
    exact Int.le_refl _
  | n + 1, k, hk => by
    rw [bestUp]
    by_cases hc : gainH h (bestUp h m w n) m w < gainH h ((n : Int) + 1) m w
    · rw [if_pos hc]
      by_cases hkn : k ≤ n
      · have := bestUp_top h m w n k hkn
        omega
      · have : k = n + 1 := by omega
        subst this
        exact Int.le_refl _
    · rw [if_neg hc]
      by_cases hkn : k ≤ n
      · exact bestUp_top h m w n k hkn
      · have : k = n + 1 := by omega
        subst this
        exact Int.not_lt.1 hc
theorem frac_partsQ (a s : Int) (hs : 1 ≤ s) : ∃ g, 1 ≤ g ∧ (frac a s).num * g = a ∧ (frac a s).den * g = s ∧ 1 ≤ (frac a s).den := by
  have hg := gcdI_pos (a := a) hs
  have d1 : gcdI a s ∣ a := by unfold gcdI; exact Int.ofNat_dvd_left.2 (Nat.gcd_dvd_left _ _)
  have d2 : gcdI a s ∣ s := by unfold gcdI; exact Int.ofNat_dvd_left.2 (Nat.gcd_dvd_right _ _)
  refine ⟨gcdI a s, hg, ?_, ?_, ?_⟩
  · exact Int.tdiv_mul_cancel d1
  · exact Int.ediv_mul_cancel d2
  · show 1 ≤ s / gcdI a s
    have h1 : s / gcdI a s * gcdI a s = s := Int.ediv_mul_cancel d2
    apply Classical.byContradiction
    intro hc
    have : s / gcdI a s * gcdI a s ≤ 0 := Int.mul_nonpos_of_nonpos_of_nonneg (by omega) (by omega)
    omega
theorem frac_cross {a b s : Int} (hs : 1 ≤ s) (hab : b ≤ a) : (frac b s).num * (frac a s).den ≤ (frac a s).num * (frac b s).den := by
  obtain ⟨g, g1, g2, g3, g4⟩ := frac_partsQ a s hs
  obtain ⟨k, k1, k2, k3, k4⟩ := frac_partsQ b s hs
  generalize (frac a s).num = A at *
  generalize (frac a s).den = D at *
  generalize (frac b s).num = B at *
  generalize (frac b s).den = E at *
  have hgk : 0 < g * k := Int.mul_pos (by omega) (by omega)
  refine Int.le_of_mul_le_mul_right ?_ hgk
  rw [show B * D * (g * k) = (B * k) * (D * g) by rw [Int.mul_assoc, Int.mul_assoc, ← Int.mul_assoc D, Int.mul_comm k, ], show A * E * (g * k) = (A * g) * (E * k) by rw [Int.mul_assoc, Int.mul_assoc, Int.mul_left_comm E]]
  rw [k2, g3, g2, k3]
  exact Int.mul_le_mul_of_nonneg_right hab (by omega)
theorem frac_num_bd {a s A : Int} (hs : 1 ≤ s) (ha : -A ≤ a ∧ a ≤ A) : -A ≤ (frac a s).num ∧ (frac a s).num ≤ A ∧ (frac a s).den ≤ s := by
  obtain ⟨g, g1, g2, g3, g4⟩ := frac_partsQ a s hs
  generalize (frac a s).num = N at *
  generalize (frac a s).den = D at *
  have hD : D * 1 ≤ D * g := Int.mul_le_mul_of_nonneg_left g1 (by omega)
  refine ⟨?_, ?_, by omega⟩
  · by_cases hn : 0 ≤ N
    · omega
    · have := Int.mul_le_mul_of_nonpos_left (a := N) (b := g) (c := 1) (by omega) (by omega)
      omega
  · by_cases hn : 0 ≤ N
    · have := Int.mul_le_mul_of_nonneg_left g1 hn
      omega
    · omega
theorem sumI_app : ∀ (a b : List Int), sumI (a ++ b) = sumI a + sumI b
  | [], b => by simp [sumI]
  | x :: a, b => by rw [List.cons_append, sumI, sumI, sumI_app a b]; omega
theorem sumI_rep : ∀ (n : Nat), sumI (List.replicate n 0) = 0
  | 0 => rfl
  | n + 1 => by rw [List.replicate_succ, sumI, sumI_rep n]; rfl
theorem sumI_set1 : ∀ (l : List Int) (s : Nat), sumI (l.set s (l.getD s 0 + 1)) ≤ sumI l + 1
  | [], s => by simp [sumI]
  | x :: l, 0 => by
    rw [List.set_cons_zero, sumI, sumI]
    simp
    omega
  | x :: l, s + 1 => by
    have := sumI_set1 l s
    rw [List.set_cons_succ, sumI, sumI]
    simp only [List.getD_cons_succ]
    omega
theorem bump_sum (h : List Int) (s : Nat) : sumI (bump h s) ≤ sumI h + 1 := by
  unfold bump
  have := sumI_set1 (h ++ List.replicate (s + 1 - h.length) 0) s
  rw [sumI_app, sumI_rep] at this
  omega
theorem histGo_sum : ∀ (l : List Sales) (h : List Int), sumI (histGo h l) ≤ sumI h + l.length
  | [], h => by simp [histGo]
  | d :: l, h => by
    rw [histGo_cons, List.length_cons]
    have h1 := histGo_sum l (if d.out = true then h else bump h d.sold.toNat)
    have h2 : sumI (if d.out = true then h else bump h d.sold.toNat) ≤ sumI h + 1 := by
      split
      · omega
      · exact bump_sum h _
    omega
end Lg
end
section
set_option linter.all false
set_option maxRecDepth 100000
set_option maxHeartbeats 4000000
namespace Lg
open Go Go.Proofs
def strLe (a b : ByteArray) : Bool := strLt a b || decide (a = b)
def prevB {α : Type} (p : α → α → Bool) (l : List α) : Nat → α → Bool
  | 0, _ => false
  | j + 1, x => match l[j]? with
    | none => false
    | some y => p x y
end Lg
end
