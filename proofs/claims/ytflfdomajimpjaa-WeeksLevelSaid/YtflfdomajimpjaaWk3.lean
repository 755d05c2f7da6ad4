/- A part of the proof of a law of this seat: it adds no condition. By an AI agent. -/
import Derived.Test.YtflfdomajimpjaaLgApp
import Derived.Test.YtflfdomajimpjaaSortI
section
set_option linter.all false
set_option maxRecDepth 100000
set_option maxHeartbeats 4000000
namespace Lg
open Go Go.Proofs

/-- the length in bits of a small number: some number -/
theorem len64_fn (n : Int) (hn : 0 ≤ n ∧ n ≤ 200) : PFn Try.prog 64 [Tr.raw (.int .u64 n)] (fun r => ∃ v : Int, r = .int v) := by
  refine PFn.mk (Spec.body Try.func64 rfl rfl (Try.ntmps64) rfl fun w0 own0 M => ?_)
  repeat' (first | refine goH ?_ | (refine Ops.k_convert ?_; first | (refine Ops.convN Try.underlying84 Try.underlying5 rfl (wrap_u8 (by omega)) rfl ?_) | (refine Ops.convN Try.underlying5 Try.underlying3 rfl (wrap_i64 (by omega)) rfl ?_)) | (refine Ops.k_index ?_; first | (refine Ops.indexS_any Try.underlying9 rfl rfl (by refine ⟨by omega, ?_⟩; show n < 256; omega) rfl (fun v hv => ?_))) | refine goV ?_ | refine goI ?_ | (refine Cw.k_cond ?_; first | (refine Cw.cond_dec rfl (fun hc => ?_) (fun hc => ?_) <;> try (exfalso; omega)) | refine Cw.cond_bool rfl (fun hc => ?_) (fun hc => ?_)) | fail)
  exact Fin.ret (Ent.take goTk) (Outs.one rfl rfl) ⟨rfl, _, rfl⟩
theorem bitsLen_fn (n : Int) (hn : 0 ≤ n ∧ n ≤ 200) : PFn Try.prog 43 [Tr.raw (.int .u64 n)] (fun r => ∃ v : Int, r = .int v) := by
  have h := len64_fn n hn
  unfold PFn at h
  refine PFn.mk (Spec.body Try.func43 rfl rfl (Try.ntmps43) rfl fun w0 own0 M => ?_)
  repeat' (first | refine goH ?_ | refine goV ?_ | refine goI ?_ | (refine Cw.k_cond ?_; first | (refine Cw.cond_dec rfl (fun hc => ?_) (fun hc => ?_) <;> try (exfalso; omega)) | refine Cw.cond_bool rfl (fun hc => ?_) (fun hc => ?_)) | (refine Ops.k_calla ?_; first | (refine Ops.call (cf := []) h (Evs.cons rfl Evs.nil) (by simp) rfl ?_; rintro r cs' ⟨rfl, v, rfl⟩)) | fail)
  exact Fin.ret (Ent.take goTk) (Outs.one rfl rfl) ⟨rfl, _, rfl⟩
end Lg
end
section
set_option linter.all false
set_option maxRecDepth 100000
set_option maxHeartbeats 1000000
namespace Lg
open Go Go.Proofs
theorem indexFunc_int {l : List Int} {p : Int → Bool} {g : Nat} {caps : List Value} {cin : List Chunk} (hl : l.length ≤ 1000000000)
    (hs : ∀ x, x ∈ l → Spec Try.prog g ([Tr.int x] ++ caps.map Tr.raw) cin (fun r cs => r = Tr.bool (p x) ∧ cs = cin)) :
    Spec Try.prog 50 [Tr.sl 1 (l.map (fun x => [Tr.int x])), Tr.raw (.func (.func g) #[] caps.toArray)] cin (fun r cs => r = Tr.int (idxFrom p l 0) ∧ cs = cin) := by
  refine Spec.body Try.func50 rfl rfl (Try.ntmps50) rfl fun w0 own0 M => ?_
  have hL : (l.map (fun x => [Tr.int x])).length = l.length := List.length_map _
  repeat' (first | refine Ops.nil ?_ | refine Then.norm ?_ | refine Cw.seq ?_ | refine Cw.region ?_ | refine Cw.block ?_ | refine Cw.exit ?_ | refine Cw.skip ?_ | refine Cw.ret ?_ | refine Then.exit ?_ | refine Then.ret ?_ | refine InB.exit ?_ | refine InB.norm ?_ | refine InB.ret ?_ | refine InB.exit_ne rfl ?_ | (refine Ops.k_move ?_; first | refine Ops.move rfl rfl ?_ | refine Ops.move_any rfl ?_) | (refine Ops.k_assign ?_; first | refine Ops.assign rfl rfl ?_ | refine Ops.assign_any rfl ?_) | (refine Ops.k_load ?_; first | refine Ops.load_ref_one rfl rfl ?_ | refine Ops.load_ref_agg rfl rfl rfl ?_ | refine Ops.load_box_one rfl goPk rfl rfl ?_ | refine Ops.load_box_agg rfl goPk rfl rfl ?_ | refine Ops.load_own_one rfl goPk (by first | rfl | assumption | (simp [*]; done)) rfl rfl ?_ | refine Ops.load_own_agg rfl goPk (by first | rfl | assumption | (simp [*]; done)) rfl ?_ | refine Ops.load_box_part rfl goPk rfl rfl rfl ?_ | refine Ops.load_q_one rfl goPk (by first | rfl | assumption | (simp [*]; done)) rfl rfl ?_) | (refine Ops.k_c_len ?_; first | refine Ops.len_raw rfl rfl ?_ | refine Ops.len_sl rfl rfl ?_ | refine Ops.len_str rfl rfl rfl ?_ | refine Ops.len_q rfl rfl ?_) | (refine Ops.k_b_lss ?_; first | refine Ops.lss rfl rfl rfl ?_) | (refine Ops.k_b_add ?_; first | refine Ops.add rfl rfl (by first | omega | (simp; done) | (simp; omega)) rfl ?_) | (refine Ops.k_indexAddr ?_; first | refine Ops.indexAddr_sl rfl rfl (by omega) (by first | rfl | assumption | (simp [*]; done)) rfl ?_ | refine Ops.indexAddr_own rfl rfl goPk (by first | rfl | omega | (simp; done) | (simp; omega)) (by first | omega | (simp; done) | (simp; omega)) (by first | omega | (simp; done) | (simp; omega)) rfl ?_ | refine Ops.indexAddr_q rfl rfl goPk (by first | rfl | omega | (simp; done) | (simp; omega)) (by first | omega | (simp; done) | (simp; omega)) (by first | omega | (simp; done) | (simp; omega)) rfl ?_) | (refine Cw.k_cond ?_; first | refine Cw.cond_true rfl ?_ | refine Cw.cond_false rfl ?_ | (refine Cw.cond_dec rfl (fun hc => ?_) (fun hc => ?_) <;> try (exfalso; omega)) | refine Cw.cond_bool rfl (fun hc => ?_) (fun hc => ?_)))
  refine Cw.loop (ι := Nat) (fun k => k ≤ l.length ∧ idxFrom p l 0 = idxFrom p (l.drop k) k) (fun k => [(0, Tr.sl 1 (l.map (fun x => [Tr.int x]))), (1, Tr.raw (.func (.func g) #[] caps.toArray)), (7, .int (l.map (fun x => [Tr.int x])).length), (8, .int k)]) (fun _ => cin) (fun k => l.length - k) ⟨0, ⟨by omega, rfl⟩, Ent.sub goSub⟩ ?_
  rintro k ⟨hk, hgo⟩
  by_cases hkl : k < l.length
  · obtain ⟨x, hx⟩ : ∃ x, l[k]? = some x := ⟨_, List.getElem?_eq_getElem hkl⟩
    have hrow : (l.map (fun x => [Tr.int x]))[k]? = some [Tr.int x] := rows_at hx
    have hdrop := idxFrom_drop p hx
    rw [hdrop] at hgo
    have hsx := hs x (List.mem_of_getElem? hx)
    by_cases hp : p x = true
    · rw [if_pos hp] at hgo
      rw [hp] at hsx
      repeat' (first | refine Ops.nil ?_ | refine Then.norm ?_ | refine Cw.seq ?_ | refine Cw.region ?_ | refine Cw.block ?_ | refine Cw.exit ?_ | refine Cw.skip ?_ | refine Cw.ret ?_ | refine Then.exit ?_ | refine Then.ret ?_ | refine InB.exit ?_ | refine InB.norm ?_ | refine InB.ret ?_ | refine InB.exit_ne rfl ?_ | (refine Ops.k_move ?_; first | refine Ops.move rfl rfl ?_ | refine Ops.move_any rfl ?_) | (refine Ops.k_assign ?_; first | refine Ops.assign rfl rfl ?_ | refine Ops.assign_any rfl ?_) | (refine Ops.k_load ?_; first | refine Ops.load_ref_one rfl rfl ?_ | refine Ops.load_ref_agg rfl rfl rfl ?_ | refine Ops.load_box_one rfl goPk rfl rfl ?_ | refine Ops.load_box_agg rfl goPk rfl rfl ?_ | refine Ops.load_own_one rfl goPk (by first | rfl | assumption | (simp [*]; done)) rfl rfl ?_ | refine Ops.load_own_agg rfl goPk (by first | rfl | assumption | (simp [*]; done)) rfl ?_ | refine Ops.load_box_part rfl goPk rfl rfl rfl ?_ | refine Ops.load_q_one rfl goPk (by first | rfl | assumption | (simp [*]; done)) rfl rfl ?_) | (refine Ops.k_c_len ?_; first | refine Ops.len_raw rfl rfl ?_ | refine Ops.len_sl rfl rfl ?_ | refine Ops.len_str rfl rfl rfl ?_ | refine Ops.len_q rfl rfl ?_) | (refine Ops.k_b_lss ?_; first | refine Ops.lss rfl rfl rfl ?_) | (refine Ops.k_b_add ?_; first | refine Ops.add rfl rfl (by first | omega | (simp; done) | (simp; omega)) rfl ?_) | (refine Ops.k_indexAddr ?_; first | refine Ops.indexAddr_sl rfl rfl (by omega) (by first | rfl | assumption | (simp [*]; done)) rfl ?_ | refine Ops.indexAddr_own rfl rfl goPk (by first | rfl | omega | (simp; done) | (simp; omega)) (by first | omega | (simp; done) | (simp; omega)) (by first | omega | (simp; done) | (simp; omega)) rfl ?_ | refine Ops.indexAddr_q rfl rfl goPk (by first | rfl | omega | (simp; done) | (simp; omega)) (by first | omega | (simp; done) | (simp; omega)) (by first | omega | (simp; done) | (simp; omega)) rfl ?_) | (refine Cw.k_cond ?_; first | refine Cw.cond_true rfl ?_ | refine Cw.cond_false rfl ?_ | (refine Cw.cond_dec rfl (fun hc => ?_) (fun hc => ?_) <;> try (exfalso; omega)) | refine Cw.cond_bool rfl (fun hc => ?_) (fun hc => ?_)) | (refine Ops.k_calla ?_; first | (refine Ops.call_fn rfl hsx (Evs.cons rfl Evs.nil) (by rw [List.append_nil]) rfl ?_; rintro r cs' ⟨rfl, hcs⟩; rw [hcs, List.append_nil])))
      exact Fin.ret Ent.refl (Outs.one rfl rfl) ⟨by rw [hgo], rfl⟩
    · rw [if_neg hp] at hgo
      rw [Bool.not_eq_true] at hp
      rw [hp] at hsx
      repeat' (first | refine Ops.nil ?_ | refine Then.norm ?_ | refine Cw.seq ?_ | refine Cw.region ?_ | refine Cw.block ?_ | refine Cw.exit ?_ | refine Cw.skip ?_ | refine Cw.ret ?_ | refine Then.exit ?_ | refine Then.ret ?_ | refine InB.exit ?_ | refine InB.norm ?_ | refine InB.ret ?_ | refine InB.exit_ne rfl ?_ | (refine Ops.k_move ?_; first | refine Ops.move rfl rfl ?_ | refine Ops.move_any rfl ?_) | (refine Ops.k_assign ?_; first | refine Ops.assign rfl rfl ?_ | refine Ops.assign_any rfl ?_) | (refine Ops.k_load ?_; first | refine Ops.load_ref_one rfl rfl ?_ | refine Ops.load_ref_agg rfl rfl rfl ?_ | refine Ops.load_box_one rfl goPk rfl rfl ?_ | refine Ops.load_box_agg rfl goPk rfl rfl ?_ | refine Ops.load_own_one rfl goPk (by first | rfl | assumption | (simp [*]; done)) rfl rfl ?_ | refine Ops.load_own_agg rfl goPk (by first | rfl | assumption | (simp [*]; done)) rfl ?_ | refine Ops.load_box_part rfl goPk rfl rfl rfl ?_ | refine Ops.load_q_one rfl goPk (by first | rfl | assumption | (simp [*]; done)) rfl rfl ?_) | (refine Ops.k_c_len ?_; first | refine Ops.len_raw rfl rfl ?_ | refine Ops.len_sl rfl rfl ?_ | refine Ops.len_str rfl rfl rfl ?_ | refine Ops.len_q rfl rfl ?_) | (refine Ops.k_b_lss ?_; first | refine Ops.lss rfl rfl rfl ?_) | (refine Ops.k_b_add ?_; first | refine Ops.add rfl rfl (by first | omega | (simp; done) | (simp; omega)) rfl ?_) | (refine Ops.k_indexAddr ?_; first | refine Ops.indexAddr_sl rfl rfl (by omega) (by first | rfl | assumption | (simp [*]; done)) rfl ?_ | refine Ops.indexAddr_own rfl rfl goPk (by first | rfl | omega | (simp; done) | (simp; omega)) (by first | omega | (simp; done) | (simp; omega)) (by first | omega | (simp; done) | (simp; omega)) rfl ?_ | refine Ops.indexAddr_q rfl rfl goPk (by first | rfl | omega | (simp; done) | (simp; omega)) (by first | omega | (simp; done) | (simp; omega)) (by first | omega | (simp; done) | (simp; omega)) rfl ?_) | (refine Cw.k_cond ?_; first | refine Cw.cond_true rfl ?_ | refine Cw.cond_false rfl ?_ | (refine Cw.cond_dec rfl (fun hc => ?_) (fun hc => ?_) <;> try (exfalso; omega)) | refine Cw.cond_bool rfl (fun hc => ?_) (fun hc => ?_)) | (refine Ops.k_calla ?_; first | (refine Ops.call_fn rfl hsx (Evs.cons rfl Evs.nil) (by rw [List.append_nil]) rfl ?_; rintro r cs' ⟨rfl, hcs⟩; rw [hcs, List.append_nil])))
      exact ⟨k + 1, ⟨by omega, hgo⟩, by omega, Ent.sub goSub⟩
  · rw [List.drop_eq_nil_of_le (by omega), idxFrom] at hgo
    repeat' (first | refine Ops.nil ?_ | refine Then.norm ?_ | refine Cw.seq ?_ | refine Cw.region ?_ | refine Cw.block ?_ | refine Cw.exit ?_ | refine Cw.skip ?_ | refine Cw.ret ?_ | refine Then.exit ?_ | refine Then.ret ?_ | refine InB.exit ?_ | refine InB.norm ?_ | refine InB.ret ?_ | refine InB.exit_ne rfl ?_ | (refine Ops.k_move ?_; first | refine Ops.move rfl rfl ?_ | refine Ops.move_any rfl ?_) | (refine Ops.k_assign ?_; first | refine Ops.assign rfl rfl ?_ | refine Ops.assign_any rfl ?_) | (refine Ops.k_load ?_; first | refine Ops.load_ref_one rfl rfl ?_ | refine Ops.load_ref_agg rfl rfl rfl ?_ | refine Ops.load_box_one rfl goPk rfl rfl ?_ | refine Ops.load_box_agg rfl goPk rfl rfl ?_ | refine Ops.load_own_one rfl goPk (by first | rfl | assumption | (simp [*]; done)) rfl rfl ?_ | refine Ops.load_own_agg rfl goPk (by first | rfl | assumption | (simp [*]; done)) rfl ?_ | refine Ops.load_box_part rfl goPk rfl rfl rfl ?_ | refine Ops.load_q_one rfl goPk (by first | rfl | assumption | (simp [*]; done)) rfl rfl ?_) | (refine Ops.k_c_len ?_; first | refine Ops.len_raw rfl rfl ?_ | refine Ops.len_sl rfl rfl ?_ | refine Ops.len_str rfl rfl rfl ?_ | refine Ops.len_q rfl rfl ?_) | (refine Ops.k_b_lss ?_; first | refine Ops.lss rfl rfl rfl ?_) | (refine Ops.k_b_add ?_; first | refine Ops.add rfl rfl (by first | omega | (simp; done) | (simp; omega)) rfl ?_) | (refine Ops.k_indexAddr ?_; first | refine Ops.indexAddr_sl rfl rfl (by omega) (by first | rfl | assumption | (simp [*]; done)) rfl ?_ | refine Ops.indexAddr_own rfl rfl goPk (by first | rfl | omega | (simp; done) | (simp; omega)) (by first | omega | (simp; done) | (simp; omega)) (by first | omega | (simp; done) | (simp; omega)) rfl ?_ | refine Ops.indexAddr_q rfl rfl goPk (by first | rfl | omega | (simp; done) | (simp; omega)) (by first | omega | (simp; done) | (simp; omega)) (by first | omega | (simp; done) | (simp; omega)) rfl ?_) | (refine Cw.k_cond ?_; first | refine Cw.cond_true rfl ?_ | refine Cw.cond_false rfl ?_ | (refine Cw.cond_dec rfl (fun hc => ?_) (fun hc => ?_) <;> try (exfalso; omega)) | refine Cw.cond_bool rfl (fun hc => ?_) (fun hc => ?_)))
    exact Fin.ret Ent.refl (Outs.one rfl rfl) ⟨by rw [hgo], rfl⟩

theorem containsFunc_int {l : List Int} {p : Int → Bool} {g : Nat} {caps : List Value} {cin : List Chunk} (hl : l.length ≤ 1000000000)
    (hs : ∀ x, x ∈ l → Spec Try.prog g ([Tr.int x] ++ caps.map Tr.raw) cin (fun r cs => r = Tr.bool (p x) ∧ cs = cin)) :
    Spec Try.prog 27 [Tr.sl 1 (l.map (fun x => [Tr.int x])), Tr.raw (.func (.func g) #[] caps.toArray)] cin (fun r cs => r = Tr.bool (l.any p) ∧ cs = cin) := by
  refine Spec.body Try.func27 rfl rfl (Try.ntmps27) rfl fun w0 own0 M => ?_
  repeat' (first | refine Ops.nil ?_ | refine Then.norm ?_ | refine Cw.seq ?_ | refine Cw.region ?_ | refine Cw.block ?_ | refine Cw.exit ?_ | refine Cw.skip ?_ | refine Cw.ret ?_ | refine Then.exit ?_ | refine Then.ret ?_ | refine InB.exit ?_ | refine InB.norm ?_ | refine InB.ret ?_ | refine InB.exit_ne rfl ?_ | (refine Ops.k_move ?_; first | refine Ops.move rfl rfl ?_ | refine Ops.move_any rfl ?_) | (refine Ops.k_assign ?_; first | refine Ops.assign rfl rfl ?_ | refine Ops.assign_any rfl ?_) | (refine Ops.k_b_geq ?_; first | refine Ops.geq rfl rfl rfl ?_) | (refine Cw.k_cond ?_; first | refine Cw.cond_true rfl ?_ | refine Cw.cond_false rfl ?_ | (refine Cw.cond_dec rfl (fun hc => ?_) (fun hc => ?_) <;> try (exfalso; omega)) | refine Cw.cond_bool rfl (fun hc => ?_) (fun hc => ?_)) | (refine Ops.k_calla ?_; first | (refine Ops.k_callf 50 ?_; (refine Ops.call (indexFunc_int hl hs) (Evs.cons rfl (Evs.cons rfl Evs.nil)) (by rw [List.append_nil]) rfl ?_; rintro r cs' ⟨rfl, hcs⟩; rw [hcs, List.append_nil]))))
  refine Fin.ret Ent.refl (Outs.one rfl rfl) ⟨congrArg Tr.bool ?_, rfl⟩
  have := idxFrom_ge p l 0 (Int.le_refl _)
  by_cases h : 0 ≤ idxFrom p l 0
  · simp [h, this.1 h]
  · have h2 : l.any p = false := by rw [← Bool.not_eq_true]; exact fun e => h (this.2 e)
    simp [h, h2]

end Lg
end
section
set_option linter.all false
set_option maxRecDepth 100000
set_option maxHeartbeats 8000000
namespace Lg
open Go Go.Proofs

/-- a copy of its own -/
theorem clone_int (rows : List (List Tr)) (hk : ∀ r ∈ rows, r.length = 1) (hl : rows.length ≤ 1000000) : PFnO Try.prog 39 [.sl 1 rows] 1 3 (· = rows) := by
  unfold PFnO
  refine Spec.body Try.func39 rfl rfl (Try.ntmps39) rfl fun w0 own0 M => ?_
  repeat' (first | refine goH ?_ | ((fail_if_success refine Ops.k_b_eql ?_); (fail_if_success refine Ops.k_buildSlice ?_); refine goV ?_) | ((fail_if_success refine Ops.k_b_eql ?_); (fail_if_success refine Ops.k_buildSlice ?_); refine goC (fun ad cap => ?_)) | refine goI ?_ | (refine Cw.k_cond ?_; first | (refine Cw.cond_dec rfl (fun hc => ?_) (fun hc => ?_) <;> try (exfalso; omega)) | refine Cw.cond_bool rfl (fun hc => ?_) (fun hc => ?_)) | fail)
  refine Ops.eql_nilS rfl rfl (fun b hb => ?_)
  cases b
  · repeat' (first | refine goH ?_ | ((fail_if_success refine Ops.k_buildSlice ?_); refine goV ?_) | ((fail_if_success refine Ops.k_buildSlice ?_); refine goC (fun ad cap => ?_)) | refine goI ?_ | (refine Cw.k_cond ?_; first | (refine Cw.cond_dec rfl (fun hc => ?_) (fun hc => ?_) <;> try (exfalso; omega)) | refine Cw.cond_bool rfl (fun hc => ?_) (fun hc => ?_)) | fail)
    refine Ops.buildSlice_own (by exact Parts.nil) rfl rfl rfl (fun ad cap => ?_)
    repeat' (first | refine goH ?_ | refine goV ?_ | refine goC (fun ad cap => ?_) | refine goI ?_ | (refine Cw.k_cond ?_; first | (refine Cw.cond_dec rfl (fun hc => ?_) (fun hc => ?_) <;> try (exfalso; omega)) | refine Cw.cond_bool rfl (fun hc => ?_) (fun hc => ?_)) | fail)
    exact Fin.ret (Ent.take goTk) (Outs.one rfl rfl) ⟨_, _, _, rfl, rfl, rfl⟩
  · have hr := hb rfl
    subst hr
    repeat' (first | refine goH ?_ | refine goV ?_ | refine goC (fun ad cap => ?_) | refine goI ?_ | (refine Cw.k_cond ?_; first | (refine Cw.cond_dec rfl (fun hc => ?_) (fun hc => ?_) <;> try (exfalso; omega)) | refine Cw.cond_bool rfl (fun hc => ?_) (fun hc => ?_)) | fail)
    exact Fin.ret (Ent.trans (Ent.nil 1 3) (Ent.take goTk)) (Outs.one rfl rfl) ⟨none, 0, [], rfl, rfl, rfl⟩

theorem intRows_k (l : List Int) : ∀ r ∈ intRows l, r.length = 1 := by
  intro r hr
  obtain ⟨x, _, rfl⟩ := List.mem_map.1 hr
  rfl
theorem intRows_nil : intRows [] = [] := rfl
theorem intRows_snoc (l : List Int) (x : Int) : intRows l ++ [[Tr.int x]] = intRows (l ++ [x]) := by rw [intRows_app]; rfl
theorem int_set (l : List Int) (i : Nat) (v : Int) : (intRows l).set i [Tr.int v] = intRows (l.set i v) := by
  unfold intRows
  rw [List.map_set]
theorem intRows_rep (n : Nat) : List.replicate n [Tr.int 0] = intRows (List.replicate n 0) := by
  unfold intRows
  rw [List.map_replicate]
/-! ### weeks -/
abbrev Tr.week (J : List Int) (D : Int) : Tr := .agg [.ints J, .int D]
def jobB (x : Int) : Bool := decide (x < 0 ∨ 10000 < x)
def wdB (D x : Int) : Bool := decide (x < 0 ∨ D - 1 < x)
def weekE (J : List Int) (D : Int) : Int := if D < 1 ∨ 7 < D then 1 else if J.length > 60 then 2 else if J.any jobB = true then 1 else 0
def lodE (J : List Int) (D : Int) (ds : List Int) : Int := if ds.length ≠ J.length then 3 else if ds.any (wdB D) = true then 1 else 0
def dayE (J : List Int) (D : Int) (ds : List Int) : Int := if weekE J D ≠ 0 then weekE J D else lodE J D ds
theorem weekE_ok {J : List Int} {D : Int} (h : weekE J D = 0) : (1 ≤ D ∧ D ≤ 7) ∧ ∀ x ∈ J, 0 ≤ x ∧ x ≤ 10000 := by
  unfold weekE at h
  by_cases h1 : D < 1 ∨ 7 < D
  · rw [if_pos h1] at h; omega
  rw [if_neg h1] at h
  by_cases h2 : J.length > 60
  · rw [if_pos h2] at h; omega
  rw [if_neg h2] at h
  cases h3 : J.any jobB
  · refine ⟨by omega, fun x hx => ?_⟩
    have := List.any_eq_false.1 h3 x hx
    simp [jobB] at this
    omega
  · rw [h3, if_pos rfl] at h; omega
theorem lodE_ok {J ds : List Int} {D : Int} (h : lodE J D ds = 0) : ds.length = J.length ∧ ∀ x ∈ ds, 0 ≤ x ∧ x < D := by
  unfold lodE at h
  by_cases h1 : ds.length ≠ J.length
  · rw [if_pos h1] at h; omega
  rw [if_neg h1] at h
  cases h3 : ds.any (wdB D)
  · refine ⟨by omega, fun x hx => ?_⟩
    have := List.any_eq_false.1 h3 x hx
    simp [wdB] at this
    omega
  · rw [h3, if_pos rfl] at h; omega
theorem jobD_fn (x : Int) : PFn Try.prog 30 [.int x] (· = .bool (jobB x)) := by
  refine PFn.mk (Spec.body Try.func30 rfl rfl (Try.ntmps30) rfl fun w0 own0 M => ?_)
  repeat' (first | refine goH ?_ | refine goV ?_ | refine goI ?_ | (refine Cw.k_cond ?_; first | (refine Cw.cond_dec rfl (fun hc => ?_) (fun hc => ?_) <;> try (exfalso; omega)) | refine Cw.cond_bool rfl (fun hc => ?_) (fun hc => ?_)) | (refine Ops.k_calla ?_; first | (refine Ops.k_callf 29 ?_; refine Ops.callV (out_fn _ _ _) (Evs.cons rfl (Evs.cons rfl (Evs.cons rfl Evs.nil))) rfl ?_)) | fail)
  exact Fin.ret (Ent.take goTk) (Outs.one rfl rfl) ⟨rfl, rfl⟩
theorem jobR_fn (x : Int) : PFn Try.prog 28 [.int x] (· = .bool (jobB x)) := by
  refine PFn.mk (Spec.body Try.func28 rfl rfl (Try.ntmps28) rfl fun w0 own0 M => ?_)
  repeat' (first | refine goH ?_ | refine goV ?_ | refine goG ?_ | (refine Ops.k_guard ?_; first | (refine Ops.guard_dec rfl rfl (fun hc => ?_) (fun hc => ?_) <;> try (exfalso; omega)) | refine Ops.guard_split rfl rfl (fun hc => ?_) (fun hc => ?_)) | refine goI ?_ | (refine Cw.k_cond ?_; first | (refine Cw.cond_dec rfl (fun hc => ?_) (fun hc => ?_) <;> try (exfalso; omega)) | refine Cw.cond_bool rfl (fun hc => ?_) (fun hc => ?_)) | fail)
  all_goals
    refine Fin.ret (Ent.take goTk) (Outs.one rfl rfl) ⟨rfl, congrArg Tr.bool ?_⟩
    unfold jobB
    rw [Bool.eq_iff_iff]
    simp
    try omega
theorem checkPlan_fn (J : List Int) (D : Int) (hl : J.length ≤ 1000) : PFn Try.prog 8 [.week J D] (· = .int (weekE J D)) := by
  have hL := intRows_len J
  have k3 : Spec Try.prog 27 [.ints J, Tr.raw (.func (.func 30) #[] #[])] [] (fun x cs => x = .bool (J.any jobB) ∧ cs = []) := containsFunc_int (p := jobB) (caps := []) (cin := []) (l := J) (by omega) (fun x _ => (jobD_fn x).lend)
  unfold weekE
  refine PFn.mk (Spec.body Try.func8 rfl rfl (Try.ntmps8) rfl fun w0 own0 M => ?_)
  by_cases h1 : D < 1 ∨ 7 < D
  · rw [if_pos h1]
    repeat' (first | refine goH ?_ | refine goV ?_ | refine goB (fun b => ?_) | refine goI ?_ | (refine Cw.k_cond ?_; first | (refine Cw.cond_dec rfl (fun hc => ?_) (fun hc => ?_) <;> try (exfalso; omega)) | refine Cw.cond_bool rfl (fun hc => ?_) (fun hc => ?_)) | (refine Ops.k_calla ?_; first | (refine Ops.k_callf 29 ?_; refine Ops.callV (out_t D 1 7 h1) (Evs.cons rfl (Evs.cons rfl (Evs.cons rfl Evs.nil))) rfl ?_)) | fail)
    all_goals exact Fin.ret (Ent.take goTk) (Outs.one rfl rfl) ⟨rfl, rfl⟩
  rw [if_neg h1]
  by_cases h2 : J.length > 60
  · rw [if_pos h2]
    repeat' (first | refine goH ?_ | refine goV ?_ | refine goB (fun b => ?_) | refine goI ?_ | (refine Cw.k_cond ?_; first | (refine Cw.cond_dec rfl (fun hc => ?_) (fun hc => ?_) <;> try (exfalso; omega)) | refine Cw.cond_bool rfl (fun hc => ?_) (fun hc => ?_)) | (refine Ops.k_calla ?_; first | (refine Ops.k_callf 29 ?_; refine Ops.callV (out_f D 1 7 (by omega)) (Evs.cons rfl (Evs.cons rfl (Evs.cons rfl Evs.nil))) rfl ?_)) | fail)
    all_goals exact Fin.ret (Ent.take goTk) (Outs.one rfl rfl) ⟨rfl, rfl⟩
  rw [if_neg h2]
  cases h4 : J.any jobB
  all_goals
    rw [h4] at k3
    repeat' (first | refine goH ?_ | refine goV ?_ | refine goB (fun b => ?_) | refine goI ?_ | (refine Cw.k_cond ?_; first | (refine Cw.cond_dec rfl (fun hc => ?_) (fun hc => ?_) <;> try (exfalso; omega)) | refine Cw.cond_bool rfl (fun hc => ?_) (fun hc => ?_)) | (refine Ops.k_calla ?_; first | (refine Ops.k_callf 29 ?_; refine Ops.callV (out_f D 1 7 (by omega)) (Evs.cons rfl (Evs.cons rfl (Evs.cons rfl Evs.nil))) rfl ?_) | (refine Ops.k_callf 27 ?_; refine Ops.callS k3 (Evs.cons rfl (Evs.cons rfl Evs.nil)) (List.Perm.refl _) rfl ?_)) | fail)
    all_goals exact Fin.ret (Ent.take goTk) (Outs.one rfl rfl) ⟨rfl, rfl⟩
theorem weekFault_fn (J : List Int) (D : Int) (hl : J.length ≤ 1000) : PFn Try.prog 7 [.week J D] (· = .int (weekE J D)) := by
  have hL := intRows_len J
  have k3 : Spec Try.prog 27 [.ints J, Tr.raw (.func (.func 28) #[] #[])] [] (fun x cs => x = .bool (J.any jobB) ∧ cs = []) := containsFunc_int (p := jobB) (caps := []) (cin := []) (l := J) (by omega) (fun x _ => (jobR_fn x).lend)
  unfold weekE
  refine PFn.mk (Spec.body Try.func7 rfl rfl (Try.ntmps7) rfl fun w0 own0 M => ?_)
  by_cases h1 : D < 1 ∨ 7 < D
  · rw [if_pos h1]
    repeat' (first | refine goH ?_ | refine goV ?_ | refine goB (fun b => ?_) | refine goG ?_ | (refine Ops.k_guard ?_; first | (refine Ops.guard_dec rfl rfl (fun hc => ?_) (fun hc => ?_) <;> try (exfalso; omega)) | refine Ops.guard_split rfl rfl (fun hc => ?_) (fun hc => ?_)) | refine goI ?_ | (refine Cw.k_cond ?_; first | (refine Cw.cond_dec rfl (fun hc => ?_) (fun hc => ?_) <;> try (exfalso; omega)) | refine Cw.cond_bool rfl (fun hc => ?_) (fun hc => ?_)) | (refine Ops.k_calla ?_; first | (refine Ops.k_callf 29 ?_; refine Ops.callV (out_t D 1 7 h1) (Evs.cons rfl (Evs.cons rfl (Evs.cons rfl Evs.nil))) rfl ?_)) | fail)
    all_goals exact Fin.ret (Ent.take goTk) (Outs.one rfl rfl) ⟨rfl, rfl⟩
  rw [if_neg h1]
  by_cases h2 : J.length > 60
  · rw [if_pos h2]
    repeat' (first | refine goH ?_ | refine goV ?_ | refine goB (fun b => ?_) | refine goG ?_ | (refine Ops.k_guard ?_; first | (refine Ops.guard_dec rfl rfl (fun hc => ?_) (fun hc => ?_) <;> try (exfalso; omega)) | refine Ops.guard_split rfl rfl (fun hc => ?_) (fun hc => ?_)) | refine goI ?_ | (refine Cw.k_cond ?_; first | (refine Cw.cond_dec rfl (fun hc => ?_) (fun hc => ?_) <;> try (exfalso; omega)) | refine Cw.cond_bool rfl (fun hc => ?_) (fun hc => ?_)) | (refine Ops.k_calla ?_; first | (refine Ops.k_callf 29 ?_; refine Ops.callV (out_f D 1 7 (by omega)) (Evs.cons rfl (Evs.cons rfl (Evs.cons rfl Evs.nil))) rfl ?_)) | fail)
    all_goals exact Fin.ret (Ent.take goTk) (Outs.one rfl rfl) ⟨rfl, rfl⟩
  rw [if_neg h2]
  cases h4 : J.any jobB
  all_goals
    rw [h4] at k3
    repeat' (first | refine goH ?_ | refine goV ?_ | refine goB (fun b => ?_) | refine goG ?_ | (refine Ops.k_guard ?_; first | (refine Ops.guard_dec rfl rfl (fun hc => ?_) (fun hc => ?_) <;> try (exfalso; omega)) | refine Ops.guard_split rfl rfl (fun hc => ?_) (fun hc => ?_)) | refine goI ?_ | (refine Cw.k_cond ?_; first | (refine Cw.cond_dec rfl (fun hc => ?_) (fun hc => ?_) <;> try (exfalso; omega)) | refine Cw.cond_bool rfl (fun hc => ?_) (fun hc => ?_)) | (refine Ops.k_calla ?_; first | (refine Ops.k_callf 29 ?_; refine Ops.callV (out_f D 1 7 (by omega)) (Evs.cons rfl (Evs.cons rfl (Evs.cons rfl Evs.nil))) rfl ?_) | (refine Ops.k_callf 27 ?_; refine Ops.callS k3 (Evs.cons rfl (Evs.cons rfl Evs.nil)) (List.Perm.refl _) rfl ?_)) | fail)
    all_goals exact Fin.ret (Ent.take goTk) (Outs.one rfl rfl) ⟨rfl, rfl⟩
theorem dayD_fn (J : List Int) (D : Int) (b : Nat) (x : Int) (hD : -1000000 ≤ D ∧ D ≤ 1000000) : Spec Try.prog 51 ([.int x] ++ [Value.pointer (some ⟨b, 0, none⟩)].map Tr.raw) [Chunk.box b 27 [.ints J, .int D]] (fun r cs => r = .bool (wdB D x) ∧ cs = [Chunk.box b 27 [.ints J, .int D]]) := by
  refine Spec.body Try.func51 rfl rfl (Try.ntmps51) rfl fun w0 own0 M => ?_
  repeat' (first | refine goH ?_ | refine goV ?_ | refine goI ?_ | (refine Cw.k_cond ?_; first | (refine Cw.cond_dec rfl (fun hc => ?_) (fun hc => ?_) <;> try (exfalso; omega)) | refine Cw.cond_bool rfl (fun hc => ?_) (fun hc => ?_)) | (refine Ops.k_calla ?_; first | (refine Ops.k_callf 29 ?_; refine Ops.callV (out_fn _ _ _) (Evs.cons rfl (Evs.cons rfl (Evs.cons rfl Evs.nil))) rfl ?_)) | fail)
  exact Fin.ret (Ent.take goTk) (Outs.one rfl rfl) ⟨rfl, rfl⟩
theorem dayR_fn (J : List Int) (D : Int) (b : Nat) (x : Int) (hD : -1000000 ≤ D ∧ D ≤ 1000000) : Spec Try.prog 48 ([.int x] ++ [Value.pointer (some ⟨b, 0, none⟩)].map Tr.raw) [Chunk.box b 27 [.ints J, .int D]] (fun r cs => r = .bool (wdB D x) ∧ cs = [Chunk.box b 27 [.ints J, .int D]]) := by
  refine Spec.body Try.func48 rfl rfl (Try.ntmps48) rfl fun w0 own0 M => ?_
  repeat' (first | refine goH ?_ | refine goV ?_ | refine goG ?_ | (refine Ops.k_guard ?_; first | (refine Ops.guard_dec rfl rfl (fun hc => ?_) (fun hc => ?_) <;> try (exfalso; omega)) | refine Ops.guard_split rfl rfl (fun hc => ?_) (fun hc => ?_)) | refine goI ?_ | (refine Cw.k_cond ?_; first | (refine Cw.cond_dec rfl (fun hc => ?_) (fun hc => ?_) <;> try (exfalso; omega)) | refine Cw.cond_bool rfl (fun hc => ?_) (fun hc => ?_)) | fail)
  all_goals
    refine Fin.ret (Ent.take goTk) (Outs.one rfl rfl) ⟨congrArg Tr.bool ?_, rfl⟩
    unfold wdB
    rw [Bool.eq_iff_iff]
    simp
    try omega
theorem daysFault_fn (J : List Int) (D : Int) (ds : List Int) (hl : J.length ≤ 1000) (hl2 : ds.length ≤ 1000) (hD : -1000000 ≤ D ∧ D ≤ 1000000) : PFn Try.prog 31 [.week J D, .ints ds] (· = .int (dayE J D ds)) := by
  have k1 := checkPlan_fn J D hl
  have hL := intRows_len J
  have hL2 := intRows_len ds
  have k3 : ∀ b : Nat, Spec Try.prog 27 [.ints ds, Tr.raw (.func (.func 51) #[] [Value.pointer (some ⟨b, 0, none⟩)].toArray)] [Chunk.box b 27 [.ints J, .int D]] (fun x cs => x = .bool (ds.any (wdB D)) ∧ cs = [Chunk.box b 27 [.ints J, .int D]]) := fun b => containsFunc_int (p := wdB D) (caps := [.pointer (some ⟨b, 0, none⟩)]) (cin := [Chunk.box b 27 [.ints J, .int D]]) (l := ds) (by omega) (fun x _ => dayD_fn J D b x hD)
  unfold dayE lodE
  refine PFn.mk (Spec.body Try.func31 rfl rfl (Try.ntmps31) rfl fun w0 own0 M => ?_)
  by_cases h1 : weekE J D ≠ 0
  · rw [if_pos h1]
    generalize weekE J D = e at *
    repeat' (first | refine goH ?_ | refine goV ?_ | refine goB (fun b => ?_) | refine goI ?_ | (refine Cw.k_cond ?_; first | (refine Cw.cond_dec rfl (fun hc => ?_) (fun hc => ?_) <;> try (exfalso; omega)) | refine Cw.cond_bool rfl (fun hc => ?_) (fun hc => ?_)) | (refine Ops.k_calla ?_; first | (refine Ops.k_callf 8 ?_; refine Ops.callV k1 (Evs.cons rfl Evs.nil) rfl ?_)) | fail)
    exact Fin.ret (Ent.take goTk) (Outs.one rfl rfl) ⟨rfl, rfl⟩
  rw [if_neg h1]
  have h0 : weekE J D = 0 := by omega
  rw [h0] at k1
  clear h0 h1
  by_cases h2 : ds.length ≠ J.length
  · rw [if_pos h2]
    repeat' (first | refine goH ?_ | refine goV ?_ | refine goB (fun b => ?_) | refine goI ?_ | (refine Cw.k_cond ?_; first | (refine Cw.cond_dec rfl (fun hc => ?_) (fun hc => ?_) <;> try (exfalso; omega)) | refine Cw.cond_bool rfl (fun hc => ?_) (fun hc => ?_)) | (refine Ops.k_calla ?_; first | (refine Ops.k_callf 8 ?_; refine Ops.callV k1 (Evs.cons rfl Evs.nil) rfl ?_)) | fail)
    exact Fin.ret (Ent.take goTk) (Outs.one rfl rfl) ⟨rfl, rfl⟩
  rw [if_neg h2]
  cases h4 : ds.any (wdB D)
  all_goals
    rw [h4] at k3
    repeat' (first | refine goH ?_ | refine goV ?_ | refine goB (fun b => ?_) | refine goI ?_ | (refine Cw.k_cond ?_; first | (refine Cw.cond_dec rfl (fun hc => ?_) (fun hc => ?_) <;> try (exfalso; omega)) | refine Cw.cond_bool rfl (fun hc => ?_) (fun hc => ?_)) | (refine Ops.k_calla ?_; first | (refine Ops.k_callf 8 ?_; refine Ops.callV k1 (Evs.cons rfl Evs.nil) rfl ?_) | (refine Ops.k_callf 27 ?_; (refine Ops.call (k3 _) (Evs.cons rfl (Evs.cons rfl Evs.nil)) goPm rfl ?_; rintro x cs' ⟨rfl, rfl⟩))) | fail)
    exact Fin.ret (Ent.take goTk) (Outs.one rfl rfl) ⟨rfl, rfl⟩
theorem loadsFault_fn (J : List Int) (D : Int) (ds : List Int) (hl : J.length ≤ 1000) (hl2 : ds.length ≤ 1000) (hD : -1000000 ≤ D ∧ D ≤ 1000000) : PFn Try.prog 23 [.week J D, .ints ds] (· = .int (lodE J D ds)) := by
  have hL := intRows_len J
  have hL2 := intRows_len ds
  have k3 : ∀ b : Nat, Spec Try.prog 27 [.ints ds, Tr.raw (.func (.func 48) #[] [Value.pointer (some ⟨b, 0, none⟩)].toArray)] [Chunk.box b 27 [.ints J, .int D]] (fun x cs => x = .bool (ds.any (wdB D)) ∧ cs = [Chunk.box b 27 [.ints J, .int D]]) := fun b => containsFunc_int (p := wdB D) (caps := [.pointer (some ⟨b, 0, none⟩)]) (cin := [Chunk.box b 27 [.ints J, .int D]]) (l := ds) (by omega) (fun x _ => dayR_fn J D b x hD)
  unfold lodE
  refine PFn.mk (Spec.body Try.func23 rfl rfl (Try.ntmps23) rfl fun w0 own0 M => ?_)
  by_cases h2 : ds.length ≠ J.length
  · rw [if_pos h2]
    repeat' (first | refine goH ?_ | refine goV ?_ | refine goB (fun b => ?_) | refine goI ?_ | (refine Cw.k_cond ?_; first | (refine Cw.cond_dec rfl (fun hc => ?_) (fun hc => ?_) <;> try (exfalso; omega)) | refine Cw.cond_bool rfl (fun hc => ?_) (fun hc => ?_)) | fail)
    exact Fin.ret (Ent.take goTk) (Outs.one rfl rfl) ⟨rfl, rfl⟩
  rw [if_neg h2]
  cases h4 : ds.any (wdB D)
  all_goals
    rw [h4] at k3
    repeat' (first | refine goH ?_ | refine goV ?_ | refine goB (fun b => ?_) | refine goI ?_ | (refine Cw.k_cond ?_; first | (refine Cw.cond_dec rfl (fun hc => ?_) (fun hc => ?_) <;> try (exfalso; omega)) | refine Cw.cond_bool rfl (fun hc => ?_) (fun hc => ?_)) | (refine Ops.k_calla ?_; first | (refine Ops.k_callf 27 ?_; (refine Ops.call (k3 _) (Evs.cons rfl (Evs.cons rfl Evs.nil)) goPm rfl ?_; rintro x cs' ⟨rfl, rfl⟩))) | fail)
    exact Fin.ret (Ent.take goTk) (Outs.one rfl rfl) ⟨rfl, rfl⟩
/-! the minutes of each day -/
def bump (L : List Int) (d x : Int) : List Int := L.set d.toNat (L.getD d.toNat 0 + x)
def ldsF (L : List Int) : List Int → List Int → List Int
  | d :: ds, x :: xs => ldsF (bump L d x) ds xs
  | [], _ => L
  | _ :: _, [] => L
def ldsOf (J : List Int) (D : Int) (ds : List Int) : List Int := ldsF (List.replicate D.toNat 0) ds J
theorem bump_len (L : List Int) (d x : Int) : (bump L d x).length = L.length := by unfold bump; rw [List.length_set]
theorem ldsF_len : ∀ (ds J L : List Int), (ldsF L ds J).length = L.length
  | [], J, L => by rw [ldsF]
  | d :: ds, [], L => by rw [ldsF]
  | d :: ds, x :: J, L => by rw [ldsF, ldsF_len ds J, bump_len]
theorem ldsF_drop {ds J L : List Int} {k : Nat} {d x : Int} (h : ds[k]? = some d) (h2 : J[k]? = some x) : ldsF L (ds.drop k) (J.drop k) = ldsF (bump L d x) (ds.drop (k + 1)) (J.drop (k + 1)) := by rw [drop_at h, drop_at h2, ldsF]
theorem ldsF_end {ds J L : List Int} {k : Nat} (h : ds.length ≤ k) : ldsF L (ds.drop k) (J.drop k) = L := by rw [List.drop_of_length_le h, ldsF]
theorem bump_bd {L : List Int} {d x m : Int} (hL : ∀ y ∈ L, 0 ≤ y ∧ y ≤ m) (hx : 0 ≤ x ∧ x ≤ 10000) (hm : 0 ≤ m) : ∀ y ∈ bump L d x, 0 ≤ y ∧ y ≤ m + 10000 := by
  intro y hy
  unfold bump at hy
  rcases List.mem_or_eq_of_mem_set hy with h | h
  · have := hL y h; omega
  · rw [h, List.getD_eq_getElem?_getD]
    cases hg : L[d.toNat]? with
    | none => simp; omega
    | some v => have := hL v (List.mem_of_getElem? hg); simp; omega
theorem bump_at {L : List Int} {d x v : Int} (h : L[d.toNat]? = some v) : bump L d x = L.set d.toNat (v + x) := by
  unfold bump
  rw [List.getD_eq_getElem?_getD, h]
  rfl
attribute [local irreducible] intRows bump
theorem loadsP_fn (J : List Int) (D : Int) (ds : List Int) (hl : J.length ≤ 60) (hw : weekE J D = 0) (hd : ds.length = J.length ∧ ∀ x ∈ ds, 0 ≤ x ∧ x < D) : PFnO Try.prog 32 [.week J D, .ints ds] 1 3 (· = intRows (ldsOf J D ds)) := by
  obtain ⟨hD, hJ⟩ := weekE_ok hw
  obtain ⟨hd1, hd2⟩ := hd
  have hL := intRows_len J
  have hL2 := intRows_len ds
  obtain ⟨n, hn⟩ : ∃ n : Nat, D.toNat = n := ⟨_, rfl⟩
  have hDn : D = n := by omega
  unfold ldsOf
  rw [hn]
  subst hDn
  unfold PFnO
  refine Spec.body Try.func32 rfl rfl (Try.ntmps32) rfl fun w0 own0 M => ?_
  repeat' (first | refine goH ?_ | refine goV ?_ | refine goB (fun b => ?_) | refine goC (fun ad cap => ?_) | refine goI ?_ | (refine Cw.k_cond ?_; first | (refine Cw.cond_dec rfl (fun hc => ?_) (fun hc => ?_) <;> try (exfalso; omega)) | refine Cw.cond_bool rfl (fun hc => ?_) (fun hc => ?_)) | refine goR ?_ | refine goP ?_ | apply PSeq.cons | apply PSeq.yes rfl rfl rfl | exact goW | fail)
  rw [show List.map Tr.raw [Value.int .i64 0] = [Tr.int 0] from rfl, Int.toNat_natCast, intRows_rep]
  refine Cw.loopI [(2, _), (5, _), (11, _), (12, _)] _ (fun q e cc => ∃ (k : Nat) (acc : List Int), q = ds.length - k ∧ (k ≤ ds.length ∧ acc.length = n ∧ ldsF (List.replicate n 0) ds J = ldsF acc (ds.drop k) (J.drop k) ∧ ∀ x ∈ acc, 0 ≤ x ∧ x ≤ (k : Int) * 10000) ∧ e = [(13, .int k)] ∧ cc = [Chunk.own ad cap 1 3 (intRows acc)])
    ⟨_, _, _, (Ent.mkP goSub goPm), 0, List.replicate n 0, rfl, ⟨by omega, List.length_replicate, rfl, by intro x hx; rw [List.eq_of_mem_replicate hx]; omega⟩, rfl, rfl⟩ ?_
  rintro _ _ _ ⟨k, acc, rfl, ⟨hk, hal, hV, hab⟩, rfl, rfl⟩
  by_cases hkl : k < ds.length
  rotate_left
  · rw [ldsF_end (by omega)] at hV
    rw [hV]
    have hrl := (intRows_len acc).trans hal
    clear hV
    subst hrl
    repeat' (first | refine goH ?_ | refine goV ?_ | refine goB (fun b => ?_) | refine goC (fun ad cap => ?_) | refine goI ?_ | (refine Cw.k_cond ?_; first | (refine Cw.cond_dec rfl (fun hc => ?_) (fun hc => ?_) <;> try (exfalso; omega)) | refine Cw.cond_bool rfl (fun hc => ?_) (fun hc => ?_)) | refine goR ?_ | refine goP ?_ | apply PSeq.cons | apply PSeq.yes rfl rfl rfl | exact goW | fail)
    exact Fin.ret (Ent.take (Take.cons goPk Take.nil)) (Outs.one rfl rfl) ⟨_, _, _, rfl, rfl, rfl⟩
  obtain ⟨d, hd⟩ := at_lt hkl
  obtain ⟨x, hx⟩ := at_lt (l := J) (k := k) (by omega)
  have r1 := intRows_at hd
  have r2 := intRows_at hx
  have hdb := hd2 d (List.mem_of_getElem? hd)
  have hxb := hJ x (List.mem_of_getElem? hx)
  rw [ldsF_drop hd hx] at hV
  obtain ⟨v, hv⟩ := at_lt (l := acc) (k := d.toNat) (by omega)
  have hvb := hab v (List.mem_of_getElem? hv)
  have r3 := intRows_at hv
  have hset := bump_at (x := x) hv
  have hab2 := bump_bd (d := d) (x := x) hab hxb (by omega)
  have hl2 := bump_len acc d x
  rw [hal] at hl2
  have hal2 := intRows_len acc
  rw [hal] at hal2
  clear hd hx hv
  repeat' (first | refine goH ?_ | refine goV ?_ | refine goB (fun b => ?_) | refine goC (fun ad cap => ?_) | refine goI ?_ | (refine Cw.k_cond ?_; first | (refine Cw.cond_dec rfl (fun hc => ?_) (fun hc => ?_) <;> try (exfalso; omega)) | refine Cw.cond_bool rfl (fun hc => ?_) (fun hc => ?_)) | refine goR ?_ | refine goP ?_ | apply PSeq.cons | apply PSeq.yes rfl rfl rfl | exact goW | fail)
  erw [int_set]
  rw [← hset]
  exact ⟨_, _, _, (Ent.mk goSub goTk), ⟨k + 1, _, rfl, ⟨by omega, hl2, hV, fun y hy => by have := hab2 y hy; omega⟩, rfl, rfl⟩, by omega⟩
theorem loads_fn (J : List Int) (D : Int) (ds : List Int) (hl : J.length ≤ 60) (hw : weekE J D = 0) (hd : ds.length = J.length ∧ ∀ x ∈ ds, 0 ≤ x ∧ x < D) : PFn Try.prog 32 [.week J D, .ints ds] (· = .ints (ldsOf J D ds)) := (loadsP_fn J D ds hl hw hd).val
theorem loadsOfP_fn (J : List Int) (D : Int) (ds : List Int) (hl : J.length ≤ 60) (hw : weekE J D = 0) (hd : ds.length = J.length ∧ ∀ x ∈ ds, 0 ≤ x ∧ x < D) : PFnO Try.prog 25 [.week J D, .ints ds] 1 3 (· = intRows (ldsOf J D ds)) := by
  obtain ⟨hD, hJ⟩ := weekE_ok hw
  obtain ⟨hd1, hd2⟩ := hd
  have hL := intRows_len J
  have hL2 := intRows_len ds
  obtain ⟨n, hn⟩ : ∃ n : Nat, D.toNat = n := ⟨_, rfl⟩
  have hDn : D = n := by omega
  unfold ldsOf
  rw [hn]
  subst hDn
  unfold PFnO
  refine Spec.body Try.func25 rfl rfl (Try.ntmps25) rfl fun w0 own0 M => ?_
  repeat' (first | refine goH ?_ | refine goV ?_ | refine goB (fun b => ?_) | refine goC (fun ad cap => ?_) | refine goI ?_ | (refine Cw.k_cond ?_; first | (refine Cw.cond_dec rfl (fun hc => ?_) (fun hc => ?_) <;> try (exfalso; omega)) | refine Cw.cond_bool rfl (fun hc => ?_) (fun hc => ?_)) | refine goR ?_ | refine goP ?_ | apply PSeq.cons | apply PSeq.yes rfl rfl rfl | exact goW | fail)
  rw [show List.map Tr.raw [Value.int .i64 0] = [Tr.int 0] from rfl, Int.toNat_natCast, intRows_rep]
  refine Cw.loopI [(2, _), (5, _), (11, _), (12, _)] _ (fun q e cc => ∃ (k : Nat) (acc : List Int), q = ds.length - k ∧ (k ≤ ds.length ∧ acc.length = n ∧ ldsF (List.replicate n 0) ds J = ldsF acc (ds.drop k) (J.drop k) ∧ ∀ x ∈ acc, 0 ≤ x ∧ x ≤ (k : Int) * 10000) ∧ e = [(13, .int k)] ∧ cc = [Chunk.own ad cap 1 3 (intRows acc)])
    ⟨_, _, _, (Ent.mkP goSub goPm), 0, List.replicate n 0, rfl, ⟨by omega, List.length_replicate, rfl, by intro x hx; rw [List.eq_of_mem_replicate hx]; omega⟩, rfl, rfl⟩ ?_
  rintro _ _ _ ⟨k, acc, rfl, ⟨hk, hal, hV, hab⟩, rfl, rfl⟩
  by_cases hkl : k < ds.length
  rotate_left
  · rw [ldsF_end (by omega)] at hV
    rw [hV]
    have hrl := (intRows_len acc).trans hal
    clear hV
    subst hrl
    repeat' (first | refine goH ?_ | refine goV ?_ | refine goB (fun b => ?_) | refine goC (fun ad cap => ?_) | refine goI ?_ | (refine Cw.k_cond ?_; first | (refine Cw.cond_dec rfl (fun hc => ?_) (fun hc => ?_) <;> try (exfalso; omega)) | refine Cw.cond_bool rfl (fun hc => ?_) (fun hc => ?_)) | refine goR ?_ | refine goP ?_ | apply PSeq.cons | apply PSeq.yes rfl rfl rfl | exact goW | fail)
    exact Fin.ret (Ent.take (Take.cons goPk Take.nil)) (Outs.one rfl rfl) ⟨_, _, _, rfl, rfl, rfl⟩
  obtain ⟨d, hd⟩ := at_lt hkl
  obtain ⟨x, hx⟩ := at_lt (l := J) (k := k) (by omega)
  have r1 := intRows_at hd
  have r2 := intRows_at hx
  have hdb := hd2 d (List.mem_of_getElem? hd)
  have hxb := hJ x (List.mem_of_getElem? hx)
  rw [ldsF_drop hd hx] at hV
  obtain ⟨v, hv⟩ := at_lt (l := acc) (k := d.toNat) (by omega)
  have hvb := hab v (List.mem_of_getElem? hv)
  have r3 := intRows_at hv
  have hset := bump_at (x := x) hv
  have hab2 := bump_bd (d := d) (x := x) hab hxb (by omega)
  have hl2 := bump_len acc d x
  rw [hal] at hl2
  have hal2 := intRows_len acc
  rw [hal] at hal2
  clear hd hx hv
  repeat' (first | refine goH ?_ | refine goV ?_ | refine goB (fun b => ?_) | refine goC (fun ad cap => ?_) | refine goI ?_ | (refine Cw.k_cond ?_; first | (refine Cw.cond_dec rfl (fun hc => ?_) (fun hc => ?_) <;> try (exfalso; omega)) | refine Cw.cond_bool rfl (fun hc => ?_) (fun hc => ?_)) | refine goR ?_ | refine goP ?_ | apply PSeq.cons | apply PSeq.yes rfl rfl rfl | exact goW | fail)
  erw [int_set]
  rw [← hset]
  exact ⟨_, _, _, (Ent.mk goSub goTk), ⟨k + 1, _, rfl, ⟨by omega, hl2, hV, fun y hy => by have := hab2 y hy; omega⟩, rfl, rfl⟩, by omega⟩
theorem loadsOf_fn (J : List Int) (D : Int) (ds : List Int) (hl : J.length ≤ 60) (hw : weekE J D = 0) (hd : ds.length = J.length ∧ ∀ x ∈ ds, 0 ≤ x ∧ x < D) : PFn Try.prog 25 [.week J D, .ints ds] (· = .ints (ldsOf J D ds)) := (loadsOfP_fn J D ds hl hw hd).val
theorem loadsU_fn (J : List Int) (D : Int) (ds : List Int) (hl : J.length ≤ 60) (hl2 : ds.length ≤ 1000) (hD : -1000000 ≤ D ∧ D ≤ 1000000) : PFn Try.prog 9 [.week J D, .ints ds] (· = if dayE J D ds ≠ 0 then .tup [.sl 1 [], .int (dayE J D ds)] else .tup [.ints (ldsOf J D ds), .int 0]) := by
  have k1 := daysFault_fn J D ds (by omega) hl2 hD
  refine PFn.mk (Spec.body Try.func9 rfl rfl (Try.ntmps9) rfl fun w0 own0 M => ?_)
  by_cases h : dayE J D ds ≠ 0
  · rw [if_pos h]
    generalize dayE J D ds = e at *
    repeat' (first | refine goH ?_ | refine goV ?_ | refine goB (fun b => ?_) | refine goI ?_ | (refine Cw.k_cond ?_; first | (refine Cw.cond_dec rfl (fun hc => ?_) (fun hc => ?_) <;> try (exfalso; omega)) | refine Cw.cond_bool rfl (fun hc => ?_) (fun hc => ?_)) | (refine Ops.k_calla ?_; first | (refine Ops.k_callf 31 ?_; refine Ops.callV k1 (Evs.cons rfl (Evs.cons rfl Evs.nil)) rfl ?_)) | fail)
    refine Fin.ret (Ent.trans (Ent.nilsl 1 (s := 4) rfl) (Ent.take goTk)) (Outs.many rfl (OutL.cons goOe (OutL.cons goOe OutL.nil)) rfl) ⟨rfl, rfl⟩
  · rw [if_neg h]
    have h0 : dayE J D ds = 0 := by omega
    have hw : weekE J D = 0 := by
      unfold dayE at h0
      by_cases h1 : weekE J D ≠ 0
      · rw [if_pos h1] at h0; exact absurd h0 h1
      · omega
    have k2 := loads_fn J D ds hl hw (lodE_ok (by unfold dayE at h0; rwa [if_neg (by omega)] at h0))
    rw [h0] at k1
    repeat' (first | refine goH ?_ | refine goV ?_ | refine goB (fun b => ?_) | refine goI ?_ | (refine Cw.k_cond ?_; first | (refine Cw.cond_dec rfl (fun hc => ?_) (fun hc => ?_) <;> try (exfalso; omega)) | refine Cw.cond_bool rfl (fun hc => ?_) (fun hc => ?_)) | (refine Ops.k_calla ?_; first | (refine Ops.k_callf 31 ?_; refine Ops.callV k1 (Evs.cons rfl (Evs.cons rfl Evs.nil)) rfl ?_) | (refine Ops.k_callf 32 ?_; refine Ops.callV k2 (Evs.cons rfl (Evs.cons rfl Evs.nil)) rfl ?_)) | fail)
    exact Fin.ret (Ent.take goTk) (Outs.two rfl rfl rfl) ⟨rfl, rfl⟩
end Lg
end
section
set_option linter.all false
set_option maxRecDepth 100000
set_option maxHeartbeats 8000000
namespace Lg
open Go Go.Proofs

def mxL : List Int → Int
  | [] => 0
  | x :: l => l.foldl max x
def mnL : List Int → Int
  | [] => 0
  | x :: l => l.foldl min x
def idxN : List Int → Int → Nat
  | [], _ => 0
  | x :: l, v => if x = v then 0 else idxN l v + 1
theorem mx_take {l : List Int} {k : Nat} {x : Int} (h : l[k]? = some x) (hk : 0 < k) : mxL (l.take (k + 1)) = max (mxL (l.take k)) x := by
  rw [take_at h]
  cases l with
  | nil => cases h
  | cons y l =>
    obtain ⟨m, rfl⟩ : ∃ m, k = m + 1 := ⟨k - 1, by omega⟩
    simp [mxL, List.foldl_append]
theorem mn_take {l : List Int} {k : Nat} {x : Int} (h : l[k]? = some x) (hk : 0 < k) : mnL (l.take (k + 1)) = min (mnL (l.take k)) x := by
  rw [take_at h]
  cases l with
  | nil => cases h
  | cons y l =>
    obtain ⟨m, rfl⟩ : ∃ m, k = m + 1 := ⟨k - 1, by omega⟩
    simp [mnL, List.foldl_append]
theorem idxN_no {l : List Int} {k : Nat} {x v : Int} (h : l[k]? = some x) (hx : x ≠ v) : k + idxN (l.drop k) v = (k + 1) + idxN (l.drop (k + 1)) v := by
  rw [drop_at h, idxN, if_neg hx]
  omega
theorem idxN_yes {l : List Int} {k : Nat} {v : Int} (h : l[k]? = some v) : k + idxN (l.drop k) v = k := by
  rw [drop_at h, idxN, if_pos rfl]
  omega
theorem idxN_lt : ∀ {l : List Int} {v : Int}, v ∈ l → idxN l v < l.length
  | x :: l, v, h => by
    rw [idxN]
    by_cases hx : x = v
    · rw [if_pos hx]; simp
    · rw [if_neg hx]
      rcases List.mem_cons.1 h with e | h
      · exact absurd e.symm hx
      · have := idxN_lt h
        simp
        omega
theorem fold_min_mem : ∀ (l : List Int) (x : Int), l.foldl min x = x ∨ l.foldl min x ∈ l
  | [], x => .inl rfl
  | y :: l, x => by
    rw [List.foldl_cons]
    rcases fold_min_mem l (min x y) with h | h
    · rw [h]
      have h3 : min x y = x ∨ min x y = y := by omega
      rcases h3 with h2 | h2
      · exact .inl h2
      · exact .inr (by rw [h2]; simp)
    · exact .inr (List.mem_cons_of_mem _ h)
theorem mnL_mem {l : List Int} (h : 0 < l.length) : mnL l ∈ l := by
  cases l with
  | nil => simp at h
  | cons x l =>
    rw [mnL]
    rcases fold_min_mem l x with e | e
    · rw [e]; simp
    · exact List.mem_cons_of_mem _ e
attribute [local irreducible] intRows
theorem max_fn (l : List Int) (hl : 0 < l.length ∧ l.length ≤ 1000) : PFn Try.prog 40 [.ints l] (· = .int (mxL l)) := by
  have hL := intRows_len l
  obtain ⟨x, hx⟩ := at_lt (l := l) (k := 0) (by omega)
  have r0 := intRows_at hx
  have h0 : x = mxL (l.take 1) := by rw [take_at hx]; rfl
  refine PFn.mk (Spec.body Try.func40 rfl rfl (Try.ntmps40) rfl fun w0 own0 M => ?_)
  repeat' (first | refine goH ?_ | refine goV ?_ | refine goI ?_ | (refine Cw.k_cond ?_; first | (refine Cw.cond_dec rfl (fun hc => ?_) (fun hc => ?_) <;> try (exfalso; omega)) | refine Cw.cond_bool rfl (fun hc => ?_) (fun hc => ?_)) | fail)
  rw [h0]
  refine Cw.loopI [(0, _)] _ (fun q e cc => ∃ (k : Nat), q = l.length - k ∧ (1 ≤ k ∧ k ≤ l.length) ∧ e = [(3, .int (mxL (l.take k))), (4, .int k)] ∧ cc = []) ⟨_, _, _, (Ent.mkP goSub goPm), 1, rfl, ⟨by omega, by omega⟩, rfl, rfl⟩ ?_
  rintro _ _ _ ⟨k, rfl, ⟨hk1, hk⟩, rfl, rfl⟩
  by_cases hkl : k < l.length
  · obtain ⟨y, hy⟩ := at_lt hkl
    have r1 := intRows_at hy
    have hT := mx_take hy (by omega)
    clear hy hx
    repeat' (first | refine goH ?_ | refine goV ?_ | refine goI ?_ | (refine Cw.k_cond ?_; first | (refine Cw.cond_dec rfl (fun hc => ?_) (fun hc => ?_) <;> try (exfalso; omega)) | refine Cw.cond_bool rfl (fun hc => ?_) (fun hc => ?_)) | fail)
    rw [← hT]
    exact ⟨_, _, _, (Ent.mk goSub goTk), ⟨k + 1, rfl, ⟨by omega, by omega⟩, rfl, rfl⟩, by omega⟩
  · have hT : l.take k = l := List.take_of_length_le (by omega)
    rw [hT]
    repeat' (first | refine goH ?_ | refine goV ?_ | refine goI ?_ | (refine Cw.k_cond ?_; first | (refine Cw.cond_dec rfl (fun hc => ?_) (fun hc => ?_) <;> try (exfalso; omega)) | refine Cw.cond_bool rfl (fun hc => ?_) (fun hc => ?_)) | fail)
    exact Fin.ret (Ent.take goTk) (Outs.one rfl rfl) ⟨rfl, rfl⟩
theorem min_fn (l : List Int) (hl : 0 < l.length ∧ l.length ≤ 1000) : PFn Try.prog 38 [.ints l] (· = .int (mnL l)) := by
  have hL := intRows_len l
  obtain ⟨x, hx⟩ := at_lt (l := l) (k := 0) (by omega)
  have r0 := intRows_at hx
  have h0 : x = mnL (l.take 1) := by rw [take_at hx]; rfl
  refine PFn.mk (Spec.body Try.func38 rfl rfl (Try.ntmps38) rfl fun w0 own0 M => ?_)
  repeat' (first | refine goH ?_ | refine goV ?_ | refine goI ?_ | (refine Cw.k_cond ?_; first | (refine Cw.cond_dec rfl (fun hc => ?_) (fun hc => ?_) <;> try (exfalso; omega)) | refine Cw.cond_bool rfl (fun hc => ?_) (fun hc => ?_)) | fail)
  rw [h0]
  refine Cw.loopI [(0, _)] _ (fun q e cc => ∃ (k : Nat), q = l.length - k ∧ (1 ≤ k ∧ k ≤ l.length) ∧ e = [(3, .int (mnL (l.take k))), (4, .int k)] ∧ cc = []) ⟨_, _, _, (Ent.mkP goSub goPm), 1, rfl, ⟨by omega, by omega⟩, rfl, rfl⟩ ?_
  rintro _ _ _ ⟨k, rfl, ⟨hk1, hk⟩, rfl, rfl⟩
  by_cases hkl : k < l.length
  · obtain ⟨y, hy⟩ := at_lt hkl
    have r1 := intRows_at hy
    have hT := mn_take hy (by omega)
    clear hy hx
    repeat' (first | refine goH ?_ | refine goV ?_ | refine goI ?_ | (refine Cw.k_cond ?_; first | (refine Cw.cond_dec rfl (fun hc => ?_) (fun hc => ?_) <;> try (exfalso; omega)) | refine Cw.cond_bool rfl (fun hc => ?_) (fun hc => ?_)) | fail)
    rw [← hT]
    exact ⟨_, _, _, (Ent.mk goSub goTk), ⟨k + 1, rfl, ⟨by omega, by omega⟩, rfl, rfl⟩, by omega⟩
  · have hT : l.take k = l := List.take_of_length_le (by omega)
    rw [hT]
    repeat' (first | refine goH ?_ | refine goV ?_ | refine goI ?_ | (refine Cw.k_cond ?_; first | (refine Cw.cond_dec rfl (fun hc => ?_) (fun hc => ?_) <;> try (exfalso; omega)) | refine Cw.cond_bool rfl (fun hc => ?_) (fun hc => ?_)) | fail)
    exact Fin.ret (Ent.take goTk) (Outs.one rfl rfl) ⟨rfl, rfl⟩
theorem index_fn (l : List Int) (v : Int) (hv : v ∈ l) (hl : l.length ≤ 1000) : PFn Try.prog 37 [.ints l, .int v] (· = .int (idxN l v)) := by
  have hL := intRows_len l
  have hlt := idxN_lt hv
  refine PFn.mk (Spec.body Try.func37 rfl rfl (Try.ntmps37) rfl fun w0 own0 M => ?_)
  repeat' (first | refine goH ?_ | refine goV ?_ | refine goI ?_ | (refine Cw.k_cond ?_; first | (refine Cw.cond_dec rfl (fun hc => ?_) (fun hc => ?_) <;> try (exfalso; omega)) | refine Cw.cond_bool rfl (fun hc => ?_) (fun hc => ?_)) | fail)
  refine Cw.loopI [(0, _), (1, _), (7, _)] _ (fun q e cc => ∃ (k : Nat), q = l.length - k ∧ (k ≤ l.length ∧ idxN l v = k + idxN (l.drop k) v) ∧ e = [(8, .int k)] ∧ cc = []) ⟨_, _, _, (Ent.mkP goSub goPm), 0, rfl, ⟨by omega, by rw [List.drop_zero]; omega⟩, rfl, rfl⟩ ?_
  rintro _ _ _ ⟨k, rfl, ⟨hk, hV⟩, rfl, rfl⟩
  by_cases hkl : k < l.length
  · obtain ⟨y, hy⟩ := at_lt hkl
    have r1 := intRows_at hy
    by_cases hyv : v = y
    · subst hyv
      have hV2 := hV.trans (idxN_yes hy)
      rw [hV2]
      clear hV hy hV2
      repeat' (first | refine goH ?_ | refine goV ?_ | refine goI ?_ | (refine Cw.k_cond ?_; first | (refine Cw.cond_dec rfl (fun hc => ?_) (fun hc => ?_) <;> try (exfalso; omega)) | refine Cw.cond_bool rfl (fun hc => ?_) (fun hc => ?_)) | fail)
      exact Fin.ret (Ent.take goTk) (Outs.one rfl rfl) ⟨rfl, rfl⟩
    · have hV2 := hV.trans (idxN_no hy (fun e => hyv e.symm))
      clear hV hy
      repeat' (first | refine goH ?_ | refine goV ?_ | refine goI ?_ | (refine Cw.k_cond ?_; first | (refine Cw.cond_dec rfl (fun hc => ?_) (fun hc => ?_) <;> try (exfalso; omega)) | refine Cw.cond_bool rfl (fun hc => ?_) (fun hc => ?_)) | fail)
      exact ⟨_, _, _, (Ent.mk goSub goTk), ⟨k + 1, rfl, ⟨by omega, hV2⟩, rfl, rfl⟩, by omega⟩
  · exfalso
    omega
/-- the same for a slice of one's own -/
theorem maxO_fn {ad : Option Addr} {cap n : Nat} (l : List Int) (hn : n = (intRows l).length) (hl : 0 < l.length ∧ l.length ≤ 1000) : Spec Try.prog 40 [Tr.raw (.slice ad n cap)] [Chunk.own ad cap 1 3 (intRows l)] (fun r cs => r = .int (mxL l) ∧ cs = [Chunk.own ad cap 1 3 (intRows l)]) :=
  PFn.lendO (pre := []) (suf := []) (max_fn l hl) hn raw_free
theorem minO_fn {ad : Option Addr} {cap n : Nat} (l : List Int) (hn : n = (intRows l).length) (hl : 0 < l.length ∧ l.length ≤ 1000) : Spec Try.prog 38 [Tr.raw (.slice ad n cap)] [Chunk.own ad cap 1 3 (intRows l)] (fun r cs => r = .int (mnL l) ∧ cs = [Chunk.own ad cap 1 3 (intRows l)]) :=
  PFn.lendO (pre := []) (suf := []) (min_fn l hl) hn raw_free
theorem indexO_fn {ad : Option Addr} {cap n : Nat} (l : List Int) (v : Int) (hv : v ∈ l) (hn : n = (intRows l).length) (hl : l.length ≤ 1000) : Spec Try.prog 37 [Tr.raw (.slice ad n cap), .int v] [Chunk.own ad cap 1 3 (intRows l)] (fun r cs => r = .int (idxN l v) ∧ cs = [Chunk.own ad cap 1 3 (intRows l)]) :=
  PFn.lendO (pre := []) (suf := [.int v]) (index_fn l v hv hl) hn raw_free
end Lg
end
section
set_option linter.all false
set_option maxRecDepth 100000
set_option maxHeartbeats 8000000
namespace Lg
open Go Go.Proofs

/-- a copy of an owned slice: one of its own, or a settled one -/
theorem cloneOO_int {ad : Option Addr} {n cap : Nat} (rows : List (List Tr)) (hn : n = rows.length) (hl : rows.length ≤ 1000000) : Spec Try.prog 39 [Tr.raw (.slice ad n cap)] [Chunk.own ad cap 1 3 rows] (fun r cs => ∃ ad2 cap2, r = Tr.raw (.slice ad2 n cap2) ∧ cs = Chunk.own ad2 cap2 1 3 rows :: [Chunk.own ad cap 1 3 rows]) := by
  refine Spec.body Try.func39 rfl rfl (Try.ntmps39) rfl fun w0 own0 M => ?_
  cases ad with
  | none =>
    refine Cw.own_none (List.Perm.refl _) fun h1 h2 => ?_
    subst h1
    subst h2
    subst hn
    refine Cw.ent (Ent.nil 1 3) ?_
    repeat' (first | refine goH ?_ | (refine Ops.k_b_eql ?_; first | (refine Ops.eql_nilR rfl rfl ?_)) | refine goV ?_ | refine goC (fun ad cap => ?_) | refine goI ?_ | (refine Cw.k_cond ?_; first | (refine Cw.cond_dec rfl (fun hc => ?_) (fun hc => ?_) <;> try (exfalso; omega)) | refine Cw.cond_bool rfl (fun hc => ?_) (fun hc => ?_)) | fail)
    exact Fin.ret Ent.refl (Outs.one rfl rfl) ⟨_, _, rfl, rfl⟩
  | some a =>
    repeat' (first | refine goH ?_ | (refine Ops.k_b_eql ?_; first | (refine Ops.eql_nilR rfl rfl ?_)) | ((fail_if_success refine Ops.k_buildSlice ?_); refine goV ?_) | ((fail_if_success refine Ops.k_buildSlice ?_); refine goC (fun ad cap => ?_)) | refine goI ?_ | (refine Cw.k_cond ?_; first | (refine Cw.cond_dec rfl (fun hc => ?_) (fun hc => ?_) <;> try (exfalso; omega)) | refine Cw.cond_bool rfl (fun hc => ?_) (fun hc => ?_)) | fail)
    refine Ops.buildSlice_own (by exact Parts.nil) rfl rfl rfl (fun ad2 cap2 => ?_)
    repeat' (first | refine goH ?_ | ((fail_if_success refine Ops.k_c_append ?_); refine goV ?_) | ((fail_if_success refine Ops.k_c_append ?_); refine goC (fun ad cap => ?_)) | refine goI ?_ | (refine Cw.k_cond ?_; first | (refine Cw.cond_dec rfl (fun hc => ?_) (fun hc => ?_) <;> try (exfalso; omega)) | refine Cw.cond_bool rfl (fun hc => ?_) (fun hc => ?_)) | fail)
    refine Ops.append_ownR rfl rfl (List.Perm.refl _) rfl hn (by simp; omega) (by simp; omega) rfl (fun ad3 cap3 => ?_)
    rw [show ∀ z : List (List Tr), z = [] → z ++ rows = rows from fun z h => by rw [h]; rfl]
    rotate_left
    · rfl
    repeat' (first | refine goH ?_ | refine goV ?_ | refine goC (fun ad cap => ?_) | refine goI ?_ | (refine Cw.k_cond ?_; first | (refine Cw.cond_dec rfl (fun hc => ?_) (fun hc => ?_) <;> try (exfalso; omega)) | refine Cw.cond_bool rfl (fun hc => ?_) (fun hc => ?_)) | fail)
    rw [hn]
    exact Fin.ret Ent.refl (Outs.one rfl rfl) ⟨_, _, rfl, rfl⟩
theorem cloneS_int {ad : Option Addr} {n cap : Nat} (rows : List (List Tr)) (hn : n = rows.length) (hl : rows.length ≤ 1000000) : Spec Try.prog 39 [Tr.raw (.slice ad n cap)] [Chunk.own ad cap 1 3 rows] (fun r cs => r = .sl 1 rows ∧ cs = [Chunk.own ad cap 1 3 rows]) := by
  refine Spec.body Try.func39 rfl rfl (Try.ntmps39) rfl fun w0 own0 M => ?_
  cases ad with
  | none =>
    refine Cw.own_none (List.Perm.refl _) fun h1 h2 => ?_
    subst h1
    subst h2
    subst hn
    repeat' (first | refine goH ?_ | (refine Ops.k_b_eql ?_; first | (refine Ops.eql_nilR rfl rfl ?_)) | refine goV ?_ | refine goC (fun ad cap => ?_) | refine goI ?_ | (refine Cw.k_cond ?_; first | (refine Cw.cond_dec rfl (fun hc => ?_) (fun hc => ?_) <;> try (exfalso; omega)) | refine Cw.cond_bool rfl (fun hc => ?_) (fun hc => ?_)) | fail)
    exact Fin.ret (Ent.nilsl 1 (s := 2) rfl) (Outs.one rfl rfl) ⟨rfl, rfl⟩
  | some a =>
    repeat' (first | refine goH ?_ | (refine Ops.k_b_eql ?_; first | (refine Ops.eql_nilR rfl rfl ?_)) | ((fail_if_success refine Ops.k_buildSlice ?_); refine goV ?_) | ((fail_if_success refine Ops.k_buildSlice ?_); refine goC (fun ad cap => ?_)) | refine goI ?_ | (refine Cw.k_cond ?_; first | (refine Cw.cond_dec rfl (fun hc => ?_) (fun hc => ?_) <;> try (exfalso; omega)) | refine Cw.cond_bool rfl (fun hc => ?_) (fun hc => ?_)) | fail)
    refine Ops.buildSlice_own (by exact Parts.nil) rfl rfl rfl (fun ad2 cap2 => ?_)
    repeat' (first | refine goH ?_ | ((fail_if_success refine Ops.k_c_append ?_); refine goV ?_) | ((fail_if_success refine Ops.k_c_append ?_); refine goC (fun ad cap => ?_)) | refine goI ?_ | (refine Cw.k_cond ?_; first | (refine Cw.cond_dec rfl (fun hc => ?_) (fun hc => ?_) <;> try (exfalso; omega)) | refine Cw.cond_bool rfl (fun hc => ?_) (fun hc => ?_)) | fail)
    refine Ops.append_ownR rfl rfl (List.Perm.refl _) rfl hn (by simp; omega) (by simp; omega) rfl (fun ad3 cap3 => ?_)
    rw [show ∀ z : List (List Tr), z = [] → z ++ rows = rows from fun z h => by rw [h]; rfl]
    rotate_left
    · rfl
    repeat' (first | refine goH ?_ | refine goV ?_ | refine goC (fun ad cap => ?_) | refine goI ?_ | (refine Cw.k_cond ?_; first | (refine Cw.cond_dec rfl (fun hc => ?_) (fun hc => ?_) <;> try (exfalso; omega)) | refine Cw.cond_bool rfl (fun hc => ?_) (fun hc => ?_)) | fail)
    exact Fin.ret (Ent.settle (s := 2) (ad := ad3) (cap := cap3) (cf := [Chunk.own (some a) cap 1 3 rows]) rfl (List.Perm.refl _) rfl) (Outs.one rfl rfl) ⟨rfl, rfl⟩

/-! ### the least greatest load -/
abbrev LSt := List Int × Int
def levF (f : Nat → LSt → LSt) : Nat → Nat → LSt → LSt
  | _, 0, s => s
  | k, n + 1, s => levF f (k + 1) n (f k s)
def lev (D : Nat) : List Int → List Int → List Int → LSt → LSt
  | [], pre, L, st => if 0 ≤ st.2 ∧ st.2 ≤ mxL L then st else (pre, mxL L)
  | j :: js, pre, L, st => if 0 ≤ st.2 ∧ st.2 ≤ mxL L then st else levF (fun d s => lev D js (pre ++ [(d : Int)]) (bump L d j) s) 0 D st
theorem lev_cut {D : Nat} {js pre L : List Int} {st : LSt} (h : 0 ≤ st.2 ∧ st.2 ≤ mxL L) : lev D js pre L st = st := by
  cases js <;> rw [lev, if_pos h]
theorem lev_nil {D : Nat} {pre L : List Int} {st : LSt} (h : ¬ (0 ≤ st.2 ∧ st.2 ≤ mxL L)) : lev D [] pre L st = (pre, mxL L) := by rw [lev, if_neg h]
theorem lev_cons {D : Nat} {j : Int} {js pre L : List Int} {st : LSt} (h : ¬ (0 ≤ st.2 ∧ st.2 ≤ mxL L)) : lev D (j :: js) pre L st = levF (fun d s => lev D js (pre ++ [(d : Int)]) (bump L d j) s) 0 D st := by rw [lev, if_neg h]
theorem levF_step {f : Nat → LSt → LSt} {k D : Nat} {s : LSt} (h : k < D) : levF f k (D - k) s = levF f (k + 1) (D - (k + 1)) (f k s) := by
  obtain ⟨m, hm⟩ : ∃ m, D - k = m + 1 := ⟨D - k - 1, by omega⟩
  rw [hm, levF, show D - (k + 1) = m by omega]
theorem levF_end {f : Nat → LSt → LSt} {k D : Nat} {s : LSt} (h : ¬ k < D) : levF f k (D - k) s = s := by
  rw [show D - k = 0 by omega, levF]
theorem fold_max_ge : ∀ (l : List Int) (x : Int), x ≤ l.foldl max x ∧ ∀ y ∈ l, y ≤ l.foldl max x
  | [], x => ⟨Int.le_refl _, by simp⟩
  | z :: l, x => by
    obtain ⟨h1, h2⟩ := fold_max_ge l (max x z)
    rw [List.foldl_cons]
    refine ⟨by omega, fun y hy => ?_⟩
    rcases List.mem_cons.1 hy with rfl | hy
    · omega
    · exact h2 y hy
theorem fold_max_mem : ∀ (l : List Int) (x : Int), l.foldl max x = x ∨ l.foldl max x ∈ l
  | [], x => .inl rfl
  | y :: l, x => by
    rw [List.foldl_cons]
    rcases fold_max_mem l (max x y) with h | h
    · rw [h]
      have h3 : max x y = x ∨ max x y = y := by omega
      rcases h3 with h2 | h2
      · exact .inl h2
      · exact .inr (by rw [h2]; simp)
    · exact .inr (List.mem_cons_of_mem _ h)
theorem mxL_mem {l : List Int} (h : 0 < l.length) : mxL l ∈ l := by
  cases l with
  | nil => simp at h
  | cons x l =>
    rw [mxL]
    rcases fold_max_mem l x with e | e
    · rw [e]; simp
    · exact List.mem_cons_of_mem _ e
theorem mxL_ge {l : List Int} {y : Int} (h : y ∈ l) : y ≤ mxL l := by
  cases l with
  | nil => cases h
  | cons x l =>
    rw [mxL]
    rcases List.mem_cons.1 h with rfl | h
    · exact (fold_max_ge l _).1
    · exact (fold_max_ge l x).2 y h
theorem mx_bump {L : List Int} {d : Nat} {v j : Int} (h : L[d]? = some v) (hj : 0 ≤ j) : max (mxL L) (v + j) = mxL (bump L d j) := by
  have hd := (List.getElem?_eq_some_iff.1 h).1
  have e : bump L d j = L.set d (v + j) := by
    have := bump_at (d := (d : Int)) (x := j) (by rw [Int.toNat_natCast]; exact h)
    rwa [Int.toNat_natCast] at this
  rw [e]
  have h1 : mxL (L.set d (v + j)) ≤ max (mxL L) (v + j) := by
    rcases List.mem_or_eq_of_mem_set (mxL_mem (l := L.set d (v + j)) (by rw [List.length_set]; omega)) with h2 | h2
    · have := mxL_ge h2; omega
    · omega
  have hset : (L.set d (v + j))[d]? = some (v + j) := by rw [List.getElem?_set, if_pos rfl, if_pos hd]
  have h2 : v + j ≤ mxL (L.set d (v + j)) := mxL_ge (List.mem_of_getElem? hset)
  have h3 : mxL L ≤ mxL (L.set d (v + j)) := by
    obtain ⟨i, hi⟩ := List.mem_iff_getElem?.1 (mxL_mem (l := L) (by omega))
    by_cases hid : d = i
    · subst hid
      rw [h] at hi
      injection hi with hi
      omega
    · exact mxL_ge (List.mem_of_getElem? (by rw [List.getElem?_set, if_neg hid]; exact hi))
  omega
theorem bump_back {L : List Int} {d : Nat} {v j : Int} (h : L[d]? = some v) : (bump L d j)[d]? = some (v + j) ∧ (bump L d j).set d (v + j - j) = L := by
  have hd := (List.getElem?_eq_some_iff.1 h).1
  have e : bump L d j = L.set d (v + j) := by
    have := bump_at (d := (d : Int)) (x := j) (by rw [Int.toNat_natCast]; exact h)
    rwa [Int.toNat_natCast] at this
  rw [e]
  refine ⟨by rw [List.getElem?_set, if_pos rfl, if_pos hd], ?_⟩
  rw [List.set_set, show v + j - j = v by omega]
  exact List.ext_getElem? fun i => by
    by_cases hi : d = i
    · subst hi; rw [List.getElem?_set, if_pos rfl, if_pos hd, h]
    · rw [List.getElem?_set, if_neg hi]
theorem lev_bd {D : Nat} : ∀ (js : List Int) {pre L : List Int} {st : LSt}, 0 < L.length → (∀ y ∈ L, 0 ≤ y ∧ y ≤ (pre.length : Int) * 10000) → (∀ x ∈ js, 0 ≤ x ∧ x ≤ 10000) → st.1.length ≤ 8 → pre.length + js.length ≤ 8 → (-1 ≤ st.2 ∧ st.2 ≤ 80000) → (lev D js pre L st).1.length ≤ 8 ∧ -1 ≤ (lev D js pre L st).2 ∧ (lev D js pre L st).2 ≤ 80000
  | [], pre, L, st, hL0, hL, hj, h1, h2, h3 => by
    by_cases hc : 0 ≤ st.2 ∧ st.2 ≤ mxL L
    · rw [lev_cut hc]; exact ⟨h1, h3⟩
    · rw [lev_nil hc]
      have := hL _ (mxL_mem hL0)
      simp at h2
      refine ⟨by simp; omega, by simp; omega, by simp; omega⟩
  | j :: js, pre, L, st, hL0, hL, hj, h1, h2, h3 => by
    by_cases hc : 0 ≤ st.2 ∧ st.2 ≤ mxL L
    · rw [lev_cut hc]; exact ⟨h1, h3⟩
    · rw [lev_cons hc]
      have key : ∀ (n k : Nat) (s : LSt), s.1.length ≤ 8 → (-1 ≤ s.2 ∧ s.2 ≤ 80000) → (levF (fun d s => lev D js (pre ++ [(d : Int)]) (bump L d j) s) k n s).1.length ≤ 8 ∧ -1 ≤ (levF (fun d s => lev D js (pre ++ [(d : Int)]) (bump L d j) s) k n s).2 ∧ (levF (fun d s => lev D js (pre ++ [(d : Int)]) (bump L d j) s) k n s).2 ≤ 80000 := by
        intro n
        induction n with
        | zero => intro k s h4 h5; rw [levF]; exact ⟨h4, h5⟩
        | succ n ih =>
          intro k s h4 h5
          rw [levF]
          have hb := bump_bd (d := (k : Int)) (x := j) hL (hj j (by simp)) (by omega)
          have := lev_bd (D := D) js (pre := pre ++ [(k : Int)]) (L := bump L k j) (st := s) (by rw [bump_len]; exact hL0) (fun y hy => by have := hb y hy; rw [List.length_append]; simp; omega) (fun x hx => hj x (by simp [hx])) h4 (by rw [List.length_append]; simp at h2 ⊢; omega) h5
          exact ih (k + 1) _ this.1 this.2
      exact key D 0 st h1 h3
end Lg
end
