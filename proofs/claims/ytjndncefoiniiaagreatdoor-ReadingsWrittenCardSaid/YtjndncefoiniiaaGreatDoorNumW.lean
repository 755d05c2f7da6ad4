/- A part of the proof of a law of this seat: it adds no condition. By an AI agent. -/
import Derived.Test.YtjndncefoiniiaaGreatDoorRw3
import Derived.Test.YtjndncefoiniiaaGreatDoorChgS
section
set_option linter.all false
namespace Lg
open Go Go.Proofs

theorem Ops.shut0 {P : Program} {Γ : Ctx} {env : Env} {cs : List Chunk} {Q : Post} {R : Array Oper} {l : List Oper} {ty b : Nat} {cells : List Tr} {rows : List (List Tr)} (h : cells = [Tr.sl 1 rows, Tr.int ((0 : Nat) : Int)]) (k : Ops P Γ R l env (Chunk.strm ty b rows 0 :: cs) Q) : Ops P Γ R l env (Chunk.box b ty cells :: cs) Q := by
  subst h
  exact Ops.ent (Ent.shut_strm (m := 0) (Nat.le_refl 0)) k
end Lg
end
section
set_option linter.all false
set_option maxRecDepth 100000
set_option maxHeartbeats 4000000
namespace Lg
open Go Go.Proofs

/-! ### the law ReadingsWritten -/
theorem sameRW_fn (r : Rdg) (h : r.vs.length ≤ 1000) : PFn Tryz.prog 39 [.rdg r, .rdg r] (· = .bool true) := by
  have k1 := equalInts_fn r.vs r.vs (by omega) (by omega)
  rw [decide_eq_true rfl] at k1
  refine PFn.mk (Spec.body Tryz.func39 rfl rfl (Tryz.ntmps39) rfl fun w0 own0 M => ?_)
  repeat' (first | refine goH ?_ | refine goV ?_ | refine goB (fun b => ?_) | refine goG ?_ | (refine Ops.k_guard ?_; first | (refine Ops.guard_dec rfl rfl (fun hc => ?_) (fun hc => ?_) <;> try (exfalso; omega)) | refine Ops.guard_split rfl rfl (fun hc => ?_) (fun hc => ?_)) | refine goI ?_ | (refine Cw.k_cond ?_; first | (refine Cw.cond_dec rfl (fun hc => ?_) (fun hc => ?_) <;> try (exfalso; omega)) | refine Cw.cond_bool rfl (fun hc => ?_) (fun hc => ?_)) | (refine Ops.k_calla ?_; first | (refine Ops.k_callf 37 ?_; refine Ops.callV k1 (Evs.cons rfl (Evs.cons rfl Evs.nil)) rfl ?_)) | fail)
  exact Fin.ret (Ent.take goTk) (Outs.one rfl rfl) ⟨rfl, rfl⟩
theorem eqfRW_fn (l : List Rdg) (hl : l.length ≤ 1000) (hv : ∀ r ∈ l, r.vs.length ≤ 1000) : PFn Tryz.prog 38 [.sl 2 (l.map Rdg.row), .sl 2 (l.map Rdg.row), Tr.raw (.func (.func 39) #[] #[])] (· = .bool true) := by
  refine PFn.mk (Spec.body Tryz.func38 rfl rfl (Tryz.ntmps38) rfl fun w0 own0 M => ?_)
  have hR : (l.map Rdg.row).length = l.length := List.length_map _
  repeat' (first | refine goH ?_ | refine goV ?_ | refine goB (fun b => ?_) | refine goI ?_ | (refine Cw.k_cond ?_; first | (refine Cw.cond_dec rfl (fun hc => ?_) (fun hc => ?_) <;> try (exfalso; omega)) | refine Cw.cond_bool rfl (fun hc => ?_) (fun hc => ?_)) | fail)
  refine Cw.loopI [(1, _), (2, _), (15, _), (16, _)] _ (fun q e cc => ∃ (k : Nat), q = l.length - k ∧ (k ≤ l.length) ∧ e = [(17, .int k)] ∧ cc = []) ⟨_, _, _, (Ent.mkP goSub goPm), 0, rfl, by omega, rfl, rfl⟩ ?_
  rintro _ _ _ ⟨k, rfl, hk, rfl, rfl⟩
  by_cases hkl : k < l.length
  · obtain ⟨r, hx⟩ := at_lt hkl
    have hr1 : (l.map Rdg.row)[k]? = some [.int r.t, .ints r.vs] := rows_at hx
    have kE := (sameRW_fn r (hv r (List.mem_of_getElem? hx))).lend
    repeat' (first | refine goH ?_ | refine goV ?_ | refine goB (fun b => ?_) | refine goI ?_ | (refine Cw.k_cond ?_; first | (refine Cw.cond_dec rfl (fun hc => ?_) (fun hc => ?_) <;> try (exfalso; omega)) | refine Cw.cond_bool rfl (fun hc => ?_) (fun hc => ?_)) | (refine Ops.k_calla ?_; first | refine Ops.callS_fn (caps := []) (args := [.rdg r, .rdg r]) rfl kE (Evs.cons rfl (Evs.cons rfl Evs.nil)) (List.Perm.refl _) rfl ?_) | fail)
    exact ⟨_, _, _, (Ent.mk goSub goTk), ⟨k + 1, rfl, by omega, rfl, rfl⟩, by omega⟩
  · repeat' (first | refine goH ?_ | refine goV ?_ | refine goB (fun b => ?_) | refine goI ?_ | (refine Cw.k_cond ?_; first | (refine Cw.cond_dec rfl (fun hc => ?_) (fun hc => ?_) <;> try (exfalso; omega)) | refine Cw.cond_bool rfl (fun hc => ?_) (fun hc => ?_)) | fail)
    exact Fin.ret (Ent.take goTk) (Outs.one rfl rfl) ⟨rfl, rfl⟩
theorem sameReadingsW_fn (l : List Rdg) (hl : l.length ≤ 1000) (hv : ∀ r ∈ l, r.vs.length ≤ 1000) : PFn Tryz.prog 13 [.sl 2 (l.map Rdg.row), .sl 2 (l.map Rdg.row)] (· = .bool true) := by
  have k3 := eqfRW_fn l hl hv
  refine PFn.mk (Spec.body Tryz.func13 rfl rfl (Tryz.ntmps13) rfl fun w0 own0 M => ?_)
  repeat' (first | refine goH ?_ | refine goV ?_ | refine goI ?_ | (refine Cw.k_cond ?_; first | (refine Cw.cond_dec rfl (fun hc => ?_) (fun hc => ?_) <;> try (exfalso; omega)) | refine Cw.cond_bool rfl (fun hc => ?_) (fun hc => ?_)) | (refine Ops.k_calla ?_; first | (refine Ops.k_callf 38 ?_; refine Ops.callV k3 (Evs.cons rfl (Evs.cons rfl (Evs.cons rfl Evs.nil))) rfl ?_)) | fail)
  exact Fin.ret (Ent.take goTk) (Outs.one rfl rfl) ⟨rfl, rfl⟩
theorem decP_len (s : ByteArray) : (decP s).1.vs.length ≤ 60 := by
  have h0 : rdg0.vs.length ≤ 60 := by show 0 ≤ 60; omega
  have hV : ∀ a b c, (decV a b c).1.vs.length ≤ 60 := fun a b c => by
    unfold decV
    repeat' split
    all_goals first | exact h0 | skip
    rename_i h
    exact (encE_ok (d := decW a b) (by omega)).2.2.1
  unfold decP
  split
  · exact h0
  · unfold decQ
    split
    · exact hV _ _ _
    · exact h0
theorem vText_size {l : List Int} (h : ∀ x ∈ l, 0 ≤ x ∧ x ≤ 999999) (hl : l.length ≤ 60) : (vText l).size ≤ 22 * 60 := by
  unfold vText
  rw [mkB_size]
  refine Nat.le_trans (joinL_size _ 21 _ ?_) ?_
  · intro z hz
    obtain ⟨y, hy, rfl⟩ := List.mem_map.1 hz
    have := h y hy
    exact itoaS_size (x := y) (by omega) (by omega)
  · rw [List.length_map]
    have e : ([44] : List UInt8).length = 1 := rfl
    rw [e]
    omega
theorem encT_size {d : Rdg} (h : encE d = 0) : (encT d).size ≤ 2000 := by
  obtain ⟨h1, h2, h3, h4, h5, h6⟩ := encE_ok h
  have e1 := vText_size h6 h3
  have e2 := itoaS_size (x := d.t) (by omega) (by omega)
  have z1 : ByteArray.size ⟨#[32]⟩ = 1 := rfl
  have z3 : ByteArray.size ⟨#[32, 42]⟩ = 2 := rfl
  have z4 := chkS_size (rdS d)
  have e : rdS d = (itoaS d.t ++ ⟨#[32]⟩) ++ vText d.vs := rfl
  unfold encT
  rw [ByteArray.size_append, ByteArray.size_append, z3, z4, e, ByteArray.size_append, ByteArray.size_append, z1]
  omega
theorem rtext_gen (bs : Nat) (xs : List Int) (N : Nat) (hN : N ≤ 100000) : Spec Tryz.prog 9 [Tr.ptr bs] [Chunk.strm 25 bs (intRows xs) N, numC] (fun r cs => ∃ s m, r = .str s ∧ s.size ≤ 1000000 ∧ m ≤ N + 100 ∧ cs = [Chunk.strm 25 bs (intRows xs) m, numC]) := by
  have kW := repeat_fn ⟨#[49]⟩ 1001 (by omega) (by rw [show ByteArray.size ⟨#[49]⟩ = 1 from rfl]; omega)
  have kW : PFn Tryz.prog 30 [.str ⟨#[49]⟩, .int 1001] (· = .str (mkB (Lib.repeatL [49] 1001))) := kW
  have hW : (mkB (Lib.repeatL [49] 1001)).size ≤ 1000000 := by
    rw [mkB_size, Lib.repeatL_length]
    decide
  generalize mkB (Lib.repeatL [49] 1001) = W at *
  refine Spec.body Tryz.func9 rfl rfl (Tryz.ntmps9) rfl fun w0 own0 M => ?_
  repeat' (first | refine goH ?_ | ((fail_if_success refine Ops.k_c_call ?_); refine goV ?_) | ((fail_if_success refine Ops.k_c_call ?_); refine goB (fun b => ?_)) | refine goI ?_ | (refine Cw.k_cond ?_; first | (refine Cw.cond_dec rfl (fun hc => ?_) (fun hc => ?_) <;> try (exfalso; omega)) | refine Cw.cond_bool rfl (fun hc => ?_) (fun hc => ?_)) | (refine Ops.k_calla ?_; first | (refine Ops.k_callf 4 ?_; (refine Ops.callG (reading_gen 2 1000 0 (by omega)) (Evs.cons rfl (Evs.cons rfl Evs.nil)) goPk (by omega) rfl ?_; rintro r ⟨d, rfl, hd⟩))) | fail)
  have kL := lineFault_fn d (by omega)
  have hsz := encT_size (d := d)
  have z1 : ByteArray.size ⟨#[53, 32, 49, 44, 50, 48, 32, 42, 48, 97]⟩ = 10 := rfl
  by_cases h0 : encE d = 0
  · have kT := readingText_fn d h0
    have hsz := hsz h0
    rw [h0] at kL
    generalize encT d = T0 at *
    clear h0
    repeat' (first | refine goH ?_ | refine goV ?_ | refine goB (fun b => ?_) | refine goI ?_ | (refine Cw.k_cond ?_; first | (refine Cw.cond_dec rfl (fun hc => ?_) (fun hc => ?_) <;> try (exfalso; omega)) | refine Cw.cond_bool rfl (fun hc => ?_) (fun hc => ?_)) | (refine Ops.k_calla ?_; first | (refine Ops.k_callf 7 ?_; refine Ops.callV kL (Evs.cons rfl Evs.nil) rfl ?_) | (refine Ops.k_callf 8 ?_; (refine Ops.call kT (Evs.cons rfl Evs.nil) goPm rfl ?_; rintro r cs' ⟨rfl, rfl⟩)) | (refine Ops.k_callf 30 ?_; refine Ops.callV kW (Evs.cons rfl (Evs.cons rfl Evs.nil)) rfl ?_) | (refine Ops.k_callf 16 ?_; (refine Ops.callG (flip_gen _ (by omega)) (Evs.cons rfl (Evs.cons rfl Evs.nil)) goPk (by omega) rfl ?_; rintro r ⟨u, rfl⟩)) | (refine Ops.k_callf 29 ?_; (refine Ops.callG (one_gen (by repeat' (first | exact IsStrs.nil | apply IsStrs.cons)) (by simp)) (Evs.cons rfl (Evs.cons rfl Evs.nil)) goPk (by omega) rfl ?_; rintro r ⟨w, rfl, hw⟩; have hwz : w.size = 1 := (by simp at hw; rcases hw with rfl | rfl | rfl | rfl | rfl | rfl <;> rfl); clear hw)) | (refine Ops.k_callf 28 ?_; (refine Ops.callG (changed_gen _ _ (by omega) (by omega)) (Evs.cons rfl (Evs.cons rfl (Evs.cons rfl Evs.nil))) goPk (by omega) rfl ?_; rintro r ⟨c, rfl, hc⟩))) | fail)
    all_goals exact Fin.ret (Ent.take goTk) (Outs.sole rfl goOe) ⟨_, _, rfl, by omega, by omega, rfl⟩
  · clear hsz
    generalize encE d = E at *
    repeat' (first | refine goH ?_ | refine goV ?_ | refine goB (fun b => ?_) | refine goI ?_ | (refine Cw.k_cond ?_; first | (refine Cw.cond_dec rfl (fun hc => ?_) (fun hc => ?_) <;> try (exfalso; omega)) | refine Cw.cond_bool rfl (fun hc => ?_) (fun hc => ?_)) | (refine Ops.k_calla ?_; first | (refine Ops.k_callf 7 ?_; refine Ops.callV kL (Evs.cons rfl Evs.nil) rfl ?_) | (refine Ops.k_callf 30 ?_; refine Ops.callV kW (Evs.cons rfl (Evs.cons rfl Evs.nil)) rfl ?_) | (refine Ops.k_callf 16 ?_; (refine Ops.callG (flip_gen _ (by omega)) (Evs.cons rfl (Evs.cons rfl Evs.nil)) goPk (by omega) rfl ?_; rintro r ⟨u, rfl⟩)) | (refine Ops.k_callf 29 ?_; (refine Ops.callG (one_gen (by repeat' (first | exact IsStrs.nil | apply IsStrs.cons)) (by simp)) (Evs.cons rfl (Evs.cons rfl Evs.nil)) goPk (by omega) rfl ?_; rintro r ⟨w, rfl, hw⟩; have hwz : w.size = 1 := (by simp at hw; rcases hw with rfl | rfl | rfl | rfl | rfl | rfl <;> rfl); clear hw)) | (refine Ops.k_callf 28 ?_; (refine Ops.callG (changed_gen _ _ (by omega) (by omega)) (Evs.cons rfl (Evs.cons rfl (Evs.cons rfl Evs.nil))) goPk (by omega) rfl ?_; rintro r ⟨c, rfl, hc⟩))) | fail)
    all_goals first | (exfalso; contradiction) | exact Fin.ret (Ent.take goTk) (Outs.sole rfl goOe) ⟨_, _, rfl, by omega, by omega, rfl⟩
theorem readingsWritten_law (xs : List Int) : Spec Tryz.prog 3 [Tr.ints xs] [numC] (fun r _ => r = Tr.bool true) := by
  refine Spec.body Tryz.func3 rfl rfl (Tryz.ntmps3) rfl fun w0 own0 M => ?_
  repeat' (first | refine goH ?_ | ((fail_if_success refine Ops.k_c_call ?_); refine goV ?_) | ((fail_if_success refine Ops.k_c_call ?_); refine goB (fun b => ?_)) | refine goG ?_ | (refine Ops.k_guard ?_; first | (refine Ops.guard_dec rfl rfl (fun hc => ?_) (fun hc => ?_) <;> try (exfalso; omega)) | refine Ops.guard_split rfl rfl (fun hc => ?_) (fun hc => ?_)) | refine goI ?_ | (refine Cw.k_cond ?_; first | (refine Cw.cond_dec rfl (fun hc => ?_) (fun hc => ?_) <;> try (exfalso; omega)) | refine Cw.cond_bool rfl (fun hc => ?_) (fun hc => ?_)) | refine Ops.shut0 (ty := 25) rfl ?_ | (refine Ops.k_calla ?_; first | (refine Ops.k_callf 5 ?_; (refine Ops.callG meter_gen (Evs.cons rfl Evs.nil) goPk (by omega) rfl ?_; rintro x ⟨c, t, f, rfl, ht, hcc, hf⟩)) | (refine Ops.k_callf 4 ?_; (refine Ops.callG (reading_gen c t f ht) (Evs.cons rfl (Evs.cons rfl Evs.nil)) goPk (by omega) rfl ?_; rintro r ⟨d, rfl, hd⟩))) | fail)
  clear ht hcc hf
  have kE := encode_fn d (by omega)
  have kL := lineFault_fn d (by omega)
  have kM := meters_fn
  by_cases h0 : encE d = 0
  · have kT := readingText_fn d h0
    rw [if_pos h0, h0] at kE
    rw [h0] at kL
    generalize encT d = T0 at *
    clear h0
    repeat' (first | refine goH ?_ | (refine Ops.k_b_neq ?_; first | (first | refine Ops.val' rfl (OpV.neqS_f rfl rfl rfl) ?_ | refine Ops.val' rfl (OpV.neq_f rfl rfl rfl) ?_)) | ((fail_if_success refine Ops.k_c_call ?_); refine goV ?_) | ((fail_if_success refine Ops.k_c_call ?_); refine goB (fun b => ?_)) | refine goG ?_ | (refine Ops.k_guard ?_; first | (refine Ops.guard_dec rfl rfl (fun hc => ?_) (fun hc => ?_) <;> try (exfalso; omega)) | refine Ops.guard_split rfl rfl (fun hc => ?_) (fun hc => ?_)) | refine goI ?_ | (refine Cw.k_cond ?_; first | (refine Cw.cond_dec rfl (fun hc => ?_) (fun hc => ?_) <;> try (exfalso; omega)) | refine Cw.cond_bool rfl (fun hc => ?_) (fun hc => ?_)) | (refine Ops.k_calla ?_; first | (refine Ops.k_callf 7 ?_; refine Ops.callV kL (Evs.cons rfl Evs.nil) rfl ?_) | (refine Ops.k_callf 6 ?_; (refine Ops.call kE (Evs.cons rfl Evs.nil) goPm rfl ?_; rintro r cs' ⟨rfl, rfl⟩)) | (refine Ops.k_callf 8 ?_; (refine Ops.call kT (Evs.cons rfl Evs.nil) goPm rfl ?_; rintro r cs' ⟨rfl, rfl⟩))) | fail)
    refine Ops.k_calla ?_
    refine Ops.call (rtext_gen _ xs (0 + 10 + 12) (by omega)) (Evs.cons rfl Evs.nil) goPm rfl ?_
    rintro r cs' ⟨s, m, rfl, hs, hm, rfl⟩
    have kD := decode_fn s (by omega)
    have kF := readingFrom_fn s (by omega)
    have hX := decP_len s
    generalize decP s = X at *
    obtain ⟨⟨ta, va⟩, ea⟩ := X
    have kS := sameReadingsW_fn [⟨ta, va⟩] (by simp) (fun r hr => by rw [List.mem_singleton.1 hr]; have : va.length ≤ 60 := hX; show va.length ≤ 1000; omega)
    unfold decT at kD kF
    repeat' (first | refine goH ?_ | (refine Ops.k_b_eql ?_; first | (refine Ops.val' rfl (OpV.eql_t rfl rfl rfl) ?_)) | refine goV ?_ | refine goB (fun b => ?_) | refine goG ?_ | (refine Ops.k_guard ?_; first | (refine Ops.guard_dec rfl rfl (fun hc => ?_) (fun hc => ?_) <;> try (exfalso; omega)) | refine Ops.guard_split rfl rfl (fun hc => ?_) (fun hc => ?_)) | refine goI ?_ | (refine Cw.k_cond ?_; first | (refine Cw.cond_dec rfl (fun hc => ?_) (fun hc => ?_) <;> try (exfalso; omega)) | refine Cw.cond_bool rfl (fun hc => ?_) (fun hc => ?_)) | (refine Ops.k_calla ?_; first | (refine Ops.k_callf 10 ?_; (refine Ops.call kD (Evs.cons rfl Evs.nil) goPm rfl ?_; rintro r cs' ⟨rfl, rfl⟩)) | (refine Ops.k_callf 11 ?_; (refine Ops.call kF (Evs.cons rfl Evs.nil) goPm rfl ?_; rintro r cs' ⟨rfl, rfl⟩)) | (refine Ops.k_callf 12 ?_; refine Ops.callV kM Evs.nil rfl ?_) | (refine Ops.k_callf 13 ?_; refine Ops.callV kS (Evs.cons rfl (Evs.cons rfl Evs.nil)) rfl ?_)) | fail)
    all_goals exact Fin.ret (Ent.take goTk) (Outs.one rfl rfl) rfl
  · rw [if_neg h0] at kE
    generalize encE d = E at *
    repeat' (first | refine goH ?_ | (refine Ops.k_b_neq ?_; first | (refine Ops.val' rfl (OpV.neq_f rfl rfl rfl) ?_)) | (refine Ops.k_b_eql ?_; first | (refine Ops.val' rfl (OpV.eql_f rfl rfl (by omega)) ?_)) | ((fail_if_success refine Ops.k_c_call ?_); refine goV ?_) | ((fail_if_success refine Ops.k_c_call ?_); refine goB (fun b => ?_)) | refine goG ?_ | (refine Ops.k_guard ?_; first | (refine Ops.guard_dec rfl rfl (fun hc => ?_) (fun hc => ?_) <;> try (exfalso; omega)) | refine Ops.guard_split rfl rfl (fun hc => ?_) (fun hc => ?_)) | refine goI ?_ | (refine Cw.k_cond ?_; first | (refine Cw.cond_dec rfl (fun hc => ?_) (fun hc => ?_) <;> try (exfalso; omega)) | refine Cw.cond_bool rfl (fun hc => ?_) (fun hc => ?_)) | (refine Ops.k_calla ?_; first | (refine Ops.k_callf 7 ?_; refine Ops.callV kL (Evs.cons rfl Evs.nil) rfl ?_) | (refine Ops.k_callf 6 ?_; (refine Ops.call kE (Evs.cons rfl Evs.nil) goPm rfl ?_; rintro r cs' ⟨rfl, rfl⟩))) | fail)
    refine Ops.k_calla ?_
    refine Ops.call (rtext_gen _ xs (0 + 10 + 12) (by omega)) (Evs.cons rfl Evs.nil) goPm rfl ?_
    rintro r cs' ⟨s, m, rfl, hs, hm, rfl⟩
    have kD := decode_fn s (by omega)
    have kF := readingFrom_fn s (by omega)
    have hX := decP_len s
    generalize decP s = X at *
    obtain ⟨⟨ta, va⟩, ea⟩ := X
    have kS := sameReadingsW_fn [⟨ta, va⟩] (by simp) (fun r hr => by rw [List.mem_singleton.1 hr]; have : va.length ≤ 60 := hX; show va.length ≤ 1000; omega)
    unfold decT at kD kF
    repeat' (first | refine goH ?_ | (refine Ops.k_b_eql ?_; first | (refine Ops.val' rfl (OpV.eql_t rfl rfl rfl) ?_)) | refine goV ?_ | refine goB (fun b => ?_) | refine goG ?_ | (refine Ops.k_guard ?_; first | (refine Ops.guard_dec rfl rfl (fun hc => ?_) (fun hc => ?_) <;> try (exfalso; omega)) | refine Ops.guard_split rfl rfl (fun hc => ?_) (fun hc => ?_)) | refine goI ?_ | (refine Cw.k_cond ?_; first | (refine Cw.cond_dec rfl (fun hc => ?_) (fun hc => ?_) <;> try (exfalso; omega)) | refine Cw.cond_bool rfl (fun hc => ?_) (fun hc => ?_)) | (refine Ops.k_calla ?_; first | (refine Ops.k_callf 10 ?_; (refine Ops.call kD (Evs.cons rfl Evs.nil) goPm rfl ?_; rintro r cs' ⟨rfl, rfl⟩)) | (refine Ops.k_callf 11 ?_; (refine Ops.call kF (Evs.cons rfl Evs.nil) goPm rfl ?_; rintro r cs' ⟨rfl, rfl⟩)) | (refine Ops.k_callf 12 ?_; refine Ops.callV kM Evs.nil rfl ?_) | (refine Ops.k_callf 13 ?_; refine Ops.callV kS (Evs.cons rfl (Evs.cons rfl Evs.nil)) rfl ?_)) | fail)
    all_goals exact Fin.ret (Ent.take goTk) (Outs.one rfl rfl) rfl
end Lg
end
section
set_option linter.all false
namespace Lg
open Go Go.Proofs

theorem numV_of {w : World} (h1 : Lib.TabIs Tryz.prog w "internal/strconv.uint64pow10" .u64 Lib.pow10Tab) (h2 : ∃ tp p, w.var? Tryz.prog "strconv.ErrSyntax" = some #[.iface tp p]) (h3 : ∃ tp p, w.var? Tryz.prog "strconv.ErrRange" = some #[.iface tp p]) : VarsIn Tryz.prog numV w := by
  obtain ⟨a, b, h2⟩ := h2
  obtain ⟨c, d, h3⟩ := h3
  intro x hx
  unfold numV at hx
  rcases List.mem_cons.1 hx with rfl | hx
  · exact ⟨_, h1, rfl⟩
  rcases List.mem_cons.1 hx with rfl | hx
  · exact ⟨_, h2, _, _, rfl⟩
  rcases List.mem_cons.1 hx with rfl | hx
  · exact ⟨_, h3, _, _, rfl⟩
  cases hx
end Lg
end
