/- A part of the proof of a law of this seat: it adds no condition. By an AI agent. -/
import Derived.Test.YteommidoocekmaaGreatDoorFrac
section
set_option linter.all false
set_option maxRecDepth 100000
set_option maxHeartbeats 8000000
namespace Lg
open Go Go.Proofs

theorem OpV.shlI {P : Program} {Γ : Ctx} {env : Env} {cs : List Chunk} {ty T T2 : TypeId} {x y : Operand} {n : Nat} (hx : ev env x = some (.raw (.int .i64 1))) (hy : ev env y = some (.int n)) (hn : n ≤ 62) : OpV P Γ (.binOp .shl T x y T2) ty env cs (.int ((2 ^ n : Nat) : Int)) :=
  OpV.bin hx hy (by
    have h1 : 2 ^ n ≤ 2 ^ 62 := Nat.pow_le_pow_right (by omega) hn
    have e : ¬ ((n : Int) < 0) := by omega
    rw [binOp_shl]
    simp only [Op.shift, IntKind.bits, e, if_false]
    have e2 : (1 : Int) * 2 ^ n = ((2 ^ n : Nat) : Int) := by rw [Int.one_mul]; push_cast; rfl
    rw [show min ((n : Int).toNat) 64 = n by omega, e2]
    generalize 2 ^ n = N at *
    rw [wrap_i64 (by omega)])
theorem OpV.shlU {P : Program} {Γ : Ctx} {env : Env} {cs : List Chunk} {ty T T2 : TypeId} {x y : Operand} {n : Nat} (hx : ev env x = some (.raw (.int .u64 1))) (hy : ev env y = some (.int n)) (hn : n ≤ 62) : OpV P Γ (.binOp .shl T x y T2) ty env cs (.raw (.int .u64 ((2 ^ n : Nat) : Int))) := by
  have hb : binOp .shl T (.int .u64 1) (.int .i64 (n : Int)) = pure (.int .u64 ((2 ^ n : Nat) : Int)) := by
    have h1 : 2 ^ n ≤ 2 ^ 62 := Nat.pow_le_pow_right (by omega) hn
    have e : ¬ ((n : Int) < 0) := by omega
    rw [binOp_shl]
    simp only [Op.shift, IntKind.bits, e, if_false]
    have e2 : (1 : Int) * 2 ^ n = ((2 ^ n : Nat) : Int) := by rw [Int.one_mul]; push_cast; rfl
    rw [show min ((n : Int).toNat) 64 = n by omega, e2]
    generalize 2 ^ n = N at *
    rw [wrap_u64 (by omega)]
  unfold OpV
  intro a w d
  have h1 := rd_raw (d.ev hx)
  have h2 := rd_raw (d.ev hy)
  exact ⟨_, by simp [execOp, h1, h2, hb, eqGuard], raw_self _⟩
/-! ### the program's rows -/
def headN (n i : Nat) : List Int := (List.range (n + 2)).map fun j => if j < i then (bin (n + 1) j : Int) else if j ≤ n then (bin n j : Int) else 1
theorem headN_len (n i : Nat) : (headN n i).length = n + 2 := by simp [headN]
theorem headN_at {n i j : Nat} (h : j ≤ n + 1) : (headN n i)[j]? = some (if j < i then (bin (n + 1) j : Int) else if j ≤ n then (bin n j : Int) else 1) := by
  unfold headN
  rw [List.getElem?_map, List.getElem?_range (by omega)]
  rfl
theorem rowP_out {n i : Nat} (h : n < i) : (rowP n)[i]? = none := List.getElem?_eq_none (by rw [rowP_len]; omega)
theorem headN_start (n : Nat) : rowP n ++ [1] = headN n 1 := by
  apply List.ext_getElem?
  intro j
  by_cases h1 : j ≤ n
  · rw [List.getElem?_append_left (by rw [rowP_len]; omega), rowP_at h1, headN_at (by omega), if_pos h1]
    split
    · rename_i h
      rw [show j = 0 by omega, bin_zero, bin_zero]
    · rfl
  · by_cases h2 : j = n + 1
    · subst h2
      rw [List.getElem?_append_right (by rw [rowP_len]; omega), rowP_len, headN_at (by omega), if_neg (by omega), if_neg (by omega), Nat.sub_self]
      rfl
    · rw [List.getElem?_eq_none (by rw [List.length_append, rowP_len]; simp; omega), List.getElem?_eq_none (by rw [headN_len]; omega)]
theorem headN_end (n : Nat) : headN n (n + 1) = rowP (n + 1) := by
  apply List.ext_getElem?
  intro j
  by_cases h1 : j ≤ n + 1
  · rw [headN_at h1, rowP_at h1]
    split
    · rfl
    · rw [show j = n + 1 by omega, if_neg (by omega), bin_self]
      rfl
  · rw [rowP_out (by omega), List.getElem?_eq_none (by rw [headN_len]; omega)]
theorem headN_next {n i : Nat} (h1 : 1 ≤ i) (h2 : i ≤ n) : (headN n i).set i ((bin n (i - 1) : Nat) + (bin n i : Nat) : Int) = headN n (i + 1) := by
  apply List.ext_getElem?
  intro j
  by_cases h3 : j = i
  · subst h3
    rw [List.getElem?_set_self (by rw [headN_len]; omega), headN_at (by omega), if_pos (by omega), row_next h1 h2]
  · rw [List.getElem?_set_ne (fun h => h3 h.symm)]
    by_cases h4 : j ≤ n + 1
    · rw [headN_at h4, headN_at h4]
      by_cases h5 : j < i
      · rw [if_pos h5, if_pos (by omega)]
      · rw [if_neg h5, if_neg (show ¬ j < i + 1 by omega)]
    · rw [List.getElem?_eq_none (by rw [headN_len]; omega), List.getElem?_eq_none (by rw [headN_len]; omega)]
theorem bin_bd (n j : Nat) (h : n ≤ 60) : 0 ≤ ((bin n j : Nat) : Int) ∧ ((bin n j : Nat) : Int) ≤ 1152921504606846976 := by
  have h1 := bin_le n j
  have h2 : 2 ^ n ≤ 2 ^ 60 := Nat.pow_le_pow_right (by omega) h
  omega
theorem rowP_tail_bd {n k : Nat} (hn : n ≤ 60) (hk : k ≤ n + 1) (i : Nat) : 0 ≤ sumQ (((rowP n).drop k).take i) ∧ sumQ (((rowP n).drop k).take i) ≤ 1152921504606846976 := by
  have nn : ∀ x ∈ (rowP n).drop k, 0 ≤ x := fun x hx => by
    have := List.mem_of_mem_drop hx
    unfold rowP at this
    obtain ⟨i, _, rfl⟩ := List.mem_map.1 this
    omega
  have h1 := sumQ_app (((rowP n).drop k).take i) (((rowP n).drop k).drop i)
  rw [List.take_append_drop] at h1
  have h2 := sumQ_nn (l := ((rowP n).drop k).take i) (fun x hx => nn x (List.mem_of_mem_take hx))
  have h3 := sumQ_nn (l := ((rowP n).drop k).drop i) (fun x hx => nn x (List.mem_of_mem_drop hx))
  have h4 := headsP_bd hk
  unfold headsP at h4
  have h5 : 2 ^ n ≤ 2 ^ 60 := Nat.pow_le_pow_right (by omega) hn
  omega
theorem headsP_le {n k : Nat} (hn : n ≤ 60) (hk : k ≤ n + 1) : 0 ≤ headsP n k ∧ headsP n k ≤ 1152921504606846976 := by
  have h4 := headsP_bd hk
  have h5 : 2 ^ n ≤ 2 ^ 60 := Nat.pow_le_pow_right (by omega) hn
  omega
/-- a copy of its own -/
theorem clone_int (rows : List (List Tr)) (hk : ∀ r ∈ rows, r.length = 1) (hl : rows.length ≤ 1000000) : PFnO Tryz.prog 41 [.sl 1 rows] 1 3 (· = rows) := by
  unfold PFnO
  refine Spec.body Tryz.func41 rfl rfl (Tryz.ntmps41) rfl fun w0 own0 M => ?_
  repeat' (first | refine goH ?_ | ((fail_if_success refine Ops.k_b_eql ?_); (fail_if_success refine Ops.k_buildSlice ?_); refine goV ?_) | ((fail_if_success refine Ops.k_b_eql ?_); (fail_if_success refine Ops.k_buildSlice ?_); refine goC (fun ad cap => ?_)) | refine goI ?_ | (refine Cw.k_cond ?_; first | (refine Cw.cond_dec rfl (fun hc => ?_) (fun hc => ?_) <;> try (exfalso; omega)) | refine Cw.cond_bool rfl (fun hc => ?_) (fun hc => ?_)) | fail)
  refine Ops.eql_nilS rfl rfl (fun b hb => ?_)
  cases b
  · repeat' (first | refine goH ?_ | ((fail_if_success refine Ops.k_buildSlice ?_); refine goV ?_) | ((fail_if_success refine Ops.k_buildSlice ?_); refine goC (fun ad cap => ?_)) | refine goI ?_ | (refine Cw.k_cond ?_; first | (refine Cw.cond_dec rfl (fun hc => ?_) (fun hc => ?_) <;> try (exfalso; omega)) | refine Cw.cond_bool rfl (fun hc => ?_) (fun hc => ?_)) | fail)
    refine Ops.buildSlice_own (by exact Parts.nil) rfl rfl rfl (fun ad cap => ?_)
    repeat' (first | refine goH ?_ | refine goV ?_ | refine goC (fun ad cap => ?_) | refine goI ?_ | (refine Cw.k_cond ?_; first | (refine Cw.cond_dec rfl (fun hc => ?_) (fun hc => ?_) <;> try (exfalso; omega)) | refine Cw.cond_bool rfl (fun hc => ?_) (fun hc => ?_)) | fail)
    exact Fin.ret (Ent.take goTk) (Outs.one rfl rfl) ⟨_, _, _, rfl, rfl, rfl⟩
  · have hr := hb rfl
    subst hr
    repeat' (first | refine goH ?_ | refine goV ?_ | refine goC (fun ad cap => ?_) | refine goI ?_ | (refine Cw.k_cond ?_; first | (refine Cw.cond_dec rfl (fun hc => ?_) (fun hc => ?_) <;> try (exfalso; omega)) | refine Cw.cond_bool rfl (fun hc => ?_) (fun hc => ?_)) | fail)
    exact Fin.ret (Ent.trans (Ent.nil 1 3) (Ent.take goTk)) (Outs.one rfl rfl) ⟨none, 0, [], rfl, rfl, rfl⟩

theorem intRows_kB (l : List Int) : ∀ r ∈ intRows l, r.length = 1 := by
  intro r hr
  unfold intRows at hr
  obtain ⟨x, _, rfl⟩ := List.mem_map.1 hr
  rfl
theorem intRows_set (l : List Int) (i : Nat) (x : Int) : (intRows l).set i [Tr.int x] = intRows (l.set i x) := by unfold intRows; rw [List.map_set]
theorem intRows_dropB (l : List Int) (k : Nat) : (intRows l).drop k = intRows (l.drop k) := by unfold intRows; rw [List.map_drop]
attribute [local irreducible] rowP headN bin
theorem heads_fn (n k : Nat) (hn : n ≤ 60) (hk : k ≤ n) : PFn Tryz.prog 26 [.int n, .int k] (· = .int (headsP n k)) := by
  refine PFn.mk (Spec.body Tryz.func26 rfl rfl (Tryz.ntmps26) rfl fun w0 own0 M => ?_)
  repeat' (first | refine goH ?_ | refine goV ?_ | refine goC (fun ad cap => ?_) | refine goI ?_ | (refine Cw.k_cond ?_; first | (refine Cw.cond_dec rfl (fun hc => ?_) (fun hc => ?_) <;> try (exfalso; omega)) | refine Cw.cond_bool rfl (fun hc => ?_) (fun hc => ?_)) | refine goR ?_ | refine goP ?_ | apply PSeq.cons | apply PSeq.yes rfl rfl rfl | exact goW | fail)
  refine Cw.loopI [(1, _), (12, _)] _ (fun q e c => ∃ (i : Nat) (R : List (List Tr)), q = n - i ∧ (i ≤ n ∧ R = intRows (rowP i)) ∧ e = [(5, .sl 1 R), (13, .int i)] ∧ c = [])
    ⟨_, _, _, (Ent.mkP goSub goPm), 0, [[.int 1]], rfl, ⟨by omega, by unfold rowP bin; rfl⟩, rfl, rfl⟩ ?_
  rintro _ _ _ ⟨i, R, rfl, ⟨hi, hR⟩, rfl, rfl⟩
  have hRl : R.length = i + 1 := by rw [hR, intRows_len, rowP_len]
  by_cases hin : i < n
  · have k1 := clone_int R (by rw [hR]; exact intRows_kB _) (by omega)
    unfold PFnO at k1
    obtain ⟨W0, hW0⟩ : ∃ W0, W0 = R ++ [[Tr.int 1]] := ⟨_, rfl⟩
    have hW1 : W0 = intRows (headN i 1) := by rw [hW0, hR, intRows_snocB, headN_start]
    have hWl : W0.length = i + 2 := by rw [hW0, List.length_append, hRl]; rfl
    repeat' (first | refine goH ?_ | refine goV ?_ | refine goC (fun ad cap => ?_) | refine goI ?_ | (refine Cw.k_cond ?_; first | (refine Cw.cond_dec rfl (fun hc => ?_) (fun hc => ?_) <;> try (exfalso; omega)) | refine Cw.cond_bool rfl (fun hc => ?_) (fun hc => ?_)) | (refine Ops.k_calla ?_; first | (refine Ops.k_callf 41 ?_; (refine Ops.call k1 (Evs.cons rfl Evs.nil) (List.Perm.refl _) rfl ?_; rintro r cs' ⟨ad, cap, rows, rfl, rfl, rfl⟩))) | refine goR ?_ | refine goP ?_ | apply PSeq.cons | apply PSeq.yes rfl rfl rfl | exact goW | fail)
    rw [← hW0]
    have hRW : rows.length + 1 = W0.length := by omega
    try rw [hRW]
    refine Cw.loopI [(1, _), (5, _), (12, _), (13, _)] _ (fun q e c => ∃ (j : Nat) (W : List (List Tr)) (m : Nat), q = i + 1 - j ∧ (1 ≤ j ∧ j ≤ i + 1 ∧ W = intRows (headN i j) ∧ W.length = m) ∧ e = [(6, Tr.raw (.slice ad m cap)), (7, .int j)] ∧ c = [Chunk.own ad cap 1 3 W])
      ⟨_, _, _, (Ent.mkP goSub goPm), 1, W0, _, rfl, ⟨by omega, by omega, hW1, rfl⟩, rfl, rfl⟩ ?_
    clear hW1 hW0 hWl hRW W0
    rintro _ _ _ ⟨j, W, m, rfl, ⟨hj1, hj, hW, hm⟩, rfl, rfl⟩
    have hWl : W.length = i + 2 := by rw [hW, intRows_len, headN_len]
    by_cases hji : j < i + 1
    · have q1 : rows[((j : Int) - 1).toNat]? = some [Tr.int (bin i (j - 1) : Nat)] := by rw [hR, show ((j : Int) - 1).toNat = j - 1 by omega]; exact intRows_at (rowP_at (by omega))
      have q2 : rows[((j : Nat) : Int).toNat]? = some [Tr.int (bin i j : Nat)] := by rw [hR, Int.toNat_natCast]; exact intRows_at (rowP_at (by omega))
      have q3 : W[((j : Nat) : Int).toNat]? = some [Tr.int (bin i j : Nat)] := by rw [hW, Int.toNat_natCast]; refine intRows_at ?_; rw [headN_at (by omega), if_neg (by omega), if_pos (by omega)]
      have hb1 := bin_bd i (j - 1) (by omega)
      have hb2 := bin_bd i j (by omega)
      have hs : W.set j [Tr.int ((bin i (j - 1) : Nat) + (bin i j : Nat))] = intRows (headN i (j + 1)) := by rw [hW, intRows_set, headN_next hj1 (by omega)]
      generalize ((bin i (j - 1) : Nat) : Int) = u at *
      generalize ((bin i j : Nat) : Int) = v at *
      clear hW
      repeat' (first | refine goH ?_ | refine goV ?_ | refine goC (fun ad cap => ?_) | refine goI ?_ | (refine Cw.k_cond ?_; first | (refine Cw.cond_dec rfl (fun hc => ?_) (fun hc => ?_) <;> try (exfalso; omega)) | refine Cw.cond_bool rfl (fun hc => ?_) (fun hc => ?_)) | refine goR ?_ | refine goP ?_ | apply PSeq.cons | apply PSeq.yes rfl rfl rfl | exact goW | fail)
      exact ⟨_, _, _, (Ent.mk goSub goTk), ⟨j + 1, _, m, rfl, ⟨by omega, by omega, hs, by rw [List.length_set]; exact hm⟩, rfl, rfl⟩, by omega⟩
    · have hje : j = i + 1 := by omega
      subst hje
      rw [headN_end] at hW
      subst hm
      repeat' (first | refine goH ?_ | refine goV ?_ | refine goC (fun ad cap => ?_) | refine goI ?_ | (refine Cw.k_cond ?_; first | (refine Cw.cond_dec rfl (fun hc => ?_) (fun hc => ?_) <;> try (exfalso; omega)) | refine Cw.cond_bool rfl (fun hc => ?_) (fun hc => ?_)) | refine goR ?_ | refine goP ?_ | apply PSeq.cons | apply PSeq.yes rfl rfl rfl | exact goW | fail)
      exact ⟨_, _, _, Ent.trans (Ent.settle (s := 5) rfl goPk rfl) (Ent.mk goSub goTk), ⟨i + 1, _, rfl, ⟨by omega, hW⟩, rfl, rfl⟩, by omega⟩
  · have hie : i = n := by omega
    subst hie
    have hD : R.drop k = intRows ((rowP i).drop k) := by rw [hR, intRows_dropB]
    have hb := rowP_tail_bd hn (k := k) (by omega)
    rw [show headsP i k = sumQ ((rowP i).drop k) from rfl]
    have hDl : ((rowP i).drop k).length ≤ 61 := by rw [List.length_drop, rowP_len]; omega
    repeat' (first | refine goH ?_ | refine goV ?_ | refine goC (fun ad cap => ?_) | refine goI ?_ | (refine Cw.k_cond ?_; first | (refine Cw.cond_dec rfl (fun hc => ?_) (fun hc => ?_) <;> try (exfalso; omega)) | refine Cw.cond_bool rfl (fun hc => ?_) (fun hc => ?_)) | refine goR ?_ | refine goP ?_ | apply PSeq.cons | apply PSeq.yes rfl rfl rfl | exact goW | fail)
    rw [Int.toNat_natCast, hD]
    clear hD hR hRl
    generalize (rowP i).drop k = D at *
    have hL := intRows_len D
    refine Cw.loopI [(42, _), (43, _)] _ (fun q e cc => ∃ (k : Nat) (z : Int), q = D.length - k ∧ (k ≤ D.length ∧ z = sumQ (D.take k)) ∧ e = [(8, .int z), (44, .int k)] ∧ cc = []) ⟨_, _, _, (Ent.mkP goSub goPm), 0, 0, rfl, ⟨by omega, rfl⟩, rfl, rfl⟩ ?_
    rintro _ _ _ ⟨k, z, rfl, ⟨hk, hz⟩, rfl, rfl⟩
    by_cases hkl : k < D.length
    · obtain ⟨x, hx⟩ := at_lt hkl
      have r1 : (intRows D)[k]? = some [Tr.int x] := intRows_at hx
      have hn := sumQ_take hx
      have h1 := hb (k + 1)
      rw [hn] at h1
      rw [← hz] at hn h1
      clear hx hz
      repeat' (first | refine goH ?_ | refine goV ?_ | refine goC (fun ad cap => ?_) | refine goI ?_ | (refine Cw.k_cond ?_; first | (refine Cw.cond_dec rfl (fun hc => ?_) (fun hc => ?_) <;> try (exfalso; omega)) | refine Cw.cond_bool rfl (fun hc => ?_) (fun hc => ?_)) | refine goR ?_ | refine goP ?_ | apply PSeq.cons | apply PSeq.yes rfl rfl rfl | exact goW | fail)
      exact ⟨_, _, _, (Ent.mk goSub goTk), ⟨k + 1, _, rfl, ⟨by omega, hn.symm⟩, rfl, rfl⟩, by omega⟩
    · rw [List.take_of_length_le (by omega)] at hz
      subst hz
      repeat' (first | refine goH ?_ | refine goV ?_ | refine goC (fun ad cap => ?_) | refine goI ?_ | (refine Cw.k_cond ?_; first | (refine Cw.cond_dec rfl (fun hc => ?_) (fun hc => ?_) <;> try (exfalso; omega)) | refine Cw.cond_bool rfl (fun hc => ?_) (fun hc => ?_)) | refine goR ?_ | refine goP ?_ | apply PSeq.cons | apply PSeq.yes rfl rfl rfl | exact goW | fail)
      exact Fin.ret (Ent.take goTk) (Outs.one rfl rfl) ⟨rfl, rfl⟩
/-! ### how likely it is -/
def chB (n k : Int) : Bool := decide (n < 0 ∨ 60 < n ∨ k < 0 ∨ n < k)
def chT (n k : Int) : Tr := if chB n k = true then .tup [.agg [.int 0, .int 0], .int 1] else .tup [.agg (frac (headsP n.toNat k.toNat) ((2 ^ n.toNat : Nat) : Int)).row, .int 0]
theorem chB_f {n k : Int} (h : ¬ chB n k = true) : ∃ a b : Nat, n = a ∧ k = b ∧ a ≤ 60 ∧ b ≤ a := by
  unfold chB at h
  rw [decide_eq_true_iff] at h
  exact ⟨n.toNat, k.toNat, by omega, by omega, by omega, by omega⟩
theorem pow2_bd {n : Nat} (h : n ≤ 60) : 1 ≤ ((2 ^ n : Nat) : Int) ∧ ((2 ^ n : Nat) : Int) ≤ 1152921504606846976 := by
  have h2 : 2 ^ n ≤ 2 ^ 60 := Nat.pow_le_pow_right (by omega) h
  have h3 : 1 ≤ 2 ^ n := Nat.one_le_two_pow
  omega
theorem chance_fn (n k : Int) : PFn Tryz.prog 8 [.int n, .int k] (· = chT n k) := by
  have k1 := out_fn n 0 60
  have k2 := out_fn k 0 n
  unfold chT
  by_cases h : chB n k = true
  · rw [if_pos h]
    unfold chB at h
    rw [decide_eq_true_iff] at h
    by_cases h1 : n < 0 ∨ 60 < n
    · rw [show outB n 0 60 = true by simp [outB]; omega] at k1
      refine PFn.mk (Spec.body Tryz.func8 rfl rfl (Tryz.ntmps8) rfl fun w0 own0 M => ?_)
      repeat' (first | refine goH ?_ | refine goV ?_ | refine goB (fun b => ?_) | refine goG ?_ | (refine Ops.k_guard ?_; first | (refine Ops.guard_dec rfl rfl (fun hc => ?_) (fun hc => ?_) <;> try (exfalso; omega)) | refine Ops.guard_split rfl rfl (fun hc => ?_) (fun hc => ?_)) | refine goI ?_ | (refine Cw.k_cond ?_; first | (refine Cw.cond_dec rfl (fun hc => ?_) (fun hc => ?_) <;> try (exfalso; omega)) | refine Cw.cond_bool rfl (fun hc => ?_) (fun hc => ?_)) | (refine Ops.k_calla ?_; first | (refine Ops.k_callf 24 ?_; refine Ops.callV k1 (Evs.cons rfl (Evs.cons rfl (Evs.cons rfl Evs.nil))) rfl ?_) | (refine Ops.k_callf 24 ?_; refine Ops.callV k2 (Evs.cons rfl (Evs.cons rfl (Evs.cons rfl Evs.nil))) rfl ?_)) | (apply OpW.k_call; first | (apply OpW.k_callf 24; exact OpW.callV k1 (Evs.cons rfl (Evs.cons rfl (Evs.cons rfl Evs.nil)))) | (apply OpW.k_callf 24; exact OpW.callV k2 (Evs.cons rfl (Evs.cons rfl (Evs.cons rfl Evs.nil))))) | refine goR ?_ | refine goP ?_ | apply PSeq.cons | apply PSeq.yes rfl rfl rfl | exact goW | fail)
      refine Fin.ret (Ent.trans (Ent.setbox (s := 4) rfl goPk) (Ent.take goTk)) (Outs.many rfl (OutL.cons goOe (OutL.cons goOe OutL.nil)) rfl) ⟨rfl, rfl⟩
    · rw [show outB n 0 60 = false by simp [outB]; omega] at k1
      rw [show outB k 0 n = true by simp [outB]; omega] at k2
      refine PFn.mk (Spec.body Tryz.func8 rfl rfl (Tryz.ntmps8) rfl fun w0 own0 M => ?_)
      repeat' (first | refine goH ?_ | refine goV ?_ | refine goB (fun b => ?_) | refine goG ?_ | (refine Ops.k_guard ?_; first | (refine Ops.guard_dec rfl rfl (fun hc => ?_) (fun hc => ?_) <;> try (exfalso; omega)) | refine Ops.guard_split rfl rfl (fun hc => ?_) (fun hc => ?_)) | refine goI ?_ | (refine Cw.k_cond ?_; first | (refine Cw.cond_dec rfl (fun hc => ?_) (fun hc => ?_) <;> try (exfalso; omega)) | refine Cw.cond_bool rfl (fun hc => ?_) (fun hc => ?_)) | (refine Ops.k_calla ?_; first | (refine Ops.k_callf 24 ?_; refine Ops.callV k1 (Evs.cons rfl (Evs.cons rfl (Evs.cons rfl Evs.nil))) rfl ?_) | (refine Ops.k_callf 24 ?_; refine Ops.callV k2 (Evs.cons rfl (Evs.cons rfl (Evs.cons rfl Evs.nil))) rfl ?_)) | (apply OpW.k_call; first | (apply OpW.k_callf 24; exact OpW.callV k1 (Evs.cons rfl (Evs.cons rfl (Evs.cons rfl Evs.nil)))) | (apply OpW.k_callf 24; exact OpW.callV k2 (Evs.cons rfl (Evs.cons rfl (Evs.cons rfl Evs.nil))))) | refine goR ?_ | refine goP ?_ | apply PSeq.cons | apply PSeq.yes rfl rfl rfl | exact goW | fail)
      refine Fin.ret (Ent.trans (Ent.setbox (s := 4) rfl goPk) (Ent.take goTk)) (Outs.many rfl (OutL.cons goOe (OutL.cons goOe OutL.nil)) rfl) ⟨rfl, rfl⟩
  rw [if_neg h]
  obtain ⟨a, b, rfl, rfl, ha, hb⟩ := chB_f h
  rw [show outB (a : Int) 0 60 = false by simp [outB]; omega] at k1
  rw [show outB (b : Int) 0 a = false by simp [outB]; omega] at k2
  have k3 := heads_fn a b ha hb
  have hh := headsP_le ha (k := b) (by omega)
  have hp := pow2_bd ha
  rw [Int.toNat_natCast, Int.toNat_natCast]
  generalize headsP a b = H at *
  have k4 := fraction_fn H ((2 ^ a : Nat) : Int) (by omega) (by omega)
  have kS : ∀ (Γ : Ctx) (env : Env) (cs : List Chunk) (ty T T2 : TypeId) (x y : Operand), ev env x = some (.raw (.int .i64 1)) → ev env y = some (.int a) → OpV Tryz.prog Γ (.binOp .shl T x y T2) ty env cs (.int ((2 ^ a : Nat) : Int)) := fun _ _ _ _ _ _ _ _ h1 h2 => OpV.shlI h1 h2 (by omega)
  generalize ((2 ^ a : Nat) : Int) = P at *
  clear h
  unfold Frac.row at k4 ⊢
  generalize frac H P = f at *
  obtain ⟨fn, fd⟩ := f
  refine PFn.mk (Spec.body Tryz.func8 rfl rfl (Tryz.ntmps8) rfl fun w0 own0 M => ?_)
  repeat' (first | refine goH ?_ | refine goV ?_ | refine goB (fun b => ?_) | refine goG ?_ | (refine Ops.k_guard ?_; first | (refine Ops.guard_dec rfl rfl (fun hc => ?_) (fun hc => ?_) <;> try (exfalso; omega)) | refine Ops.guard_split rfl rfl (fun hc => ?_) (fun hc => ?_)) | refine goI ?_ | (refine Cw.k_cond ?_; first | (refine Cw.cond_dec rfl (fun hc => ?_) (fun hc => ?_) <;> try (exfalso; omega)) | refine Cw.cond_bool rfl (fun hc => ?_) (fun hc => ?_)) | exact OpV.w (kS _ _ _ _ _ _ _ _ rfl rfl) | (refine Ops.k_calla ?_; first | (refine Ops.k_callf 24 ?_; refine Ops.callV k1 (Evs.cons rfl (Evs.cons rfl (Evs.cons rfl Evs.nil))) rfl ?_) | (refine Ops.k_callf 24 ?_; refine Ops.callV k2 (Evs.cons rfl (Evs.cons rfl (Evs.cons rfl Evs.nil))) rfl ?_) | (refine Ops.k_callf 26 ?_; refine Ops.callV k3 (Evs.cons rfl (Evs.cons rfl Evs.nil)) rfl ?_) | (refine Ops.k_callf 25 ?_; refine Ops.callV k4 (Evs.cons rfl (Evs.cons rfl Evs.nil)) rfl ?_)) | (apply OpW.k_call; first | (apply OpW.k_callf 24; exact OpW.callV k1 (Evs.cons rfl (Evs.cons rfl (Evs.cons rfl Evs.nil)))) | (apply OpW.k_callf 24; exact OpW.callV k2 (Evs.cons rfl (Evs.cons rfl (Evs.cons rfl Evs.nil)))) | (apply OpW.k_callf 26; exact OpW.callV k3 (Evs.cons rfl (Evs.cons rfl Evs.nil))) | (apply OpW.k_callf 25; exact OpW.callV k4 (Evs.cons rfl (Evs.cons rfl Evs.nil)))) | refine goR ?_ | refine goP ?_ | apply PSeq.cons | apply PSeq.yes rfl rfl rfl | exact goW | fail)
  refine Fin.ret (Ent.trans (Ent.setbox (s := 4) rfl goPk) (Ent.take goTk)) (Outs.many rfl (OutL.cons goOe (OutL.cons goOe OutL.nil)) rfl) ⟨rfl, rfl⟩
/-! ### the reference's rows -/
def binP (n i : Nat) : Nat := if i = 0 then 0 else bin n (i - 1)
theorem binP_next (n i : Nat) : (binP n i : Int) + (bin n i : Nat) = (bin (n + 1) i : Nat) := by
  unfold binP
  by_cases h : i = 0
  · subst h
    rw [bin_zero, bin_zero]
    rfl
  · rw [if_neg h]
    by_cases h2 : i ≤ n
    · exact row_next (by omega) h2
    · obtain ⟨j, rfl⟩ : ∃ j, i = j + 1 := ⟨i - 1, by omega⟩
      rw [bin_big n (j + 1) (by omega)]
      by_cases h3 : j = n
      · subst h3
        rw [bin_self, show j + 1 - 1 = j by omega, bin_self]
        rfl
      · rw [bin_big n (j + 1 - 1) (by omega), bin_big (n + 1) (j + 1) (by omega)]
        rfl
def midN (n i : Nat) : List Int := (List.range (n + 2)).map fun j => if j < i then (bin (n + 1) j : Int) else if j = i then (binP n i : Int) else 0
theorem midN_len (n i : Nat) : (midN n i).length = n + 2 := by simp [midN]
theorem midN_at {n i j : Nat} (h : j ≤ n + 1) : (midN n i)[j]? = some (if j < i then (bin (n + 1) j : Int) else if j = i then (binP n i : Int) else 0) := by
  unfold midN
  rw [List.getElem?_map, List.getElem?_range (by omega)]
  rfl
theorem midN_start (n : Nat) : List.replicate (n + 2) 0 = midN n 0 := by
  apply List.ext_getElem?
  intro j
  by_cases h : j ≤ n + 1
  · rw [midN_at h, List.getElem?_replicate, if_pos (by omega), if_neg (by omega)]
    unfold binP
    split
    · rfl
    · rfl
  · rw [List.getElem?_eq_none (by simp; omega), List.getElem?_eq_none (by rw [midN_len]; omega)]
theorem midN_end (n : Nat) : midN n (n + 1) = rowP (n + 1) := by
  apply List.ext_getElem?
  intro j
  by_cases h1 : j ≤ n + 1
  · rw [midN_at h1, rowP_at h1]
    split
    · rfl
    · rw [show j = n + 1 by omega, if_pos rfl, bin_self]
      unfold binP
      rw [if_neg (by omega), show n + 1 - 1 = n by omega, bin_self]
  · rw [rowP_out (by omega), List.getElem?_eq_none (by rw [midN_len]; omega)]
theorem midN_next {n i : Nat} (h : i ≤ n) : ((midN n i).set i (bin (n + 1) i : Int)).set (i + 1) (bin n i : Int) = midN n (i + 1) := by
  apply List.ext_getElem?
  intro j
  by_cases h4 : j ≤ n + 1
  · by_cases h3 : j = i + 1
    · subst h3
      rw [List.getElem?_set_self (by rw [List.length_set, midN_len]; omega), midN_at h4, if_neg (by omega), if_pos rfl]
      unfold binP
      rw [if_neg (by omega), show i + 1 - 1 = i by omega]
    · rw [List.getElem?_set_ne (fun h => h3 h.symm)]
      by_cases h5 : j = i
      · subst h5
        rw [List.getElem?_set_self (by rw [midN_len]; omega), midN_at h4, if_pos (by omega)]
      · rw [List.getElem?_set_ne (fun h => h5 h.symm), midN_at h4, midN_at h4]
        by_cases h6 : j < i
        · rw [if_pos h6, if_pos (show j < i + 1 by omega)]
        · rw [if_neg h6, if_neg h5, if_neg (show ¬ j < i + 1 by omega), if_neg h3]
  · rw [List.getElem?_eq_none (by rw [List.length_set, List.length_set, midN_len]; omega), List.getElem?_eq_none (by rw [midN_len]; omega)]
theorem ints_repB (n : Nat) : List.replicate n [Tr.int 0] = intRows (List.replicate n 0) := by unfold intRows; rw [List.map_replicate]
attribute [local irreducible] midN
theorem chanceOf_fn (n k : Int) : PFn Tryz.prog 9 [.int n, .int k] (· = chT n k) := by
  unfold chT
  by_cases h : chB n k = true
  · rw [if_pos h]
    unfold chB at h
    rw [decide_eq_true_iff] at h
    by_cases h1 : n < 0
    · refine PFn.mk (Spec.body Tryz.func9 rfl rfl (Tryz.ntmps9) rfl fun w0 own0 M => ?_)
      repeat' (first | refine goH ?_ | refine goV ?_ | refine goB (fun b => ?_) | refine goC (fun ad cap => ?_) | refine goG ?_ | (refine Ops.k_guard ?_; first | (refine Ops.guard_dec rfl rfl (fun hc => ?_) (fun hc => ?_) <;> try (exfalso; omega)) | refine Ops.guard_split rfl rfl (fun hc => ?_) (fun hc => ?_)) | refine goI ?_ | (refine Cw.k_cond ?_; first | (refine Cw.cond_dec rfl (fun hc => ?_) (fun hc => ?_) <;> try (exfalso; omega)) | refine Cw.cond_bool rfl (fun hc => ?_) (fun hc => ?_)) | refine goR ?_ | refine goP ?_ | apply PSeq.cons | apply PSeq.yes rfl rfl rfl | exact goW | fail)
      refine Fin.ret (Ent.trans (Ent.setbox (s := 4) rfl goPk) (Ent.take goTk)) (Outs.many rfl (OutL.cons goOe (OutL.cons goOe OutL.nil)) rfl) ⟨rfl, rfl⟩
    by_cases h2 : 60 < n
    · refine PFn.mk (Spec.body Tryz.func9 rfl rfl (Tryz.ntmps9) rfl fun w0 own0 M => ?_)
      repeat' (first | refine goH ?_ | refine goV ?_ | refine goB (fun b => ?_) | refine goC (fun ad cap => ?_) | refine goG ?_ | (refine Ops.k_guard ?_; first | (refine Ops.guard_dec rfl rfl (fun hc => ?_) (fun hc => ?_) <;> try (exfalso; omega)) | refine Ops.guard_split rfl rfl (fun hc => ?_) (fun hc => ?_)) | refine goI ?_ | (refine Cw.k_cond ?_; first | (refine Cw.cond_dec rfl (fun hc => ?_) (fun hc => ?_) <;> try (exfalso; omega)) | refine Cw.cond_bool rfl (fun hc => ?_) (fun hc => ?_)) | refine goR ?_ | refine goP ?_ | apply PSeq.cons | apply PSeq.yes rfl rfl rfl | exact goW | fail)
      refine Fin.ret (Ent.trans (Ent.setbox (s := 4) rfl goPk) (Ent.take goTk)) (Outs.many rfl (OutL.cons goOe (OutL.cons goOe OutL.nil)) rfl) ⟨rfl, rfl⟩
    by_cases h3 : k < 0
    · refine PFn.mk (Spec.body Tryz.func9 rfl rfl (Tryz.ntmps9) rfl fun w0 own0 M => ?_)
      repeat' (first | refine goH ?_ | refine goV ?_ | refine goB (fun b => ?_) | refine goC (fun ad cap => ?_) | refine goG ?_ | (refine Ops.k_guard ?_; first | (refine Ops.guard_dec rfl rfl (fun hc => ?_) (fun hc => ?_) <;> try (exfalso; omega)) | refine Ops.guard_split rfl rfl (fun hc => ?_) (fun hc => ?_)) | refine goI ?_ | (refine Cw.k_cond ?_; first | (refine Cw.cond_dec rfl (fun hc => ?_) (fun hc => ?_) <;> try (exfalso; omega)) | refine Cw.cond_bool rfl (fun hc => ?_) (fun hc => ?_)) | refine goR ?_ | refine goP ?_ | apply PSeq.cons | apply PSeq.yes rfl rfl rfl | exact goW | fail)
      refine Fin.ret (Ent.trans (Ent.setbox (s := 4) rfl goPk) (Ent.take goTk)) (Outs.many rfl (OutL.cons goOe (OutL.cons goOe OutL.nil)) rfl) ⟨rfl, rfl⟩
    · have h4 : n < k := by omega
      refine PFn.mk (Spec.body Tryz.func9 rfl rfl (Tryz.ntmps9) rfl fun w0 own0 M => ?_)
      repeat' (first | refine goH ?_ | refine goV ?_ | refine goB (fun b => ?_) | refine goC (fun ad cap => ?_) | refine goG ?_ | (refine Ops.k_guard ?_; first | (refine Ops.guard_dec rfl rfl (fun hc => ?_) (fun hc => ?_) <;> try (exfalso; omega)) | refine Ops.guard_split rfl rfl (fun hc => ?_) (fun hc => ?_)) | refine goI ?_ | (refine Cw.k_cond ?_; first | (refine Cw.cond_dec rfl (fun hc => ?_) (fun hc => ?_) <;> try (exfalso; omega)) | refine Cw.cond_bool rfl (fun hc => ?_) (fun hc => ?_)) | refine goR ?_ | refine goP ?_ | apply PSeq.cons | apply PSeq.yes rfl rfl rfl | exact goW | fail)
      refine Fin.ret (Ent.trans (Ent.setbox (s := 4) rfl goPk) (Ent.take goTk)) (Outs.many rfl (OutL.cons goOe (OutL.cons goOe OutL.nil)) rfl) ⟨rfl, rfl⟩
  rw [if_neg h]
  obtain ⟨a, y, rfl, rfl, ha, hb⟩ := chB_f h
  have hh := headsP_le ha (k := y) (by omega)
  have hp := pow2_bd ha
  rw [Int.toNat_natCast, Int.toNat_natCast]
  have k3 := sumQ_fn ((rowP a).drop y) (by rw [List.length_drop, rowP_len]; omega) (fun i => by have := rowP_tail_bd ha (k := y) (by omega) i; omega)
  rw [show sumQ ((rowP a).drop y) = headsP a y from rfl] at k3
  generalize headsP a y = H at *
  have k4 := part_fn H ((2 ^ a : Nat) : Int) (by omega) (by omega)
  have kS : ∀ (Γ : Ctx) (env : Env) (cs : List Chunk) (ty T T2 : TypeId) (x y : Operand), ev env x = some (.raw (.int .i64 1)) → ev env y = some (.int a) → OpV Tryz.prog Γ (.binOp .shl T x y T2) ty env cs (.int ((2 ^ a : Nat) : Int)) := fun _ _ _ _ _ _ _ _ h1 h2 => OpV.shlI h1 h2 (by omega)
  generalize ((2 ^ a : Nat) : Int) = P at *
  clear h
  unfold Frac.row at k4 ⊢
  generalize frac H P = f at *
  obtain ⟨fn, fd⟩ := f
  refine PFn.mk (Spec.body Tryz.func9 rfl rfl (Tryz.ntmps9) rfl fun w0 own0 M => ?_)
  repeat' (first | refine goH ?_ | refine goV ?_ | refine goB (fun b => ?_) | refine goC (fun ad cap => ?_) | refine goG ?_ | (refine Ops.k_guard ?_; first | (refine Ops.guard_dec rfl rfl (fun hc => ?_) (fun hc => ?_) <;> try (exfalso; omega)) | refine Ops.guard_split rfl rfl (fun hc => ?_) (fun hc => ?_)) | refine goI ?_ | (refine Cw.k_cond ?_; first | (refine Cw.cond_dec rfl (fun hc => ?_) (fun hc => ?_) <;> try (exfalso; omega)) | refine Cw.cond_bool rfl (fun hc => ?_) (fun hc => ?_)) | refine goR ?_ | refine goP ?_ | apply PSeq.cons | apply PSeq.yes rfl rfl rfl | exact goW | fail)
  refine Cw.loopI [(0, _), (1, _), (4, _), (27, _)] _ (fun q e c => ∃ (i : Nat) (R : List (List Tr)), q = a - i ∧ (i ≤ a ∧ R = intRows (rowP i)) ∧ e = [(6, .sl 1 R), (28, .int i)] ∧ c = [])
    ⟨_, _, _, (Ent.mkP goSub goPm), 0, [[.int 1]], rfl, ⟨by omega, by unfold rowP bin; rfl⟩, rfl, rfl⟩ ?_
  rintro _ _ _ ⟨i, R, rfl, ⟨hi, hR⟩, rfl, rfl⟩
  have hRl : R.length = i + 1 := by rw [hR, intRows_len, rowP_len]
  by_cases hin : i < a
  · have hn2 : ((R.length : Int) + 1).toNat = i + 2 := by omega
    obtain ⟨W0, hW0⟩ : ∃ W0, W0 = List.replicate (i + 2) [Tr.int 0] := ⟨_, rfl⟩
    have hW1 : W0 = intRows (midN i 0) := by rw [hW0, ints_repB, midN_start]
    have hWl : W0.length = i + 2 := by rw [hW0, List.length_replicate]
    clear k3 k4 kS
    repeat' (first | refine goH ?_ | (refine Ops.k_makeSlice ?_; first | (refine Ops.makeSlice rfl rfl (by omega) (by omega) (by omega) rfl (fun ad cap => ?_); rw [hn2, show List.map Tr.raw [Value.int .i64 0] = [Tr.int 0] from rfl, ← hW0])) | refine goV ?_ | refine goB (fun b => ?_) | refine goC (fun ad cap => ?_) | refine goG ?_ | (refine Ops.k_guard ?_; first | (refine Ops.guard_dec rfl rfl (fun hc => ?_) (fun hc => ?_) <;> try (exfalso; omega)) | refine Ops.guard_split rfl rfl (fun hc => ?_) (fun hc => ?_)) | refine goI ?_ | (refine Cw.k_cond ?_; first | (refine Cw.cond_dec rfl (fun hc => ?_) (fun hc => ?_) <;> try (exfalso; omega)) | refine Cw.cond_bool rfl (fun hc => ?_) (fun hc => ?_)) | refine goR ?_ | refine goP ?_ | apply PSeq.cons | apply PSeq.yes rfl rfl rfl | exact goW | fail)
    refine Cw.loopI [(0, _), (1, _), (4, _), (27, _), (28, _), (34, _), (35, _)] _ (fun q e c => ∃ (j : Nat) (W : List (List Tr)) (m : Nat), q = i + 1 - j ∧ (j ≤ i + 1 ∧ W = intRows (midN i j) ∧ W.length = m) ∧ e = [(7, Tr.raw (.slice ad m cap)), (36, .int j)] ∧ c = [Chunk.own ad cap 1 3 W])
      ⟨_, _, _, (Ent.mkP goSub goPm), 0, W0, _, rfl, ⟨by omega, hW1, hWl⟩, rfl, rfl⟩ ?_
    clear hW1 hW0 hWl hn2 W0
    rintro _ _ _ ⟨j, W, m, rfl, ⟨hj, hW, hm⟩, rfl, rfl⟩
    have hWl : W.length = i + 2 := by rw [hW, intRows_len, midN_len]
    by_cases hji : j < i + 1
    · have q1 : R[j]? = some [Tr.int (bin i j : Nat)] := by rw [hR]; exact intRows_at (rowP_at (by omega))
      have q2 : W[((j : Nat) : Int).toNat]? = some [Tr.int (binP i j : Nat)] := by rw [hW, Int.toNat_natCast]; refine intRows_at ?_; rw [midN_at (by omega), if_neg (by omega), if_pos rfl]
      have hb1 := bin_bd (i + 1) j (by omega)
      have hb2 := bin_bd i j (by omega)
      have hbn := binP_next i j
      have q3 : (W.set j [Tr.int ((binP i j : Nat) + (bin i j : Nat))])[((j : Int) + 1).toNat]? = some [Tr.int 0] := by
        rw [hW, show ((j : Int) + 1).toNat = j + 1 by omega, List.getElem?_set_ne (by omega)]
        refine intRows_at ?_
        rw [midN_at (by omega), if_neg (by omega), if_neg (by omega)]
      have hs : (W.set j [Tr.int ((binP i j : Nat) + (bin i j : Nat))]).set (j + 1) [Tr.int (0 + (bin i j : Nat))] = intRows (midN i (j + 1)) := by rw [hW, intRows_set, intRows_set, hbn, Int.zero_add, midN_next (by omega)]
      rw [← hbn] at hb1
      generalize ((binP i j : Nat) : Int) = u at *
      generalize ((bin i j : Nat) : Int) = v at *
      clear hW hbn
      repeat' (first | refine goH ?_ | refine goV ?_ | refine goB (fun b => ?_) | refine goC (fun ad cap => ?_) | refine goG ?_ | (refine Ops.k_guard ?_; first | (refine Ops.guard_dec rfl rfl (fun hc => ?_) (fun hc => ?_) <;> try (exfalso; omega)) | refine Ops.guard_split rfl rfl (fun hc => ?_) (fun hc => ?_)) | refine goI ?_ | (refine Cw.k_cond ?_; first | (refine Cw.cond_dec rfl (fun hc => ?_) (fun hc => ?_) <;> try (exfalso; omega)) | refine Cw.cond_bool rfl (fun hc => ?_) (fun hc => ?_)) | refine goR ?_ | refine goP ?_ | apply PSeq.cons | apply PSeq.yes rfl rfl rfl | exact goW | fail)
      exact ⟨_, _, _, (Ent.mk goSub goTk), ⟨j + 1, _, m, rfl, ⟨by omega, hs, by rw [List.length_set, List.length_set]; exact hm⟩, rfl, rfl⟩, by omega⟩
    · have hje : j = i + 1 := by omega
      subst hje
      rw [midN_end] at hW
      subst hm
      repeat' (first | refine goH ?_ | refine goV ?_ | refine goB (fun b => ?_) | refine goC (fun ad cap => ?_) | refine goG ?_ | (refine Ops.k_guard ?_; first | (refine Ops.guard_dec rfl rfl (fun hc => ?_) (fun hc => ?_) <;> try (exfalso; omega)) | refine Ops.guard_split rfl rfl (fun hc => ?_) (fun hc => ?_)) | refine goI ?_ | (refine Cw.k_cond ?_; first | (refine Cw.cond_dec rfl (fun hc => ?_) (fun hc => ?_) <;> try (exfalso; omega)) | refine Cw.cond_bool rfl (fun hc => ?_) (fun hc => ?_)) | refine goR ?_ | refine goP ?_ | apply PSeq.cons | apply PSeq.yes rfl rfl rfl | exact goW | fail)
      exact ⟨_, _, _, Ent.trans (Ent.settle (s := 6) rfl goPk rfl) (Ent.mk goSub goTk), ⟨i + 1, _, rfl, ⟨by omega, hW⟩, rfl, rfl⟩, by omega⟩
  · have hie : i = a := by omega
    subst hie
    have hD : R.drop y = intRows ((rowP i).drop y) := by rw [hR, intRows_dropB]
    generalize (rowP i).drop y = D at *
    have k5 : PFn Tryz.prog 28 [Tr.sl 1 (R.drop ((y : Nat) : Int).toNat)] (· = .int H) := by rw [Int.toNat_natCast, hD]; exact k3
    clear k3
    repeat' (first | refine goH ?_ | refine goV ?_ | refine goB (fun b => ?_) | refine goC (fun ad cap => ?_) | refine goG ?_ | (refine Ops.k_guard ?_; first | (refine Ops.guard_dec rfl rfl (fun hc => ?_) (fun hc => ?_) <;> try (exfalso; omega)) | refine Ops.guard_split rfl rfl (fun hc => ?_) (fun hc => ?_)) | refine goI ?_ | (refine Cw.k_cond ?_; first | (refine Cw.cond_dec rfl (fun hc => ?_) (fun hc => ?_) <;> try (exfalso; omega)) | refine Cw.cond_bool rfl (fun hc => ?_) (fun hc => ?_)) | exact OpV.w (kS _ _ _ _ _ _ _ _ rfl rfl) | (refine Ops.k_calla ?_; first | (refine Ops.k_callf 28 ?_; refine Ops.callV k5 (Evs.cons rfl Evs.nil) rfl ?_) | (refine Ops.k_callf 27 ?_; refine Ops.callV k4 (Evs.cons rfl (Evs.cons rfl Evs.nil)) rfl ?_)) | (apply OpW.k_call; first | (apply OpW.k_callf 28; exact OpW.callV k5 (Evs.cons rfl Evs.nil)) | (apply OpW.k_callf 27; exact OpW.callV k4 (Evs.cons rfl (Evs.cons rfl Evs.nil)))) | refine goR ?_ | refine goP ?_ | apply PSeq.cons | apply PSeq.yes rfl rfl rfl | exact goW | fail)
    refine Fin.ret (Ent.trans (Ent.setbox (s := 4) rfl goPk) (Ent.take goTk)) (Outs.many rfl (OutL.cons goOe (OutL.cons goOe OutL.nil)) rfl) ⟨rfl, rfl⟩
end Lg
end
section
set_option linter.all false
set_option maxRecDepth 100000
set_option maxHeartbeats 8000000
namespace Lg
open Go Go.Proofs
theorem dropI_ne {a b : List Int} {k : Nat} {x y : Int} (h1 : a[k]? = some x) (h2 : b[k]? = some y) (h : x ≠ y) : a ≠ b := by
  rintro rfl
  rw [h1] at h2
  exact h (Option.some.inj h2)
theorem equalInts_fn (a b : List Int) (ha : a.length ≤ 1000000) (hb : b.length ≤ 1000000) : PFn Tryz.prog 16 [.ints a, .ints b] (· = .bool (decide (a = b))) := by
  refine PFn.mk (Spec.body Tryz.func16 rfl rfl (Tryz.ntmps16) rfl fun w0 own0 M => ?_)
  have hA := intRows_len a
  have hB := intRows_len b
  by_cases hl : a.length = b.length
  rotate_left
  · have e : decide (a = b) = false := decide_eq_false (fun e => hl (by rw [e]))
    repeat' (first | refine goH ?_ | refine goV ?_ | refine goI ?_ | (refine Cw.k_cond ?_; first | (refine Cw.cond_dec rfl (fun hc => ?_) (fun hc => ?_) <;> try (exfalso; omega)) | refine Cw.cond_bool rfl (fun hc => ?_) (fun hc => ?_)) | refine goR ?_ | refine goP ?_ | apply PSeq.cons | apply PSeq.yes rfl rfl rfl | exact goW | fail)
    exact Fin.ret (Ent.take goTk) (Outs.one rfl rfl) ⟨rfl, congrArg Tr.bool e.symm⟩
  repeat' (first | refine goH ?_ | refine goV ?_ | refine goI ?_ | (refine Cw.k_cond ?_; first | (refine Cw.cond_dec rfl (fun hc => ?_) (fun hc => ?_) <;> try (exfalso; omega)) | refine Cw.cond_bool rfl (fun hc => ?_) (fun hc => ?_)) | refine goR ?_ | refine goP ?_ | apply PSeq.cons | apply PSeq.yes rfl rfl rfl | exact goW | fail)
  refine Cw.loopI [(0, _), (1, _), (11, _), (12, _)] _ (fun q e cc => ∃ (k : Nat), q = a.length - k ∧ (k ≤ a.length ∧ ∀ j, j < k → a[j]? = b[j]?) ∧ e = [(13, .int k)] ∧ cc = []) ⟨_, _, _, (Ent.mkP goSub goPm), 0, rfl, ⟨by omega, fun j h => absurd h (by omega)⟩, rfl, rfl⟩ ?_
  rintro _ _ _ ⟨k, rfl, ⟨hk, hV⟩, rfl, rfl⟩
  by_cases hkl : k < a.length
  · obtain ⟨x, hx⟩ := at_lt hkl
    obtain ⟨y, hy⟩ := at_lt (l := b) (k := k) (by omega)
    have hr1 := intRows_at hx
    have hr2 := intRows_at hy
    by_cases hxy : x = y
    · have nx : ∀ j, j < k + 1 → a[j]? = b[j]? := by
        intro j hj
        by_cases e : j = k
        · subst e; rw [hx, hy, hxy]
        · exact hV j (by omega)
      clear hV
      repeat' (first | refine goH ?_ | refine goV ?_ | refine goI ?_ | (refine Cw.k_cond ?_; first | (refine Cw.cond_dec rfl (fun hc => ?_) (fun hc => ?_) <;> try (exfalso; omega)) | refine Cw.cond_bool rfl (fun hc => ?_) (fun hc => ?_)) | refine goR ?_ | refine goP ?_ | apply PSeq.cons | apply PSeq.yes rfl rfl rfl | exact goW | fail)
      all_goals first | exact ⟨_, _, _, (Ent.mk goSub goTk), ⟨k + 1, rfl, ⟨by omega, nx⟩, rfl, rfl⟩, by omega⟩ | (exfalso; omega)
    · have e : decide (a = b) = false := decide_eq_false (dropI_ne hx hy hxy)
      clear hV
      repeat' (first | refine goH ?_ | refine goV ?_ | refine goI ?_ | (refine Cw.k_cond ?_; first | (refine Cw.cond_dec rfl (fun hc => ?_) (fun hc => ?_) <;> try (exfalso; omega)) | refine Cw.cond_bool rfl (fun hc => ?_) (fun hc => ?_)) | refine goR ?_ | refine goP ?_ | apply PSeq.cons | apply PSeq.yes rfl rfl rfl | exact goW | fail)
      all_goals first | exact Fin.ret (Ent.take goTk) (Outs.one rfl rfl) ⟨rfl, congrArg Tr.bool e.symm⟩ | (exfalso; omega)
  · have e : decide (a = b) = true := by
      refine decide_eq_true (List.ext_getElem? fun j => ?_)
      by_cases hj : j < k
      · exact hV j hj
      · rw [List.getElem?_eq_none (by omega), List.getElem?_eq_none (by omega)]
    clear hV
    repeat' (first | refine goH ?_ | refine goV ?_ | refine goI ?_ | (refine Cw.k_cond ?_; first | (refine Cw.cond_dec rfl (fun hc => ?_) (fun hc => ?_) <;> try (exfalso; omega)) | refine Cw.cond_bool rfl (fun hc => ?_) (fun hc => ?_)) | refine goR ?_ | refine goP ?_ | apply PSeq.cons | apply PSeq.yes rfl rfl rfl | exact goW | fail)
    exact Fin.ret (Ent.take goTk) (Outs.one rfl rfl) ⟨rfl, congrArg Tr.bool e.symm⟩
end Lg
end
section
set_option linter.all false
set_option maxRecDepth 100000
set_option maxHeartbeats 8000000
namespace Lg
open Go Go.Proofs

/-! ### strings compared; names with numbers -/
theorem cmpString_fn (a b : ByteArray) : PFn Tryz.prog 49 [.str a, .str b] (· = .int (cmpS a b)) := by
  have hx : ∀ w, (callFunc 69 #[.string a, .string b]).run Tryz.prog w = .ok (.value (.int .i64 (cmpS a b))) w := fun w => by
    rw [run_callFunc_extern Tryz.func69 (by kernel_rfl) (by kernel_rfl) (by kernel_rfl) (e := Extern.BytealgCompare.compare) (by kernel_rfl), Lib.run_compareString, cmpS_cb]
    rfl
  refine PFn.mk (Spec.body Tryz.func49 rfl rfl (Tryz.ntmps49) rfl fun w0 own0 M => ?_)
  repeat' (first | refine Ops.nil ?_ | refine Then.norm ?_ | refine Cw.seq ?_ | refine Cw.region ?_ | refine Cw.block ?_ | refine Cw.exit ?_ | refine Cw.skip ?_ | refine Cw.ret ?_ | refine Then.exit ?_ | refine Then.ret ?_ | refine InB.exit ?_ | refine InB.norm ?_ | refine InB.ret ?_ | refine InB.exit_ne rfl ?_ | (refine Ops.k_move ?_; first | refine Ops.move rfl rfl ?_ | refine Ops.move_any rfl ?_) | (refine Ops.k_assign ?_; first | refine Ops.assign rfl rfl ?_ | refine Ops.assign_any rfl ?_) | (refine Cw.k_cond ?_; first | refine Cw.cond_true rfl ?_ | refine Cw.cond_false rfl ?_ | (refine Cw.cond_dec rfl (fun hc => ?_) (fun hc => ?_) <;> try (exfalso; omega)) | refine Cw.cond_bool rfl (fun hc => ?_) (fun hc => ?_)) | refine Ops.ext2 hx rfl rfl rfl ?_)
  exact Fin.ret (Ent.take goTk) (Outs.one rfl rfl) ⟨rfl, rfl⟩
theorem compareS_fn (a b : ByteArray) : PFn Tryz.prog 36 [.str a, .str b] (· = .int (cmpS a b)) := by
  have k1 := cmpString_fn a b
  refine PFn.mk (Spec.body Tryz.func36 rfl rfl (Tryz.ntmps36) rfl fun w0 own0 M => ?_)
  repeat' (first | refine Ops.nil ?_ | refine Then.norm ?_ | refine Cw.seq ?_ | refine Cw.region ?_ | refine Cw.block ?_ | refine Cw.exit ?_ | refine Cw.skip ?_ | refine Cw.ret ?_ | refine Then.exit ?_ | refine Then.ret ?_ | refine InB.exit ?_ | refine InB.norm ?_ | refine InB.ret ?_ | refine InB.exit_ne rfl ?_ | (refine Ops.k_move ?_; first | refine Ops.move rfl rfl ?_ | refine Ops.move_any rfl ?_) | (refine Ops.k_assign ?_; first | refine Ops.assign rfl rfl ?_ | refine Ops.assign_any rfl ?_) | (refine Cw.k_cond ?_; first | refine Cw.cond_true rfl ?_ | refine Cw.cond_false rfl ?_ | (refine Cw.cond_dec rfl (fun hc => ?_) (fun hc => ?_) <;> try (exfalso; omega)) | refine Cw.cond_bool rfl (fun hc => ?_) (fun hc => ?_)) | (refine Ops.k_calla ?_; first | (refine Ops.k_callf 49 ?_; refine Ops.callV k1 (Evs.cons rfl (Evs.cons rfl Evs.nil)) rfl ?_)))
  exact Fin.ret (Ent.take goTk) (Outs.one rfl rfl) ⟨rfl, rfl⟩
end Lg
end
