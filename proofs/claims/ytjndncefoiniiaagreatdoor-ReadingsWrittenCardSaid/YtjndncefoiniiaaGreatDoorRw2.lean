/- A part of the proof of a law of this seat: it adds no condition. By an AI agent. -/
import Derived.Lib.ItoaLen
import Derived.Test.YtjndncefoiniiaaGreatDoorRwG
import Derived.Test.YtjndncefoiniiaaGreatDoorEqI
set_option linter.all false
set_option maxRecDepth 100000
set_option maxHeartbeats 4000000
namespace Lg
open Go Go.Proofs

/-! ### a reading as a line -/
def rvB (x : Int) : Bool := outB x 0 999999
theorem rvB_f {x : Int} (h : rvB x = false) : 0 ≤ x ∧ x ≤ 999999 := by
  have : ¬ rvB x = true := by rw [h]; simp
  unfold rvB at this
  rw [outB_eq] at this
  omega
def encE (d : Rdg) : Int := if momentB d.t = false then 1 else if d.vs.length = 0 ∨ 60 < d.vs.length then 3 else if d.vs.any rvB = true then 1 else 0
def vText (l : List Int) : ByteArray := mkB (Lib.join (l.map Lib.itoa) [44])
def rdS (d : Rdg) : ByteArray := (itoaS d.t ++ ⟨#[32]⟩) ++ vText d.vs
def encT (d : Rdg) : ByteArray := (rdS d ++ ⟨#[32, 42]⟩) ++ chkS (rdS d)
theorem app_nilB (s : ByteArray) : s ++ (⟨#[]⟩ : ByteArray) = s := ByteArray.append_empty
theorem vText_nil : vText [] = ⟨#[]⟩ := rfl
theorem vText_snoc (l : List Int) (x : Int) (h : l ≠ []) : vText (l ++ [x]) = (vText l ++ ⟨#[44]⟩) ++ itoaS x := by
  unfold vText
  rw [List.map_append, List.map_cons, List.map_nil, joinL_snoc, if_neg (by rw [List.map_eq_nil_iff]; exact h)]
  unfold itoaS
  rw [show (⟨#[44]⟩ : ByteArray) = mkB [44] from rfl, mkB_app, mkB_app, List.append_assoc]
theorem vText_one (x : Int) : vText [x] = itoaS x := by
  unfold vText
  rw [List.map_cons, List.map_nil, Lib.join_one]
  rfl
theorem itoaS_size {x : Int} (h0 : -9223372036854775808 ≤ x) (h1 : x ≤ 9223372036854775807) : (itoaS x).size ≤ 21 := Lib.itoa_length_le x h0 h1
theorem encE_ok {d : Rdg} (h : encE d = 0) : momentB d.t = true ∧ d.vs.length ≠ 0 ∧ d.vs.length ≤ 60 ∧ d.vs.any rvB = false ∧ (0 ≤ d.t ∧ d.t < 5761440) ∧ ∀ x ∈ d.vs, 0 ≤ x ∧ x ≤ 999999 := by
  unfold encE at h
  split at h
  · omega
  rename_i h1
  split at h
  · omega
  rename_i h2
  split at h
  · omega
  rename_i h3
  have h1' : momentB d.t = true := by cases h4 : momentB d.t; exact absurd h4 h1; rfl
  have h3' : d.vs.any rvB = false := by cases h4 : d.vs.any rvB; rfl; exact absurd h4 h3
  refine ⟨h1', by omega, by omega, h3', by unfold momentB at h1'; rw [decide_eq_true_iff] at h1'; exact h1', fun x hx => ?_⟩
  rw [List.any_eq_false] at h3'
  exact rvB_f (by have := h3' x hx; cases h4 : rvB x; rfl; exact absurd h4 this)
theorem encC_fn (x : Int) : PFn Tryz.prog 20 [.int x] (· = .bool (rvB x)) := by
  refine PFn.mk (Spec.body Tryz.func20 rfl rfl (Tryz.ntmps20) rfl fun w0 own0 M => ?_)
  repeat' (first | refine goH ?_ | refine goV ?_ | refine goI ?_ | (refine Cw.k_cond ?_; first | (refine Cw.cond_dec rfl (fun hc => ?_) (fun hc => ?_) <;> try (exfalso; omega)) | refine Cw.cond_bool rfl (fun hc => ?_) (fun hc => ?_)) | (refine Ops.k_calla ?_; first | (refine Ops.k_callf 21 ?_; refine Ops.callV (out_fn _ _ _) (Evs.cons rfl (Evs.cons rfl (Evs.cons rfl Evs.nil))) rfl ?_)) | fail)
  exact Fin.ret (Ent.take goTk) (Outs.one rfl rfl) ⟨rfl, rfl⟩
theorem lfC_fn (x : Int) : PFn Tryz.prog 25 [.int x] (· = .bool (rvB x)) := by
  refine PFn.mk (Spec.body Tryz.func25 rfl rfl (Tryz.ntmps25) rfl fun w0 own0 M => ?_)
  repeat' (first | refine goH ?_ | refine goV ?_ | refine goG ?_ | (refine Ops.k_guard ?_; first | (refine Ops.guard_dec rfl rfl (fun hc => ?_) (fun hc => ?_) <;> try (exfalso; omega)) | refine Ops.guard_split rfl rfl (fun hc => ?_) (fun hc => ?_)) | refine goI ?_ | (refine Cw.k_cond ?_; first | (refine Cw.cond_dec rfl (fun hc => ?_) (fun hc => ?_) <;> try (exfalso; omega)) | refine Cw.cond_bool rfl (fun hc => ?_) (fun hc => ?_)) | fail)
  all_goals
    refine Fin.ret (Ent.take goTk) (Outs.one rfl rfl) ⟨rfl, congrArg Tr.bool ?_⟩
    unfold rvB outB
    rw [Bool.eq_iff_iff]
    simp
    try omega
theorem lineFault_fn (d : Rdg) (hl : d.vs.length ≤ 100000) : PFn Tryz.prog 7 [.rdg d] (· = .int (encE d)) := by
  have hA := intRows_len d.vs
  have k1 := refMoment_fn d.t
  have k3 : Spec Tryz.prog 19 [.ints d.vs, Tr.raw (.func (.func 25) #[] #[])] [] (fun x cs => x = .bool (d.vs.any rvB) ∧ cs = []) := containsFunc_int (p := rvB) (caps := []) (cin := []) (l := d.vs) (by omega) (fun x _ => (lfC_fn x).lend)
  unfold encE
  refine PFn.mk (Spec.body Tryz.func7 rfl rfl (Tryz.ntmps7) rfl fun w0 own0 M => ?_)
  cases h1 : momentB d.t
  · rw [if_pos rfl]
    rw [h1] at k1
    repeat' (first | refine goH ?_ | refine goV ?_ | refine goB (fun b => ?_) | refine goG ?_ | (refine Ops.k_guard ?_; first | (refine Ops.guard_dec rfl rfl (fun hc => ?_) (fun hc => ?_) <;> try (exfalso; omega)) | refine Ops.guard_split rfl rfl (fun hc => ?_) (fun hc => ?_)) | refine goI ?_ | (refine Cw.k_cond ?_; first | (refine Cw.cond_dec rfl (fun hc => ?_) (fun hc => ?_) <;> try (exfalso; omega)) | refine Cw.cond_bool rfl (fun hc => ?_) (fun hc => ?_)) | (refine Ops.k_calla ?_; first | (refine Ops.k_callf 24 ?_; refine Ops.callV k1 (Evs.cons rfl Evs.nil) rfl ?_)) | fail)
    exact Fin.ret (Ent.take goTk) (Outs.one rfl rfl) ⟨rfl, rfl⟩
  rw [if_neg (by simp)]
  rw [h1] at k1
  by_cases h2 : d.vs.length = 0 ∨ 60 < d.vs.length
  · rw [if_pos h2]
    repeat' (first | refine goH ?_ | refine goV ?_ | refine goB (fun b => ?_) | refine goG ?_ | (refine Ops.k_guard ?_; first | (refine Ops.guard_dec rfl rfl (fun hc => ?_) (fun hc => ?_) <;> try (exfalso; omega)) | refine Ops.guard_split rfl rfl (fun hc => ?_) (fun hc => ?_)) | refine goI ?_ | (refine Cw.k_cond ?_; first | (refine Cw.cond_dec rfl (fun hc => ?_) (fun hc => ?_) <;> try (exfalso; omega)) | refine Cw.cond_bool rfl (fun hc => ?_) (fun hc => ?_)) | (refine Ops.k_calla ?_; first | (refine Ops.k_callf 24 ?_; refine Ops.callV k1 (Evs.cons rfl Evs.nil) rfl ?_)) | fail)
    all_goals first | (exfalso; omega) | exact Fin.ret (Ent.take goTk) (Outs.one rfl rfl) ⟨rfl, rfl⟩
  rw [if_neg h2]
  cases h4 : d.vs.any rvB
  all_goals
    rw [h4] at k3
    repeat' (first | refine goH ?_ | refine goV ?_ | refine goB (fun b => ?_) | refine goG ?_ | (refine Ops.k_guard ?_; first | (refine Ops.guard_dec rfl rfl (fun hc => ?_) (fun hc => ?_) <;> try (exfalso; omega)) | refine Ops.guard_split rfl rfl (fun hc => ?_) (fun hc => ?_)) | refine goI ?_ | (refine Cw.k_cond ?_; first | (refine Cw.cond_dec rfl (fun hc => ?_) (fun hc => ?_) <;> try (exfalso; omega)) | refine Cw.cond_bool rfl (fun hc => ?_) (fun hc => ?_)) | (refine Ops.k_calla ?_; first | (refine Ops.k_callf 24 ?_; refine Ops.callV k1 (Evs.cons rfl Evs.nil) rfl ?_) | (refine Ops.k_callf 19 ?_; refine Ops.callS k3 (Evs.cons rfl (Evs.cons rfl Evs.nil)) (List.Perm.refl _) rfl ?_)) | fail)
    all_goals first | (exfalso; omega) | exact Fin.ret (Ent.take goTk) (Outs.one rfl rfl) ⟨rfl, rfl⟩
theorem encode_fn (d : Rdg) (hl : d.vs.length ≤ 100000) : Spec Tryz.prog 6 [.rdg d] [numC] (fun r cs => r = .tup [.str (if encE d = 0 then encT d else ⟨#[]⟩), .int (encE d)] ∧ cs = [numC]) := by
  have hA := intRows_len d.vs
  have k1 := moment_fn d.t
  have k3 : Spec Tryz.prog 19 [.ints d.vs, Tr.raw (.func (.func 20) #[] #[])] [] (fun x cs => x = .bool (d.vs.any rvB) ∧ cs = []) := containsFunc_int (p := rvB) (caps := []) (cin := []) (l := d.vs) (by omega) (fun x _ => (encC_fn x).lend)
  by_cases h0 : encE d = 0
  · obtain ⟨h1, h2, h3, h4, h5, h6⟩ := encE_ok h0
    rw [if_pos h0, h0]
    rw [h1] at k1
    rw [h4] at k3
    have kI := itoa_fn d.t (by omega) (by omega)
    have hT := itoaS_size (x := d.t) (by omega) (by omega)
    have hR : rdS d = (itoaS d.t ++ ⟨#[32]⟩) ++ vText d.vs := rfl
    unfold encT
    generalize itoaS d.t = T0 at *
    have z1 : ByteArray.size ⟨#[32]⟩ = 1 := rfl
    have z2 : ByteArray.size ⟨#[44]⟩ = 1 := rfl
    have z3 : ByteArray.size ⟨#[32, 42]⟩ = 2 := rfl
    refine Spec.body Tryz.func6 rfl rfl (Tryz.ntmps6) rfl fun w0 own0 M => ?_
    repeat' (first | refine goH ?_ | (refine Ops.k_b_add ?_; first | (first | refine Ops.catB rfl rfl (by omega) rfl ?_ | refine Ops.add (by omega) rfl rfl rfl ?_)) | refine goV ?_ | refine goB (fun b => ?_) | refine goG ?_ | (refine Ops.k_guard ?_; first | (refine Ops.guard_dec rfl rfl (fun hc => ?_) (fun hc => ?_) <;> try (exfalso; omega)) | refine Ops.guard_split rfl rfl (fun hc => ?_) (fun hc => ?_)) | refine goI ?_ | (refine Cw.k_cond ?_; first | (refine Cw.cond_dec rfl (fun hc => ?_) (fun hc => ?_) <;> try (exfalso; omega)) | refine Cw.cond_bool rfl (fun hc => ?_) (fun hc => ?_)) | (refine Ops.k_calla ?_; first | (refine Ops.k_callf 18 ?_; refine Ops.callV k1 (Evs.cons rfl Evs.nil) rfl ?_) | (refine Ops.k_callf 19 ?_; refine Ops.callS k3 (Evs.cons rfl (Evs.cons rfl Evs.nil)) (List.Perm.refl _) rfl ?_) | (refine Ops.k_callf 22 ?_; (refine Ops.call kI (Evs.cons rfl Evs.nil) goPm rfl ?_; rintro r cs' ⟨rfl, rfl⟩))) | fail)
    all_goals try (exfalso; omega)
    refine Cw.loopI [(1, _), (32, _), (33, _)] _ (fun q e c => ∃ (k : Nat) (S : ByteArray), q = d.vs.length - k ∧ (k ≤ d.vs.length ∧ S = (T0 ++ ⟨#[32]⟩) ++ vText (d.vs.take k) ∧ S.size ≤ 22 + 22 * k) ∧ e = [(4, .str S), (34, .int k)] ∧ c = [numC]) ⟨_, _, _, (Ent.mkP goSub goPm), 0, _, rfl, ⟨by omega, by rw [List.take_zero, vText_nil, app_nilB], by rw [ByteArray.size_append]; omega⟩, rfl, rfl⟩ ?_
    rintro _ _ _ ⟨k, S, rfl, ⟨hk, hS, hsz⟩, rfl, rfl⟩
    by_cases hkl : k < d.vs.length
    · obtain ⟨x, hx⟩ := at_lt hkl
      have hr1 : (intRows d.vs)[k]? = some [.int x] := intRows_at hx
      have hxb := h6 x (List.mem_of_getElem? hx)
      have kV := itoa_fn x (by omega) (by omega)
      have hX := itoaS_size (x := x) (by omega) (by omega)
      have htk : d.vs.take (k + 1) = d.vs.take k ++ [x] := by rw [List.take_add_one, hx]; rfl
      have hz : 0 < k → (S ++ ⟨#[44]⟩) ++ itoaS x = (T0 ++ ⟨#[32]⟩) ++ vText (d.vs.take (k + 1)) := fun h => by
        rw [htk, vText_snoc _ _ (by intro h9; rw [← List.length_eq_zero_iff, List.length_take] at h9; omega), hS]; generalize vText (d.vs.take k) = V; generalize itoaS x = X; generalize T0 ++ (⟨#[32]⟩ : ByteArray) = H; rw [ByteArray.append_assoc (a := H), ByteArray.append_assoc (a := H)]
      have hz0 : k = 0 → S ++ itoaS x = (T0 ++ ⟨#[32]⟩) ++ vText (d.vs.take (k + 1)) := fun h => by
        rw [htk, hS, h, List.take_zero, List.nil_append, vText_one, vText_nil, app_nilB]
      generalize itoaS x = X at *
      clear hS htk hR
      have q1 : (S ++ ⟨#[44]⟩).size = S.size + 1 := by rw [ByteArray.size_append]; rfl
      repeat' (first | refine goH ?_ | (refine Ops.k_b_add ?_; first | (first | refine Ops.catB rfl rfl (by omega) rfl ?_ | refine Ops.add (by omega) rfl rfl rfl ?_)) | refine goV ?_ | refine goB (fun b => ?_) | refine goG ?_ | (refine Ops.k_guard ?_; first | (refine Ops.guard_dec rfl rfl (fun hc => ?_) (fun hc => ?_) <;> try (exfalso; omega)) | refine Ops.guard_split rfl rfl (fun hc => ?_) (fun hc => ?_)) | refine goI ?_ | (refine Cw.k_cond ?_; first | (refine Cw.cond_dec rfl (fun hc => ?_) (fun hc => ?_) <;> try (exfalso; omega)) | refine Cw.cond_bool rfl (fun hc => ?_) (fun hc => ?_)) | (refine Ops.k_calla ?_; first | (refine Ops.k_callf 22 ?_; (refine Ops.call kV (Evs.cons rfl Evs.nil) goPm rfl ?_; rintro r cs' ⟨rfl, rfl⟩))) | fail)
      · exact ⟨_, _, _, (Ent.mk goSub goTk), ⟨k + 1, _, rfl, ⟨by omega, hz (by omega), by rw [ByteArray.size_append, q1]; omega⟩, rfl, rfl⟩, by omega⟩
      · exact ⟨_, _, _, (Ent.mk goSub goTk), ⟨k + 1, _, rfl, ⟨by omega, hz0 (by omega), by rw [ByteArray.size_append]; omega⟩, rfl, rfl⟩, by omega⟩
    · have hkn : k = d.vs.length := by omega
      rw [hkn, List.take_length, ← hR] at hS
      rw [← hS]
      have kF := folded_fn S (by omega)
      have z4 := chkS_size S
      have z5 : (S ++ ⟨#[32, 42]⟩).size = S.size + 2 := by rw [ByteArray.size_append]; rfl
      generalize chkS S = C at *
      clear hS hR
      repeat' (first | refine goH ?_ | (refine Ops.k_b_add ?_; first | (refine Ops.catB rfl rfl (by omega) rfl ?_)) | refine goV ?_ | refine goB (fun b => ?_) | refine goG ?_ | (refine Ops.k_guard ?_; first | (refine Ops.guard_dec rfl rfl (fun hc => ?_) (fun hc => ?_) <;> try (exfalso; omega)) | refine Ops.guard_split rfl rfl (fun hc => ?_) (fun hc => ?_)) | refine goI ?_ | (refine Cw.k_cond ?_; first | (refine Cw.cond_dec rfl (fun hc => ?_) (fun hc => ?_) <;> try (exfalso; omega)) | refine Cw.cond_bool rfl (fun hc => ?_) (fun hc => ?_)) | (refine Ops.k_calla ?_; first | (refine Ops.k_callf 23 ?_; refine Ops.callV kF (Evs.cons rfl Evs.nil) rfl ?_)) | fail)
      exact Fin.ret (Ent.take goTk) (Outs.two rfl rfl rfl) ⟨rfl, rfl⟩
  · rw [if_neg h0]
    unfold encE at h0 ⊢
    refine Spec.body Tryz.func6 rfl rfl (Tryz.ntmps6) rfl fun w0 own0 M => ?_
    cases h1 : momentB d.t
    · rw [if_pos rfl]
      rw [h1] at k1
      repeat' (first | refine goH ?_ | refine goV ?_ | refine goB (fun b => ?_) | refine goG ?_ | (refine Ops.k_guard ?_; first | (refine Ops.guard_dec rfl rfl (fun hc => ?_) (fun hc => ?_) <;> try (exfalso; omega)) | refine Ops.guard_split rfl rfl (fun hc => ?_) (fun hc => ?_)) | refine goI ?_ | (refine Cw.k_cond ?_; first | (refine Cw.cond_dec rfl (fun hc => ?_) (fun hc => ?_) <;> try (exfalso; omega)) | refine Cw.cond_bool rfl (fun hc => ?_) (fun hc => ?_)) | (refine Ops.k_calla ?_; first | (refine Ops.k_callf 18 ?_; refine Ops.callV k1 (Evs.cons rfl Evs.nil) rfl ?_)) | fail)
      exact Fin.ret (Ent.take goTk) (Outs.two rfl rfl rfl) ⟨rfl, rfl⟩
    rw [h1, if_neg (by simp)] at h0
    rw [if_neg (by simp)]
    rw [h1] at k1
    by_cases h2 : d.vs.length = 0 ∨ 60 < d.vs.length
    · rw [if_pos h2]
      repeat' (first | refine goH ?_ | refine goV ?_ | refine goB (fun b => ?_) | refine goG ?_ | (refine Ops.k_guard ?_; first | (refine Ops.guard_dec rfl rfl (fun hc => ?_) (fun hc => ?_) <;> try (exfalso; omega)) | refine Ops.guard_split rfl rfl (fun hc => ?_) (fun hc => ?_)) | refine goI ?_ | (refine Cw.k_cond ?_; first | (refine Cw.cond_dec rfl (fun hc => ?_) (fun hc => ?_) <;> try (exfalso; omega)) | refine Cw.cond_bool rfl (fun hc => ?_) (fun hc => ?_)) | (refine Ops.k_calla ?_; first | (refine Ops.k_callf 18 ?_; refine Ops.callV k1 (Evs.cons rfl Evs.nil) rfl ?_)) | fail)
      all_goals first | (exfalso; omega) | exact Fin.ret (Ent.take goTk) (Outs.two rfl rfl rfl) ⟨rfl, rfl⟩
    rw [if_neg h2] at h0 ⊢
    cases h4 : d.vs.any rvB
    · rw [h4] at h0
      exact absurd rfl h0
    · rw [h4] at k3
      repeat' (first | refine goH ?_ | refine goV ?_ | refine goB (fun b => ?_) | refine goG ?_ | (refine Ops.k_guard ?_; first | (refine Ops.guard_dec rfl rfl (fun hc => ?_) (fun hc => ?_) <;> try (exfalso; omega)) | refine Ops.guard_split rfl rfl (fun hc => ?_) (fun hc => ?_)) | refine goI ?_ | (refine Cw.k_cond ?_; first | (refine Cw.cond_dec rfl (fun hc => ?_) (fun hc => ?_) <;> try (exfalso; omega)) | refine Cw.cond_bool rfl (fun hc => ?_) (fun hc => ?_)) | (refine Ops.k_calla ?_; first | (refine Ops.k_callf 18 ?_; refine Ops.callV k1 (Evs.cons rfl Evs.nil) rfl ?_) | (refine Ops.k_callf 19 ?_; refine Ops.callS k3 (Evs.cons rfl (Evs.cons rfl Evs.nil)) (List.Perm.refl _) rfl ?_)) | fail)
      all_goals first | (exfalso; omega) | exact Fin.ret (Ent.take goTk) (Outs.two rfl rfl rfl) ⟨rfl, rfl⟩
theorem strRows_snocR (l : List ByteArray) (x : ByteArray) : strRows l ++ [[Tr.str x]] = strRows (l ++ [x]) := by unfold strRows; rw [List.map_append]; rfl
def T0z (s : ByteArray) : Nat := (s ++ ⟨#[32]⟩).size
theorem readingText_fn (d : Rdg) (h0 : encE d = 0) : Spec Tryz.prog 8 [.rdg d] [numC] (fun r cs => r = .str (encT d) ∧ cs = [numC]) := by
  have hA := intRows_len d.vs
  obtain ⟨h1, h2, h3, h4, h5, h6⟩ := encE_ok h0
  have kI := itoa_fn d.t (by omega) (by omega)
  have hT := itoaS_size (x := d.t) (by omega) (by omega)
  have hR : rdS d = (itoaS d.t ++ ⟨#[32]⟩) ++ vText d.vs := rfl
  have hvm : vText d.vs = mkB (Lib.join ((d.vs.map itoaS).map (·.data.toList)) (ByteArray.mk #[44]).data.toList) := by
    rw [List.map_map]; rfl
  have kJ := join_fn (d.vs.map itoaS) ⟨#[44]⟩ (by rw [List.length_map]; omega) (fun x hx => by obtain ⟨y, hy, rfl⟩ := List.mem_map.1 hx; have := h6 y hy; have := itoaS_size (x := y) (by omega) (by omega); omega) (by rw [show ByteArray.size ⟨#[44]⟩ = 1 from rfl]; omega)
  rw [← hvm] at kJ
  have hJ : (vText d.vs).size ≤ 22 * 60 := by
    rw [hvm, mkB_size]
    refine Nat.le_trans (joinL_size _ 21 _ ?_) ?_
    · intro z hz
      obtain ⟨x, hx, rfl⟩ := List.mem_map.1 hz
      obtain ⟨y, hy, rfl⟩ := List.mem_map.1 hx
      have := h6 y hy
      have := itoaS_size (x := y) (by omega) (by omega)
      rw [← str_list]
      exact this
    · rw [List.length_map, List.length_map]
      have e : (ByteArray.mk #[44]).data.toList.length = 1 := rfl
      rw [e]
      omega
  unfold encT
  have hRz : (rdS d).size = T0z (itoaS d.t) + (vText d.vs).size := by
    rw [hR, ByteArray.size_append]; rfl
  have kD := checkDigits_fn (rdS d) (by rw [hRz]; unfold T0z; rw [ByteArray.size_append, show ByteArray.size ⟨#[32]⟩ = 1 from rfl]; omega)
  have hRz2 : (rdS d).size ≤ 2000 := by rw [hRz]; unfold T0z; rw [ByteArray.size_append, show ByteArray.size ⟨#[32]⟩ = 1 from rfl]; omega
  have z4 := chkS_size (rdS d)
  clear hRz hvm
  generalize chkS (rdS d) = C at *
  generalize vText d.vs = V at *
  generalize itoaS d.t = T0 at *
  have z1 : ByteArray.size ⟨#[32]⟩ = 1 := rfl
  have z3 : ByteArray.size ⟨#[32, 42]⟩ = 2 := rfl
  have z6 : (T0 ++ ⟨#[32]⟩).size = T0.size + 1 := by rw [ByteArray.size_append]; rfl
  have z5 : (rdS d ++ ⟨#[32, 42]⟩).size = (rdS d).size + 2 := by rw [ByteArray.size_append]; rfl
  generalize rdS d = S at *
  subst hR
  refine Spec.body Tryz.func8 rfl rfl (Tryz.ntmps8) rfl fun w0 own0 M => ?_
  repeat' (first | refine goH ?_ | refine goV ?_ | refine goB (fun b => ?_) | refine goC (fun ad cap => ?_) | refine goI ?_ | (refine Cw.k_cond ?_; first | (refine Cw.cond_dec rfl (fun hc => ?_) (fun hc => ?_) <;> try (exfalso; omega)) | refine Cw.cond_bool rfl (fun hc => ?_) (fun hc => ?_)) | fail)
  refine Cw.loopI [(1, _), (8, _), (9, _)] _ (fun q e cc => ∃ (k : Nat) (rows : List (List Tr)) (ad : Option Addr) (cap : Nat), q = d.vs.length - k ∧ (k ≤ d.vs.length ∧ rows = strRows ((d.vs.take k).map itoaS) ∧ rows.length = k) ∧ e = [(3, Tr.raw (.slice ad k cap)), (10, .int k)] ∧ cc = [Chunk.own ad cap 1 9 rows, numC])
    ⟨_, _, _, Ent.trans (Ent.nil 1 9) (Ent.mkP goSub goPm), 0, [], none, 0, rfl, ⟨by omega, rfl, rfl⟩, rfl, rfl⟩ ?_
  rintro _ _ _ ⟨k, rows, ad, cap, rfl, ⟨hk, hrows, hrl⟩, rfl, rfl⟩
  by_cases hkl : k < d.vs.length
  · obtain ⟨x, hx⟩ := at_lt hkl
    have hr1 : (intRows d.vs)[k]? = some [.int x] := intRows_at hx
    have hxb := h6 x (List.mem_of_getElem? hx)
    have kV := itoa_fn x (by omega) (by omega)
    have htk : d.vs.take (k + 1) = d.vs.take k ++ [x] := by rw [List.take_add_one, hx]; rfl
    have hnx : rows ++ [[Tr.str (itoaS x)]] = strRows ((d.vs.take (k + 1)).map itoaS) := by rw [htk, List.map_append, List.map_cons, List.map_nil, hrows, strRows_snocR]
    have hnl : (rows ++ [[Tr.str (itoaS x)]]).length = k + 1 := by rw [List.length_append, hrl]; rfl
    generalize itoaS x = X at *
    clear hrows kJ kD kI
    repeat' (first | refine goH ?_ | refine goV ?_ | refine goB (fun b => ?_) | refine goC (fun ad cap => ?_) | refine goI ?_ | (refine Cw.k_cond ?_; first | (refine Cw.cond_dec rfl (fun hc => ?_) (fun hc => ?_) <;> try (exfalso; omega)) | refine Cw.cond_bool rfl (fun hc => ?_) (fun hc => ?_)) | (refine Ops.k_calla ?_; first | (refine Ops.k_callf 22 ?_; (refine Ops.call kV (Evs.cons rfl Evs.nil) goPm rfl ?_; rintro r cs' ⟨rfl, rfl⟩))) | fail)
    rw [hnl]
    exact ⟨_, _, _, (Ent.mk goSub goTk), ⟨k + 1, _, _, _, rfl, ⟨by omega, hnx, hnl⟩, rfl, rfl⟩, by omega⟩
  · have hkn : k = d.vs.length := by omega
    rw [hkn, List.take_length] at hrows
    have hrl2 : k = rows.length := hrl.symm
    clear hrl
    refine Cw.ent (Ent.settle (s := 3) rfl goPk hrl2) ?_
    rw [hrows]
    clear hrl2 hrows
    generalize d.vs.map itoaS = W at *
    repeat' (first | refine goH ?_ | (refine Ops.k_b_add ?_; first | (refine Ops.catB rfl rfl (by omega) rfl ?_)) | refine goV ?_ | refine goB (fun b => ?_) | refine goC (fun ad cap => ?_) | refine goI ?_ | (refine Cw.k_cond ?_; first | (refine Cw.cond_dec rfl (fun hc => ?_) (fun hc => ?_) <;> try (exfalso; omega)) | refine Cw.cond_bool rfl (fun hc => ?_) (fun hc => ?_)) | (refine Ops.k_calla ?_; first | (refine Ops.k_callf 22 ?_; (refine Ops.call kI (Evs.cons rfl Evs.nil) goPm rfl ?_; rintro r cs' ⟨rfl, rfl⟩)) | (refine Ops.k_callf 27 ?_; refine Ops.callV kD (Evs.cons rfl Evs.nil) rfl ?_) | (refine Ops.k_callf 26 ?_; refine Ops.callV kJ (Evs.cons rfl (Evs.cons rfl Evs.nil)) rfl ?_)) | fail)
    exact Fin.ret (Ent.take goTk) (Outs.one rfl rfl) ⟨rfl, rfl⟩
end Lg
