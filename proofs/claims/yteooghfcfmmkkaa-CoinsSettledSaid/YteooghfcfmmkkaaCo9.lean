/- A part of the proof of a law of this seat: it adds no condition. By an AI agent. -/
import Derived.Test.YteooghfcfmmkkaaCo4
import Derived.Test.YteooghfcfmmkkaaCo7
import Derived.Test.YteooghfcfmmkkaaSortO
section
set_option linter.all false
set_option maxRecDepth 100000
set_option maxHeartbeats 8000000
namespace Lg
open Go Go.Proofs

attribute [local irreducible] intRows
theorem values_fn (l : List Int) : Spec Try.prog 33 [.ints l] [] (fun r cs => ∃ b, r = Tr.raw (.func (.func 49) #[] #[.pointer (some ⟨b, 0, none⟩)]) ∧ cs = [Chunk.box b 22 [.ints l]]) := by
  refine Spec.body Try.func33 rfl rfl (Try.ntmps33) rfl fun w0 own0 M => ?_
  repeat' (first | refine goH ?_ | refine goV ?_ | refine goB (fun b => ?_) | refine goI ?_ | (refine Cw.k_cond ?_; first | (refine Cw.cond_dec rfl (fun hc => ?_) (fun hc => ?_) <;> try (exfalso; omega)) | refine Cw.cond_bool rfl (fun hc => ?_) (fun hc => ?_)) | fail)
  exact Fin.ret (Ent.take goTk) (Outs.one rfl rfl) ⟨_, rfl, rfl⟩
theorem values_iter (l : List Int) (hl : l.length ≤ 1000000) (b : Nat) : IterSpec Try.prog 49 [.pointer (some ⟨b, 0, none⟩)] [Chunk.box b 22 [.ints l]] [Chunk.box b 22 [.ints l]] (intRows l) := by
  unfold IterSpec
  intro lp J Jx hY c0 h0
  have hL := intRows_len l
  rw [intRows_len]
  refine Spec.body Try.func49 rfl rfl (Try.ntmps49) rfl fun w0 own0 M => ?_
  repeat' (first | refine goH ?_ | refine goV ?_ | refine goI ?_ | (refine Cw.k_cond ?_; first | (refine Cw.cond_dec rfl (fun hc => ?_) (fun hc => ?_) <;> try (exfalso; omega)) | refine Cw.cond_bool rfl (fun hc => ?_) (fun hc => ?_)) | fail)
  refine Cw.loopI [(0, _), (5, _), (6, _)] _ (fun q e cc => ∃ (k : Nat) (c : Chunk), q = l.length - k ∧ (k ≤ l.length ∧ J k c) ∧ e = [(7, .int k)] ∧ cc = [c, Chunk.box b 22 [.ints l]]) ⟨_, _, _, (Ent.mkP goSub goPm), 0, c0, rfl, ⟨by omega, h0⟩, rfl, rfl⟩ ?_
  rintro _ _ _ ⟨k, c, rfl, ⟨hk, hJ⟩, rfl, rfl⟩
  by_cases hkl : k < l.length
  · obtain ⟨v, hv⟩ := at_lt (l := l) (k := k) hkl
    have hrow := intRows_at hv
    have hy := hY k _ c hrow hJ
    repeat' (first | refine goH ?_ | refine goV ?_ | refine goI ?_ | (refine Cw.k_cond ?_; first | (refine Cw.cond_dec rfl (fun hc => ?_) (fun hc => ?_) <;> try (exfalso; omega)) | refine Cw.cond_bool rfl (fun hc => ?_) (fun hc => ?_)) | (refine Ops.k_calla ?_; first | (refine Ops.callY rfl hy (Evs.cons rfl Evs.nil) goPm rfl ?_; rintro r cs' (⟨rfl, c', hc', rfl⟩ | ⟨rfl, c', hc', rfl⟩))) | fail)
    · exact ⟨_, _, _, (Ent.mk goSub goTk), ⟨k + 1, c', rfl, ⟨by omega, hc'⟩, rfl, rfl⟩, by omega⟩
    · exact Fin.ret (Ent.take goTk) (Outs.zero rfl) (.inr ⟨c', hc', rfl⟩)
  · have hkn : k = l.length := by omega
    subst hkn
    repeat' (first | refine goH ?_ | refine goV ?_ | refine goI ?_ | (refine Cw.k_cond ?_; first | (refine Cw.cond_dec rfl (fun hc => ?_) (fun hc => ?_) <;> try (exfalso; omega)) | refine Cw.cond_bool rfl (fun hc => ?_) (fun hc => ?_)) | fail)
    exact Fin.norm (Ent.take goTk) (Outs.zero rfl) (.inl ⟨c, hJ, rfl⟩)
theorem appendSeq_fn (l : List Int) (hl : l.length ≤ 1000000) (bq : Nat) : Spec Try.prog 56 [Tr.raw (.slice none 0 0), Tr.raw (.func (.func 49) #[] #[.pointer (some ⟨bq, 0, none⟩)])] [Chunk.box bq 22 [.ints l]]
    (fun r cs => ∃ (ad : Option Addr) (cap : Nat), r = Tr.raw (.slice ad l.length cap) ∧ cs = [Chunk.own ad cap 1 3 (intRows l)]) := by
  have hL := intRows_len l
  refine Spec.bodyF Try.func56 rfl rfl (Try.ntmps56) rfl fun w0 own0 M => ?_
  refine CwF.seq rfl ?_
  repeat' (first | refine goH ?_ | refine goV ?_ | refine goB (fun b => ?_) | refine goC (fun ad cap => ?_) | refine goI ?_ | (refine Cw.k_cond ?_; first | (refine Cw.cond_dec rfl (fun hc => ?_) (fun hc => ?_) <;> try (exfalso; omega)) | refine Cw.cond_bool rfl (fun hc => ?_) (fun hc => ?_)) | fail)
  refine CwF.rng (RngOk.seq ?_)
  repeat' (first | refine goH ?_ | refine goV ?_ | refine goB (fun b => ?_) | refine goC (fun ad cap => ?_) | refine goI ?_ | (refine Cw.k_cond ?_; first | (refine Cw.cond_dec rfl (fun hc => ?_) (fun hc => ?_) <;> try (exfalso; omega)) | refine Cw.cond_bool rfl (fun hc => ?_) (fun hc => ?_)) | fail)
  refine RngOk.block ?_
  refine RngOk.ent (Ent.nil 1 3) ?_
  refine RngOk.range (ps := [7]) (I := fun k cs => k ≤ l.length ∧ ∃ (ad : Option Addr) (cap : Nat) (rows : List (List Tr)), rows = intRows (l.take k) ∧ cs = [Chunk.box b 22 [.raw (.slice ad k cap)], Chunk.own ad cap 1 3 rows]) (Ix := fun c cs => False) rfl rfl rfl (values_iter l (by omega) bq) ?_ ?_ ⟨by omega, none, 0, [], by with_unfolding_all rfl, rfl⟩ goPm ?_ ?_ ?_ (fun _ _ => ?_)
  · rintro args ha
    obtain ⟨k, hk⟩ := List.getElem?_of_mem ha
    have hlt := (List.getElem?_eq_some_iff.1 hk).1
    rw [intRows_len] at hlt
    obtain ⟨v, hv⟩ := at_lt (l := l) (k := k) (by omega)
    rw [intRows_at hv] at hk
    cases hk
    rfl
  · intro p hp
    simp only [List.mem_cons, List.not_mem_nil, or_false] at hp
    show p < 13
    omega
  · rintro lp k args csk hk ⟨hkl, ad, cap, _, rfl, rfl⟩ w1 own1 M1
    have hlt := (List.getElem?_eq_some_iff.1 hk).1
    rw [intRows_len] at hlt
    obtain ⟨v, hv⟩ := at_lt (l := l) (k := k) (by omega)
    rw [intRows_at hv] at hk
    cases hk
    have hkr : (intRows (l.take k)).length = k := by rw [intRows_len, List.length_take]; omega
    have hnx : intRows (l.take k) ++ [[Tr.int v]] = intRows (l.take (k + 1)) := by rw [take_at hv]; unfold intRows; simp
    have hk1 : (intRows (l.take k) ++ [[Tr.int v]]).length = k + 1 := by rw [List.length_append, hkr]; rfl
    simp only [prm]
    repeat' (first | refine goH ?_ | refine goV ?_ | refine goB (fun b => ?_) | refine goC (fun ad cap => ?_) | refine goI ?_ | (refine Cw.k_cond ?_; first | (refine Cw.cond_dec rfl (fun hc => ?_) (fun hc => ?_) <;> try (exfalso; omega)) | refine Cw.cond_bool rfl (fun hc => ?_) (fun hc => ?_)) | fail)
    intro w2 own2
    repeat' (first | refine goH ?_ | refine goV ?_ | refine goB (fun b => ?_) | refine goC (fun ad cap => ?_) | refine goI ?_ | (refine Cw.k_cond ?_; first | (refine Cw.cond_dec rfl (fun hc => ?_) (fun hc => ?_) <;> try (exfalso; omega)) | refine Cw.cond_bool rfl (fun hc => ?_) (fun hc => ?_)) | fail)
    rw [hk1, hnx]
    exact RPost.norm (Ent.mk goSub goTk) ⟨by omega, _, _, _, rfl, rfl⟩
  · rintro w1 own1 M1 D csN ⟨_, ad, cap, _, rfl, rfl⟩
    rw [intRows_len, List.take_length]
    repeat' (first | refine goH ?_ | refine goV ?_ | refine goB (fun b => ?_) | refine goC (fun ad cap => ?_) | refine goI ?_ | (refine Cw.k_cond ?_; first | (refine Cw.cond_dec rfl (fun hc => ?_) (fun hc => ?_) <;> try (exfalso; omega)) | refine Cw.cond_bool rfl (fun hc => ?_) (fun hc => ?_)) | fail)
    exact Fin.ret (Ent.take goTk) (Outs.one rfl rfl) ⟨_, _, rfl, rfl⟩
  · rintro c csx h
    exact h.elim
  · exact enters_of Try.func49 rfl rfl _ _
theorem collect_fn (l : List Int) (hl : l.length ≤ 1000000) (bq : Nat) : Spec Try.prog 47 [Tr.raw (.func (.func 49) #[] #[.pointer (some ⟨bq, 0, none⟩)])] [Chunk.box bq 22 [.ints l]]
    (fun r cs => ∃ (ad : Option Addr) (cap : Nat), r = Tr.raw (.slice ad l.length cap) ∧ cs = [Chunk.own ad cap 1 3 (intRows l)]) := by
  have k := appendSeq_fn l hl bq
  refine Spec.body Try.func47 rfl rfl (Try.ntmps47) rfl fun w0 own0 M => ?_
  repeat' (first | refine goH ?_ | refine goV ?_ | refine goI ?_ | (refine Cw.k_cond ?_; first | (refine Cw.cond_dec rfl (fun hc => ?_) (fun hc => ?_) <;> try (exfalso; omega)) | refine Cw.cond_bool rfl (fun hc => ?_) (fun hc => ?_)) | (refine Ops.k_calla ?_; first | (refine Ops.k_callf 56 ?_; (refine Ops.call k (Evs.cons rfl (Evs.cons rfl Evs.nil)) goPm rfl ?_; rintro r cs' ⟨ad, cap, rfl, rfl⟩))) | fail)
  exact Fin.ret (Ent.take goTk) (Outs.one rfl rfl) ⟨_, _, rfl, rfl⟩
theorem sorted_fn (l : List Int) (hl : l.length ≤ 12) (bq : Nat) : Spec Try.prog 32 [Tr.raw (.func (.func 49) #[] #[.pointer (some ⟨bq, 0, none⟩)])] [Chunk.box bq 22 [.ints l]]
    (fun r cs => ∃ (ad : Option Addr) (cap : Nat), r = Tr.raw (.slice ad l.length cap) ∧ cs = [Chunk.own ad cap 1 3 ((isort (fun a b => decide (a < b)) l).map (fun x => [Tr.int x]))]) := by
  have k := collect_fn l (by omega) bq
  have k2 := fun ad cap => sortV_fn (ad := ad) (cap := cap) hl rfl
  rw [show intRows l = l.map (fun x => [Tr.int x]) by with_unfolding_all rfl] at k
  refine Spec.body Try.func32 rfl rfl (Try.ntmps32) rfl fun w0 own0 M => ?_
  repeat' (first | refine goH ?_ | refine goV ?_ | refine goI ?_ | (refine Cw.k_cond ?_; first | (refine Cw.cond_dec rfl (fun hc => ?_) (fun hc => ?_) <;> try (exfalso; omega)) | refine Cw.cond_bool rfl (fun hc => ?_) (fun hc => ?_)) | (refine Ops.k_calla ?_; first | (refine Ops.k_callf 47 ?_; (refine Ops.call k (Evs.cons rfl Evs.nil) goPm rfl ?_; rintro r cs' ⟨ad, cap, rfl, rfl⟩)) | (refine Ops.k_callf 48 ?_; (refine Ops.call (k2 _ _) (Evs.cons rfl Evs.nil) goPm rfl ?_; rintro r cs' ⟨rfl, rfl⟩))) | fail)
  exact Fin.ret (Ent.take goTk) (Outs.one rfl rfl) ⟨_, _, rfl, rfl⟩
end Lg
end
section
set_option linter.all false
set_option maxRecDepth 100000
set_option maxHeartbeats 8000000
namespace Lg
open Go Go.Proofs

theorem prs_snoc {can : Nat → Bool} {P T : List Int} {k : Nat} {p : Int} (h : P[k]? = some p) : prs can (P.take (k + 1)) T = prs can (P.take k) T ++ ((T.filter (isD can p)).map fun v => ⟨p, v⟩) := by
  unfold prs
  rw [take_at h, List.flatMap_append]
  simp
def prsI (can : Nat → Bool) (p : Int) (T : List Int) : List Dbt := (T.filter (isD can p)).map fun v => ⟨p, v⟩
theorem prsI_yes {can : Nat → Bool} {T : List Int} {j : Nat} {p v : Int} (h : T[j]? = some v) (hd : isD can p v = true) : prsI can p (T.take (j + 1)) = prsI can p (T.take j) ++ [⟨p, v⟩] := by
  unfold prsI
  rw [take_at h, List.filter_append]
  simp [hd]
theorem prsI_no {can : Nat → Bool} {T : List Int} {j : Nat} {p v : Int} (h : T[j]? = some v) (hd : isD can p v = false) : prsI can p (T.take (j + 1)) = prsI can p (T.take j) := by
  unfold prsI
  rw [take_at h, List.filter_append]
  simp [hd]
theorem prs_len {can : Nat → Bool} (P T : List Int) : (prs can P T).length ≤ P.length * T.length := by
  unfold prs
  induction P with
  | nil => simp
  | cons p P ih =>
    rw [List.flatMap_cons, List.length_append, List.length_map, List.length_cons, Nat.add_mul]
    have := List.length_filter_le (isD can p) T
    omega
abbrev Tr.dbts (l : List Dbt) : Tr := .sl 2 (l.map Dbt.row)
abbrev srt (l : List Int) : List Int := isort (fun a b => decide (a < b)) l
def doubtsR (l : List Tube) (p t : List Int) : List Dbt × Int := if tubesErr l ≠ 0 then ([], tubesErr l) else if doubt1 p t ≠ 0 then ([], doubt1 p t) else (prs (canK l l.length) (dd (srt p)) (dd (srt t)), 0)
theorem doubt1_ok {p t : List Int} (h : doubt1 p t = 0) : p.length ≤ 60 ∧ t.length ≤ 20 ∧ p.any odB = false ∧ t.any odB = false := by
  unfold doubt1 at h
  split at h
  · omega
  · split at h
    · omega
    · rename_i h1 h2
      simp only [Bool.or_eq_true, not_or, Bool.not_eq_true] at h2
      exact ⟨by omega, by omega, h2.1, h2.2⟩
theorem odB_bd {l : List Int} (h : l.any odB = false) : ∀ x ∈ l, 1 ≤ x ∧ x ≤ 20000 := fun x hx => by
  have := List.any_eq_false.1 h x hx
  simp [odB, outB] at this
  omega
theorem doubtsBad_fn (l : List Tube) (p t : List Int) (hp : p.length ≤ 12) (ht : t.length ≤ 12) (h : tubesErr l ≠ 0 ∨ doubt1 p t ≠ 0) (k1 : PFn Try.prog 24 [.tubes l] (· = .int (tubesErr l))) : PFn Try.prog 9 [.tubes l, .ints p, .ints t] (· = .tup [.dbts [], .int (if tubesErr l ≠ 0 then tubesErr l else doubt1 p t)]) := by
  have hP := intRows_len p
  have hT := intRows_len t
  by_cases h0 : tubesErr l ≠ 0
  · rw [if_pos h0]
    refine PFn.mk (Spec.body Try.func9 rfl rfl (Try.ntmps9) rfl fun w0 own0 M => ?_)
    repeat' (first | refine goH ?_ | refine goV ?_ | refine goC (fun ad cap => ?_) | refine goG ?_ | (refine Ops.k_guard ?_; first | (refine Ops.guard_dec rfl rfl (fun hc => ?_) (fun hc => ?_) <;> try (exfalso; omega)) | refine Ops.guard_split rfl rfl (fun hc => ?_) (fun hc => ?_)) | refine goI ?_ | (refine Cw.k_cond ?_; first | (refine Cw.cond_dec rfl (fun hc => ?_) (fun hc => ?_) <;> try (exfalso; omega)) | refine Cw.cond_bool rfl (fun hc => ?_) (fun hc => ?_)) | (refine Ops.k_calla ?_; first | refine Ops.callV k1 (Evs.cons rfl Evs.nil) rfl ?_) | fail)
    exact Fin.ret (Ent.trans (Ent.nilsl 2 (s := 6) rfl) (Ent.take goTk)) (Outs.two rfl rfl rfl) ⟨rfl, rfl⟩
  rw [if_neg h0]
  have h0' : tubesErr l = 0 := by omega
  rw [h0'] at k1
  have h1 : doubt1 p t ≠ 0 := h.resolve_left h0
  have k3 : Spec Try.prog 25 [.ints p, Tr.raw (.func (.func 29) #[] #[])] [] (fun x cs => x = .bool (p.any odB) ∧ cs = []) := containsFunc_int (p := odB) (caps := []) (cin := []) (l := p) (by omega) (fun x _ => (dbtC_fn x).lend)
  have k4 : Spec Try.prog 25 [.ints t, Tr.raw (.func (.func 29) #[] #[])] [] (fun x cs => x = .bool (t.any odB) ∧ cs = []) := containsFunc_int (p := odB) (caps := []) (cin := []) (l := t) (by omega) (fun x _ => (dbtC_fn x).lend)
  have e1 : doubt1 p t = 1 := by
    unfold doubt1 at h1 ⊢
    rw [if_neg (by omega)] at h1 ⊢
    split
    · rfl
    · rename_i hh; rw [if_neg hh] at h1; exact absurd rfl h1
  rw [e1]
  have h2 : (p.any odB || t.any odB) = true := by
    unfold doubt1 at e1
    rw [if_neg (by omega)] at e1
    by_cases hh : (p.any odB || t.any odB) = true
    · exact hh
    · rw [if_neg hh] at e1; omega
  cases c1 : p.any odB
  · rw [c1, Bool.false_or] at h2
    rw [c1] at k3
    rw [h2] at k4
    refine PFn.mk (Spec.body Try.func9 rfl rfl (Try.ntmps9) rfl fun w0 own0 M => ?_)
    repeat' (first | refine goH ?_ | refine goV ?_ | refine goC (fun ad cap => ?_) | refine goG ?_ | (refine Ops.k_guard ?_; first | (refine Ops.guard_dec rfl rfl (fun hc => ?_) (fun hc => ?_) <;> try (exfalso; omega)) | refine Ops.guard_split rfl rfl (fun hc => ?_) (fun hc => ?_)) | refine goI ?_ | (refine Cw.k_cond ?_; first | (refine Cw.cond_dec rfl (fun hc => ?_) (fun hc => ?_) <;> try (exfalso; omega)) | refine Cw.cond_bool rfl (fun hc => ?_) (fun hc => ?_)) | (refine Ops.k_calla ?_; first | refine Ops.callV k1 (Evs.cons rfl Evs.nil) rfl ?_ | (refine Ops.k_callf 25 ?_; refine Ops.callS k3 (Evs.cons rfl (Evs.cons rfl Evs.nil)) (List.Perm.refl _) rfl ?_) | (refine Ops.k_callf 25 ?_; refine Ops.callS k4 (Evs.cons rfl (Evs.cons rfl Evs.nil)) (List.Perm.refl _) rfl ?_)) | fail)
    exact Fin.ret (Ent.trans (Ent.nilsl 2 (s := 6) rfl) (Ent.take goTk)) (Outs.two rfl rfl rfl) ⟨rfl, rfl⟩
  · rw [c1] at k3
    refine PFn.mk (Spec.body Try.func9 rfl rfl (Try.ntmps9) rfl fun w0 own0 M => ?_)
    repeat' (first | refine goH ?_ | refine goV ?_ | refine goC (fun ad cap => ?_) | refine goG ?_ | (refine Ops.k_guard ?_; first | (refine Ops.guard_dec rfl rfl (fun hc => ?_) (fun hc => ?_) <;> try (exfalso; omega)) | refine Ops.guard_split rfl rfl (fun hc => ?_) (fun hc => ?_)) | refine goI ?_ | (refine Cw.k_cond ?_; first | (refine Cw.cond_dec rfl (fun hc => ?_) (fun hc => ?_) <;> try (exfalso; omega)) | refine Cw.cond_bool rfl (fun hc => ?_) (fun hc => ?_)) | (refine Ops.k_calla ?_; first | refine Ops.callV k1 (Evs.cons rfl Evs.nil) rfl ?_ | (refine Ops.k_callf 25 ?_; refine Ops.callS k3 (Evs.cons rfl (Evs.cons rfl Evs.nil)) (List.Perm.refl _) rfl ?_)) | fail)
    exact Fin.ret (Ent.trans (Ent.nilsl 2 (s := 6) rfl) (Ent.take goTk)) (Outs.two rfl rfl rfl) ⟨rfl, rfl⟩
end Lg
end
section
set_option linter.all false
set_option maxRecDepth 100000
set_option maxHeartbeats 8000000
namespace Lg
open Go Go.Proofs

theorem doubts_fn (l : List Tube) (p t : List Int) (hp : p.length ≤ 12) (ht : t.length ≤ 12) (h0 : tubesErr l = 0) (h1 : doubt1 p t = 0) (k1 : PFn Try.prog 24 [.tubes l] (· = .int (tubesErr l))) : PFn Try.prog 9 [.tubes l, .ints p, .ints t] (· = .tup [.dbts (prs (canK l l.length) (dd (srt p)) (dd (srt t))), .int 0]) := by
  have hP := intRows_len p
  have hT := intRows_len t
  rw [h0] at k1
  have ho := tubesErr_ok h0
  obtain ⟨hp1, ht1, c1, c2⟩ := doubt1_ok h1
  have bp := odB_bd c1
  have bt := odB_bd c2
  have k3 : Spec Try.prog 25 [.ints p, Tr.raw (.func (.func 29) #[] #[])] [] (fun x cs => x = .bool (p.any odB) ∧ cs = []) := containsFunc_int (p := odB) (caps := []) (cin := []) (l := p) (by omega) (fun x _ => (dbtC_fn x).lend)
  have k4 : Spec Try.prog 25 [.ints t, Tr.raw (.func (.func 29) #[] #[])] [] (fun x cs => x = .bool (t.any odB) ∧ cs = []) := containsFunc_int (p := odB) (caps := []) (cin := []) (l := t) (by omega) (fun x _ => (dbtC_fn x).lend)
  rw [c1] at k3
  rw [c2] at k4
  have k5 := reached_fn l ho 20000 (by omega)
  have kp := fun b => sorted_fn p hp b
  have kt := fun b => sorted_fn t ht b
  have hsp : p.length = (srt p).length := (isort_len _ p).symm
  have hst : t.length = (srt t).length := (isort_len _ t).symm
  have kcp := fun ad cap => compact_int (ad := ad) (cap := cap) (srt p) hsp (by omega)
  have kct := fun ad cap => compact_int (ad := ad) (cap := cap) (srt t) hst (by omega)
  have mp : ∀ x ∈ dd (srt p), 1 ≤ x ∧ x ≤ 20000 := fun x hx => bp x ((isort_perm _ p).mem_iff.1 ((dd_mem _ _).1 hx))
  have mt : ∀ x ∈ dd (srt t), 1 ≤ x ∧ x ≤ 20000 := fun x hx => bt x ((isort_perm _ t).mem_iff.1 ((dd_mem _ _).1 hx))
  have lp : (dd (srt p)).length ≤ 12 := by have := dd_le (srt p); omega
  have lt : (dd (srt t)).length ≤ 12 := by have := dd_le (srt t); omega
  refine PFn.mk (Spec.body Try.func9 rfl rfl (Try.ntmps9) rfl fun w0 own0 M => ?_)
  repeat' (first | refine goH ?_ | refine goV ?_ | refine goC (fun ad cap => ?_) | refine goG ?_ | (refine Ops.k_guard ?_; first | (refine Ops.guard_dec rfl rfl (fun hc => ?_) (fun hc => ?_) <;> try (exfalso; omega)) | refine Ops.guard_split rfl rfl (fun hc => ?_) (fun hc => ?_)) | refine goI ?_ | (refine Cw.k_cond ?_; first | (refine Cw.cond_dec rfl (fun hc => ?_) (fun hc => ?_) <;> try (exfalso; omega)) | refine Cw.cond_bool rfl (fun hc => ?_) (fun hc => ?_)) | (refine Ops.k_calla ?_; first | refine Ops.callV k1 (Evs.cons rfl Evs.nil) rfl ?_ | (refine Ops.k_callf 25 ?_; refine Ops.callS k3 (Evs.cons rfl (Evs.cons rfl Evs.nil)) (List.Perm.refl _) rfl ?_) | (refine Ops.k_callf 25 ?_; refine Ops.callS k4 (Evs.cons rfl (Evs.cons rfl Evs.nil)) (List.Perm.refl _) rfl ?_) | (refine Ops.k_callf 30 ?_; refine Ops.callV k5 (Evs.cons rfl (Evs.cons rfl Evs.nil)) rfl ?_) | (refine Ops.k_callf 33 ?_; (refine Ops.call (values_fn p) (Evs.cons rfl Evs.nil) goPm rfl ?_; rintro r cs' ⟨bq, rfl, rfl⟩)) | (refine Ops.k_callf 33 ?_; (refine Ops.call (values_fn t) (Evs.cons rfl Evs.nil) goPm rfl ?_; rintro r cs' ⟨bq2, rfl, rfl⟩)) | (refine Ops.k_callf 32 ?_; (refine Ops.call (kp _) (Evs.cons rfl Evs.nil) goPm rfl ?_; rintro r cs' ⟨ad, cap, rfl, rfl⟩)) | (refine Ops.k_callf 32 ?_; (refine Ops.call (kt _) (Evs.cons rfl Evs.nil) goPm rfl ?_; rintro r cs' ⟨ad2, cap2, rfl, rfl⟩)) | (refine Ops.k_callf 31 ?_; (refine Ops.call (kcp _ _) (Evs.cons rfl Evs.nil) goPm rfl ?_; rintro r cs' ⟨np, hnp, rfl, rfl⟩)) | (refine Ops.k_callf 31 ?_; (refine Ops.call (kct _ _) (Evs.cons rfl Evs.nil) goPm rfl ?_; rintro r cs' ⟨nt, hnt, rfl, rfl⟩))) | fail)
  refine Cw.ent (Ent.trans (Ent.settle (s := 47) rfl goPk (by rw [List.length_map]; exact hnp)) (Ent.settle (s := 2) rfl goPk (by rw [List.length_map]; exact hnt))) ?_
  refine Cw.ent (Ent.nil 2 50) ?_
  rw [hnp]
  clear hnp hnt kp kt kcp kct hsp hst k1 k3 k4 k5
  generalize dd (srt p) = P at *
  generalize dd (srt t) = T at *
  generalize hcan : canK l l.length = can at *
  refine Cw.loopI [(2, _), (10, _), (47, _), (48, _)] _ (fun q e cc => ∃ (k n : Nat) (ad : Option Addr) (cap : Nat) (rows : List (List Tr)), q = P.length - k ∧ (k ≤ P.length ∧ rows = (prs can (P.take k) T).map Dbt.row ∧ n = rows.length) ∧ e = [(11, .raw (.slice ad n cap)), (49, .int k)] ∧ cc = [Chunk.own ad cap 2 50 rows]) ⟨_, _, _, (Ent.mkP goSub goPm), 0, 0, none, 0, [], rfl, ⟨by omega, rfl, rfl⟩, rfl, rfl⟩ ?_
  rintro _ _ _ ⟨k, n, ad3, cap3, rows, rfl, ⟨hk, hrows, hn⟩, rfl, rfl⟩
  have hPl : (P.map (fun x => [Tr.int x])).length = P.length := List.length_map _
  have hTl : (T.map (fun x => [Tr.int x])).length = T.length := List.length_map _
  by_cases hkl : k < P.length
  rotate_left
  · have hke : k = P.length := by omega
    subst hke
    rw [List.take_length] at hrows
    subst hn
    repeat' (first | refine goH ?_ | refine goV ?_ | refine goC (fun ad cap => ?_) | refine goG ?_ | (refine Ops.k_guard ?_; first | (refine Ops.guard_dec rfl rfl (fun hc => ?_) (fun hc => ?_) <;> try (exfalso; omega)) | refine Ops.guard_split rfl rfl (fun hc => ?_) (fun hc => ?_)) | refine goI ?_ | (refine Cw.k_cond ?_; first | (refine Cw.cond_dec rfl (fun hc => ?_) (fun hc => ?_) <;> try (exfalso; omega)) | refine Cw.cond_bool rfl (fun hc => ?_) (fun hc => ?_)) | fail)
    rw [hrows]
    refine Fin.ret (Ent.trans (Ent.settle (s := 6) rfl goPk rfl) (Ent.take goTk)) (Outs.many rfl (OutL.cons goOe (OutL.cons goOe OutL.nil)) rfl) ⟨rfl, rfl⟩
  obtain ⟨p0, hp0⟩ := at_lt (l := P) (k := k) hkl
  have rp : (P.map (fun x => [Tr.int x]))[k]? = some [Tr.int p0] := rows_at hp0
  have hpb := mp p0 (List.mem_of_getElem? hp0)
  have hnx := prs_snoc (can := can) (T := T) hp0
  clear hp0
  repeat' (first | refine goH ?_ | refine goV ?_ | refine goC (fun ad cap => ?_) | refine goG ?_ | (refine Ops.k_guard ?_; first | (refine Ops.guard_dec rfl rfl (fun hc => ?_) (fun hc => ?_) <;> try (exfalso; omega)) | refine Ops.guard_split rfl rfl (fun hc => ?_) (fun hc => ?_)) | refine goI ?_ | (refine Cw.k_cond ?_; first | (refine Cw.cond_dec rfl (fun hc => ?_) (fun hc => ?_) <;> try (exfalso; omega)) | refine Cw.cond_bool rfl (fun hc => ?_) (fun hc => ?_)) | fail)
  refine Cw.loopI [(10, _), (13, _), (49, _), (53, _), (54, _), (2, _), (47, _), (48, _)] _ (fun q e cc => ∃ (j n : Nat) (ad : Option Addr) (cap : Nat) (rows : List (List Tr)), q = T.length - j ∧ (j ≤ T.length ∧ rows = (prs can (P.take k) T ++ prsI can p0 (T.take j)).map Dbt.row ∧ n = rows.length) ∧ e = [(11, .raw (.slice ad n cap)), (55, .int j)] ∧ cc = [Chunk.own ad cap 2 50 rows]) ⟨_, _, _, (Ent.mkP goSub goPm), 0, n, ad3, cap3, rows, rfl, ⟨by omega, by rw [hrows]; simp [prsI], hn⟩, rfl, rfl⟩ ?_
  clear hrows hn
  rintro _ _ _ ⟨j, n, ad3, cap3, rows, rfl, ⟨hj, hrows, hn⟩, rfl, rfl⟩
  have hgl : (gb can (20000 + 1)).length = 20001 := by simp
  by_cases hjl : j < T.length
  rotate_left
  · have hje : j = T.length := by omega
    subst hje
    rw [List.take_length] at hrows
    repeat' (first | refine goH ?_ | refine goV ?_ | refine goC (fun ad cap => ?_) | refine goG ?_ | (refine Ops.k_guard ?_; first | (refine Ops.guard_dec rfl rfl (fun hc => ?_) (fun hc => ?_) <;> try (exfalso; omega)) | refine Ops.guard_split rfl rfl (fun hc => ?_) (fun hc => ?_)) | refine goI ?_ | (refine Cw.k_cond ?_; first | (refine Cw.cond_dec rfl (fun hc => ?_) (fun hc => ?_) <;> try (exfalso; omega)) | refine Cw.cond_bool rfl (fun hc => ?_) (fun hc => ?_)) | fail)
    exact ⟨_, _, _, (Ent.mk goSub goTk), ⟨k + 1, n, _, _, rows, rfl, ⟨by omega, by rw [hrows, hnx]; rfl, hn⟩, rfl, rfl⟩, by omega⟩
  obtain ⟨v, hv⟩ := at_lt (l := T) (k := j) hjl
  have rv : (T.map (fun x => [Tr.int x]))[j]? = some [Tr.int v] := rows_at hv
  have hvb := mt v (List.mem_of_getElem? hv)
  by_cases c1 : p0 < v
  rotate_left
  · have hno := prsI_no (can := can) hv (show isD can p0 v = false by unfold isD; rw [decide_eq_false c1]; rfl)
    clear hv
    repeat' (first | refine goH ?_ | refine goV ?_ | refine goC (fun ad cap => ?_) | refine goG ?_ | (refine Ops.k_guard ?_; first | (refine Ops.guard_dec rfl rfl (fun hc => ?_) (fun hc => ?_) <;> try (exfalso; omega)) | refine Ops.guard_split rfl rfl (fun hc => ?_) (fun hc => ?_)) | refine goI ?_ | (refine Cw.k_cond ?_; first | (refine Cw.cond_dec rfl (fun hc => ?_) (fun hc => ?_) <;> try (exfalso; omega)) | refine Cw.cond_bool rfl (fun hc => ?_) (fun hc => ?_)) | fail)
    exact ⟨_, _, _, (Ent.mk goSub goTk), ⟨j + 1, n, _, _, rows, rfl, ⟨by omega, by rw [hrows, hno], hn⟩, rfl, rfl⟩, by omega⟩
  have rg : (gb can (20000 + 1))[(v - p0).toNat]? = some [Tr.bool (can (v - p0).toNat)] := gb_get (by omega)
  cases c2 : can (v - p0).toNat
  · have hyes := prsI_yes (can := can) hv (show isD can p0 v = true by unfold isD; rw [decide_eq_true c1, c2]; rfl)
    rw [c2] at rg
    clear hv
    have hbd : rows.length ≤ 200 := by
      have x1 := prs_len (can := can) (P.take k) T
      have x2 : (prsI can p0 (T.take j)).length ≤ T.length := by
        unfold prsI
        rw [List.length_map]
        have := List.length_filter_le (isD can p0) (T.take j)
        rw [List.length_take] at this
        omega
      have x3 : (P.take k).length * T.length ≤ 12 * 12 := Nat.mul_le_mul (by rw [List.length_take]; omega) lt
      rw [hrows, List.length_map, List.length_append]
      omega
    have hn2 : (rows ++ [[Tr.int p0, Tr.int v]]).length = n + 1 := by rw [List.length_append, ← hn]; rfl
    have hr2 : rows ++ [[Tr.int p0, Tr.int v]] = (prs can (P.take k) T ++ prsI can p0 (T.take (j + 1))).map Dbt.row := by rw [hrows, hyes, ← List.append_assoc]; simp
    repeat' (first | refine goH ?_ | refine goV ?_ | refine goC (fun ad cap => ?_) | refine goG ?_ | (refine Ops.k_guard ?_; first | (refine Ops.guard_dec rfl rfl (fun hc => ?_) (fun hc => ?_) <;> try (exfalso; omega)) | refine Ops.guard_split rfl rfl (fun hc => ?_) (fun hc => ?_)) | refine goI ?_ | (refine Cw.k_cond ?_; first | (refine Cw.cond_dec rfl (fun hc => ?_) (fun hc => ?_) <;> try (exfalso; omega)) | refine Cw.cond_bool rfl (fun hc => ?_) (fun hc => ?_)) | fail)
    exact ⟨_, _, _, (Ent.mk goSub goTk), ⟨j + 1, _, _, _, _, rfl, ⟨by omega, hr2, rfl⟩, rfl, rfl⟩, by omega⟩
  · have hno := prsI_no (can := can) hv (show isD can p0 v = false by unfold isD; rw [c2]; simp)
    rw [c2] at rg
    clear hv
    repeat' (first | refine goH ?_ | refine goV ?_ | refine goC (fun ad cap => ?_) | refine goG ?_ | (refine Ops.k_guard ?_; first | (refine Ops.guard_dec rfl rfl (fun hc => ?_) (fun hc => ?_) <;> try (exfalso; omega)) | refine Ops.guard_split rfl rfl (fun hc => ?_) (fun hc => ?_)) | refine goI ?_ | (refine Cw.k_cond ?_; first | (refine Cw.cond_dec rfl (fun hc => ?_) (fun hc => ?_) <;> try (exfalso; omega)) | refine Cw.cond_bool rfl (fun hc => ?_) (fun hc => ?_)) | fail)
    exact ⟨_, _, _, (Ent.mk goSub goTk), ⟨j + 1, n, _, _, rows, rfl, ⟨by omega, by rw [hrows, hno], hn⟩, rfl, rfl⟩, by omega⟩
end Lg
end
