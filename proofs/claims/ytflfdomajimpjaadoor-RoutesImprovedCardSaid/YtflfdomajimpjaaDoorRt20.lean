/- A part of the proof of a law of this seat: it adds no condition. By an AI agent. -/
import Derived.Test.YtflfdomajimpjaaDoorFrame
import Derived.Test.YtflfdomajimpjaaDoorRt19
section
set_option linter.all false
namespace Lg
open Go Go.Proofs

theorem Ops.shut0 {P : Program} {Γ : Ctx} {env : Env} {cs : List Chunk} {Q : Post} {R : Array Oper} {l : List Oper} {ty b : Nat} {cells : List Tr} {rows : List (List Tr)} (h : cells = [Tr.sl 1 rows, Tr.int ((0 : Nat) : Int)]) (k : Ops P Γ R l env (Chunk.strm ty b rows 0 :: cs) Q) : Ops P Γ R l env (Chunk.box b ty cells :: cs) Q := by
  subst h
  exact Ops.ent (Ent.shut_strm (m := 0) (Nat.le_refl 0)) k
end Lg
end
section
set_option linter.all false
set_option maxRecDepth 100000
set_option maxHeartbeats 8000000
namespace Lg
open Go Go.Proofs

theorem rdc_spot : ∀ w A vs, RdC w A [Tr.intS (fun _ => True), Tr.intS (fun _ => True)] vs → ∃ r : Spot, True ∧ RdC w A [Tr.int r.x, Tr.int r.y] vs := by
  intro w A vs h
  obtain ⟨v, vs1, rfl, h1, h2, v2, vs2, rfl, h3, h4, h5⟩ := h
  obtain ⟨n, _, hn⟩ := open_intS w A v h1
  obtain ⟨l, hl, hr⟩ := open_intS w A v2 h3
  exact ⟨⟨n, l⟩, trivial, ⟨v, _, rfl, hn, h2, v2, vs2, rfl, hr, h4, h5⟩⟩
theorem eqfI_fn (rs : List (List Int)) (hl : rs.length ≤ 1000) (hv : ∀ r ∈ rs, r.length ≤ 1000) : PFn Tryd.prog 23 [.sl 1 (roI rs), .sl 1 (roI rs), Tr.raw (.func (.func 14) #[] #[])] (· = .bool true) := by
  refine PFn.mk (Spec.body Tryd.func23 rfl rfl (Tryd.ntmps23) rfl fun w0 own0 M => ?_)
  have hR := roI_len rs
  repeat' (first | refine goH ?_ | refine goV ?_ | refine goI ?_ | (refine Cw.k_cond ?_; first | (refine Cw.cond_dec rfl (fun hc => ?_) (fun hc => ?_) <;> try (exfalso; omega)) | refine Cw.cond_bool rfl (fun hc => ?_) (fun hc => ?_)) | fail)
  refine Cw.loopI [(1, _), (2, _), (15, _), (16, _)] _ (fun q e cc => ∃ (k : Nat), q = rs.length - k ∧ (k ≤ rs.length) ∧ e = [(17, .int k)] ∧ cc = []) ⟨_, _, _, (Ent.mkP goSub goPm), 0, rfl, by omega, rfl, rfl⟩ ?_
  rintro _ _ _ ⟨k, rfl, hk, rfl, rfl⟩
  by_cases hkl : k < rs.length
  · obtain ⟨r, hx⟩ := at_lt hkl
    have hr1 := roI_at hx
    have kE := (equalInts_same r (by have := hv r (List.mem_of_getElem? hx); omega)).lend
    repeat' (first | refine goH ?_ | refine goV ?_ | refine goI ?_ | (refine Cw.k_cond ?_; first | (refine Cw.cond_dec rfl (fun hc => ?_) (fun hc => ?_) <;> try (exfalso; omega)) | refine Cw.cond_bool rfl (fun hc => ?_) (fun hc => ?_)) | (refine Ops.k_calla ?_; first | refine Ops.callS_fn (caps := []) (args := [.ints r, .ints r]) rfl kE (Evs.cons rfl (Evs.cons rfl Evs.nil)) (List.Perm.refl _) rfl ?_) | fail)
    exact ⟨_, _, _, (Ent.mk goSub goTk), ⟨k + 1, rfl, by omega, rfl, rfl⟩, by omega⟩
  · repeat' (first | refine goH ?_ | refine goV ?_ | refine goI ?_ | (refine Cw.k_cond ?_; first | (refine Cw.cond_dec rfl (fun hc => ?_) (fun hc => ?_) <;> try (exfalso; omega)) | refine Cw.cond_bool rfl (fun hc => ?_) (fun hc => ?_)) | fail)
    exact Fin.ret (Ent.take goTk) (Outs.one rfl rfl) ⟨rfl, rfl⟩
/-! ### the results, in one form -/
theorem insAt_len2 (o : List Int) (i : Nat) (x : Int) : (insAt o i x).length ≤ o.length + 1 := by
  unfold insAt
  rw [List.length_append, List.length_take, List.length_cons, List.length_drop]
  omega
theorem insG_len {l : List Stop} {h : Spot} {s : Int} {o : List Int} {x : Int} : ∀ (n k : Nat) (st : ISt), st.1.length ≤ o.length + 1 → (insG l h s o x k n st).1.length ≤ o.length + 1
  | 0, k, st, hst => hst
  | n + 1, k, st, hst => by
    rw [insG]
    refine insG_len n (k + 1) _ ?_
    unfold insS
    cases hd : drv l h (insAt o k x) h s [] 0 0 with
    | none => exact hst
    | some r =>
      simp only
      split
      · exact insAt_len2 o k x
      · exact hst
theorem insE2_one (l : List Stop) (h : Spot) (s : Int) (o : List Int) (x : Int) : ∃ (a : List Int) (e : Int), insE2 l h s o x = .tup [.ints a, .int e] ∧ a.length ≤ o.length + 1 := by
  unfold insE2
  split
  · exact ⟨[], _, rfl, by simp⟩
  · split
    · exact ⟨[], _, rfl, by simp⟩
    · split
      · exact ⟨[], _, rfl, by simp⟩
      · split
        · exact ⟨_, _, rfl, insG_len _ _ _ (by simp)⟩
        · exact ⟨[], _, rfl, by simp⟩
theorem impS_len {l : List Stop} {h : Spot} {s : Int} {b : List Int} {i j : Nat} {st : IS} (hst : st.1.length = b.length) : (impS l h s b i j st).1.length = b.length := by
  unfold impS
  cases hd : drv l h (revI b i j) h s [] 0 0 with
  | none => exact hst
  | some r =>
    simp only
    split
    · exact revI_len b i j
    · exact hst
theorem impJ_len {l : List Stop} {h : Spot} {s : Int} {b : List Int} {i : Nat} : ∀ (n j : Nat) (st : IS), st.1.length = b.length → (impJ l h s b i j n st).1.length = b.length
  | 0, _, _, h => h
  | n + 1, j, st, h => impJ_len n (j + 1) _ (impS_len h)
theorem impI_len {l : List Stop} {h : Spot} {s : Int} {b : List Int} : ∀ (n i : Nat) (st : IS), st.1.length = b.length → (impI l h s b i n st).1.length = b.length
  | 0, _, _, h => h
  | n + 1, i, st, h => impI_len n (i + 1) _ (impJ_len _ _ _ h)
theorem impR_len {l : List Stop} {h : Spot} {s : Int} : ∀ (n : Nat) (st : IS), (impR l h s n st).1.length = st.1.length
  | 0, _ => rfl
  | n + 1, st => by
    rw [impR]
    have := impI_len (l := l) (h := h) (s := s) (b := st.1) st.1.length 0 st rfl
    split
    · exact this
    · rw [impR_len n, this]
theorem impE_one (l : List Stop) (h : Spot) (s : Int) (o : List Int) (r : Int) : ∃ (b : List Int) (w e : Int), impE l h s o r = .tup [.ints b, .int w, .int e] ∧ b.length ≤ o.length := by
  unfold impE
  split
  · exact ⟨[], _, _, rfl, by simp⟩
  · split
    · exact ⟨[], _, _, rfl, by simp⟩
    · split
      · exact ⟨[], _, _, rfl, by simp⟩
      · exact ⟨_, _, _, rfl, by rw [impR_len]; exact Nat.le_refl _⟩
theorem splI_ok {l : List Stop} {h : Spot} {s : Int} {i : Nat} {rs : List (List Int)} (hrs : ∀ o ∈ rs, okR l h s i o) (hi : i < l.length) : (splI l h s i rs).length = rs.length ∧ ∀ o ∈ splI l h s i rs, okR l h s (i + 1) o := by
  have hT := okS_all hrs hi rs.length 0 (-1, 0, []) (by omega) (.inl rfl)
  unfold splI
  generalize itF (splK l h s rs i) 0 rs.length (-1, 0, []) = T at *
  split
  · rename_i h0
    rcases hT with hT | ⟨_, _, h3, _⟩
    · omega
    · refine ⟨List.length_set, fun y hy => ?_⟩
      rcases List.mem_or_eq_of_mem_set hy with hm | hm
      · exact okR_mono (hrs y hm)
      · rw [hm]; exact h3
  · exact ⟨rfl, fun y hy => okR_mono (hrs y hy)⟩
theorem itF_ok {l : List Stop} {h : Spot} {s : Int} : ∀ (n i : Nat) (rs : List (List Int)), i + n ≤ l.length → (∀ o ∈ rs, okR l h s i o) → (itF (splI l h s) i n rs).length = rs.length ∧ ∀ o ∈ itF (splI l h s) i n rs, okR l h s (i + n) o
  | 0, i, rs, _, hrs => ⟨rfl, hrs⟩
  | n + 1, i, rs, hi, hrs => by
    rw [itF]
    obtain ⟨h1, h2⟩ := splI_ok hrs (show i < l.length by omega)
    obtain ⟨h3, h4⟩ := itF_ok n (i + 1) _ (by omega) h2
    exact ⟨h3.trans h1, fun o ho => by have := h4 o ho; rwa [show i + (n + 1) = i + 1 + n by omega]⟩
theorem splE_one (l : List Stop) (h : Spot) (s : Int) (c : Int) : ∃ (rs : List (List Int)) (e : Int), splE l h s c = .tup [.sl 1 (roI rs), .int e] ∧ rs.length ≤ 1000 ∧ ∀ o ∈ rs, o.length ≤ l.length := by
  unfold splE
  split
  · exact ⟨[], _, rfl, by simp, by simp⟩
  · obtain ⟨h1, h2⟩ := itF_ok (l := l) (h := h) (s := s) l.length 0 (List.replicate c.toNat []) (by omega) (fun o ho => by rw [List.eq_of_mem_replicate ho]; exact okR_nil)
    refine ⟨_, _, rfl, by rw [h1, List.length_replicate]; omega, fun o ho => ?_⟩
    have := (h2 o ho).2.2.2
    omega
attribute [local irreducible] intRows insAt drv drvU drvE ordersE tripE roI wayO insT splK splI itF insE2 impE splE
theorem routesImproved_law (xs : List Int) : Spec Tryd.prog 4 [Tr.ints xs] [] (fun r _ => r = Tr.bool true) := by
  refine Spec.body Tryd.func4 rfl rfl (Tryd.ntmps4) rfl fun w0 own0 M => ?_
  repeat' (first | refine goH ?_ | ((fail_if_success refine Ops.k_c_call ?_); refine goV ?_) | ((fail_if_success refine Ops.k_c_call ?_); refine goB (fun b => ?_)) | refine goG ?_ | (refine Ops.k_guard ?_; first | (refine Ops.guard_dec rfl rfl (fun hc => ?_) (fun hc => ?_) <;> try (exfalso; omega)) | refine Ops.guard_split rfl rfl (fun hc => ?_) (fun hc => ?_)) | refine goI ?_ | (refine Cw.k_cond ?_; first | (refine Cw.cond_dec rfl (fun hc => ?_) (fun hc => ?_) <;> try (exfalso; omega)) | refine Cw.cond_bool rfl (fun hc => ?_) (fun hc => ?_)) | refine Ops.shut0 (ty := 25) rfl ?_ | (refine Ops.k_calla ?_; first | (refine Ops.k_callf 6 ?_; (refine Ops.callG (stops_gen 7 (by omega)) (Evs.cons rfl (Evs.cons rfl Evs.nil)) goPk (by omega) rfl ?_; rintro r ⟨l, rfl, hll⟩)) | (refine Ops.k_callf 8 ?_; (refine Ops.callG spot_gen (Evs.cons rfl Evs.nil) goPk (by omega) rfl ?_; rintro r ⟨h, rfl, hsp⟩)) | (refine Ops.k_callf 7 ?_; (refine Ops.callG (pick_gen (by repeat' (first | exact IsInts.nil | apply IsInts.cons)) (by simp)) (Evs.cons rfl (Evs.cons rfl Evs.nil)) goPk (by omega) rfl ?_; rintro r ⟨v, rfl, hd⟩; have hv : -1000000 ≤ v ∧ v ≤ 1000000 := (by simp at hd; omega); clear hd)) | (refine Ops.k_callf 16 ?_; (refine Ops.callG (route_gen (l.map Stop.row).length (by rw [List.length_map]; omega)) (Evs.cons rfl (Evs.cons rfl Evs.nil)) goPk (by omega) rfl ?_; rintro r ⟨o, rfl, hol⟩))) | fail)
  rename_i st hst sk hsk tm htm
  have k4 := routeFault_fn h l st (by omega)
  have k3 := split_fn h l st v (by omega) hv
  by_cases ht : tripE h l st ≠ 0
  · have k1 := insertE_fn h l st sk o ht (by omega) (by omega)
    have k2 := improveE_fn h l st tm o ht (by omega) (by omega)
    rw [if_pos ht] at k3
    generalize tripE h l st = E at *
    unfold Spot.row at *
    repeat' (first | refine goH ?_ | (refine Ops.k_b_eql ?_; first | (refine Ops.val' rfl (OpV.eql_t rfl rfl (by omega)) ?_)) | (refine Ops.k_b_neq ?_; first | (refine Ops.val' rfl (OpV.neq_t rfl rfl (by omega)) ?_) | (refine Ops.val' rfl (OpV.neq_f rfl rfl (by omega)) ?_)) | refine goV ?_ | refine goB (fun b => ?_) | refine goG ?_ | (refine Ops.k_guard ?_; first | (refine Ops.guard_dec rfl rfl (fun hc => ?_) (fun hc => ?_) <;> try (exfalso; omega)) | refine Ops.guard_split rfl rfl (fun hc => ?_) (fun hc => ?_)) | refine goI ?_ | (refine Cw.k_cond ?_; first | (refine Cw.cond_dec rfl (fun hc => ?_) (fun hc => ?_) <;> try (exfalso; omega)) | refine Cw.cond_bool rfl (fun hc => ?_) (fun hc => ?_)) | (refine Ops.k_calla ?_; first | (refine Ops.k_callf 17 ?_; refine Ops.callV k1 (Evs.cons rfl (Evs.cons rfl (Evs.cons rfl (Evs.cons rfl (Evs.cons rfl Evs.nil))))) rfl ?_) | (refine Ops.k_callf 18 ?_; refine Ops.callV k2 (Evs.cons rfl (Evs.cons rfl (Evs.cons rfl (Evs.cons rfl (Evs.cons rfl Evs.nil))))) rfl ?_) | (refine Ops.k_callf 19 ?_; refine Ops.callV k3 (Evs.cons rfl (Evs.cons rfl (Evs.cons rfl (Evs.cons rfl Evs.nil)))) rfl ?_) | (refine Ops.k_callf 11 ?_; refine Ops.callV k4 (Evs.cons rfl (Evs.cons rfl (Evs.cons rfl Evs.nil))) rfl ?_) | (refine Ops.k_callf 12 ?_; refine Ops.callV rounds_fn Evs.nil rfl ?_)) | fail)
    all_goals exact Fin.ret Ent.refl (Outs.one rfl rfl) rfl
  rw [if_neg ht] at k3
  have ht0 : tripE h l st = 0 := by omega
  have k1 := insertU_fn h l st sk o ht0 hsk (by omega)
  have k2 := improveU_fn h l st tm o ht0 htm (by omega)
  have k5 := insertedR_fn h l st sk o ht0 hsk (by omega)
  have k6 := improvedR_fn h l st tm o ht0 htm (by omega)
  have k7 := splitR_fn h l st v ht0 hv
  rw [ht0] at k4
  obtain ⟨A, e1, hA, hAl⟩ := insE2_one l h st o sk
  obtain ⟨B, w2, e2, hB, hBl⟩ := impE_one l h st o tm
  obtain ⟨C, e3, hC, hCl, hCv⟩ := splE_one l h st v
  rw [hA] at k1 k5
  rw [hB] at k2 k6
  rw [hC] at k3 k7
  have q1 := equalInts_same A (by omega)
  have q2 := equalInts_same B (by omega)
  have q3 := eqfI_fn C hCl (fun o ho => by have := hCv o ho; omega)
  unfold Spot.row at *
  clear hA hB hC hCv hsp
  repeat' (first | refine goH ?_ | (refine Ops.k_b_eql ?_; first | (refine Ops.val' rfl (OpV.eql_t rfl rfl (by omega)) ?_)) | (refine Ops.k_b_neq ?_; first | (refine Ops.val' rfl (OpV.neq_t rfl rfl (by omega)) ?_) | (refine Ops.val' rfl (OpV.neq_f rfl rfl (by omega)) ?_)) | refine goV ?_ | refine goB (fun b => ?_) | refine goG ?_ | (refine Ops.k_guard ?_; first | (refine Ops.guard_dec rfl rfl (fun hc => ?_) (fun hc => ?_) <;> try (exfalso; omega)) | refine Ops.guard_split rfl rfl (fun hc => ?_) (fun hc => ?_)) | refine goI ?_ | (refine Cw.k_cond ?_; first | (refine Cw.cond_dec rfl (fun hc => ?_) (fun hc => ?_) <;> try (exfalso; omega)) | refine Cw.cond_bool rfl (fun hc => ?_) (fun hc => ?_)) | (refine Ops.k_calla ?_; first | (refine Ops.k_callf 17 ?_; refine Ops.callV k1 (Evs.cons rfl (Evs.cons rfl (Evs.cons rfl (Evs.cons rfl (Evs.cons rfl Evs.nil))))) rfl ?_) | (refine Ops.k_callf 18 ?_; refine Ops.callV k2 (Evs.cons rfl (Evs.cons rfl (Evs.cons rfl (Evs.cons rfl (Evs.cons rfl Evs.nil))))) rfl ?_) | (refine Ops.k_callf 19 ?_; refine Ops.callV k3 (Evs.cons rfl (Evs.cons rfl (Evs.cons rfl (Evs.cons rfl Evs.nil)))) rfl ?_) | (refine Ops.k_callf 11 ?_; refine Ops.callV k4 (Evs.cons rfl (Evs.cons rfl (Evs.cons rfl Evs.nil))) rfl ?_) | (refine Ops.k_callf 20 ?_; refine Ops.callV k5 (Evs.cons rfl (Evs.cons rfl (Evs.cons rfl (Evs.cons rfl (Evs.cons rfl Evs.nil))))) rfl ?_) | (refine Ops.k_callf 21 ?_; refine Ops.callV k6 (Evs.cons rfl (Evs.cons rfl (Evs.cons rfl (Evs.cons rfl (Evs.cons rfl Evs.nil))))) rfl ?_) | (refine Ops.k_callf 22 ?_; refine Ops.callV k7 (Evs.cons rfl (Evs.cons rfl (Evs.cons rfl (Evs.cons rfl Evs.nil)))) rfl ?_) | (refine Ops.k_callf 14 ?_; refine Ops.callV q1 (Evs.cons rfl (Evs.cons rfl Evs.nil)) rfl ?_) | (refine Ops.k_callf 14 ?_; refine Ops.callV q2 (Evs.cons rfl (Evs.cons rfl Evs.nil)) rfl ?_) | (refine Ops.k_callf 23 ?_; refine Ops.callV q3 (Evs.cons rfl (Evs.cons rfl (Evs.cons rfl Evs.nil))) rfl ?_) | (refine Ops.k_callf 12 ?_; refine Ops.callV rounds_fn Evs.nil rfl ?_)) | fail)
  all_goals exact Fin.ret Ent.refl (Outs.one rfl rfl) rfl
end Lg
end
