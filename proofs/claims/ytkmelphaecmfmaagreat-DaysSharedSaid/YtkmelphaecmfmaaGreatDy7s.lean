/- A part of the proof of a law of this seat: it adds no condition. By an AI agent. -/
import Derived.Test.YtkmelphaecmfmaaGreatDy6
import Derived.Test.YtkmelphaecmfmaaGreatLaw
set_option linter.all false
set_option maxRecDepth 100000
set_option maxHeartbeats 8000000
namespace Lg
open Go Go.Proofs

theorem shEN_ok {t : Int} {ws : List Int} (h : shE t ws = 0) : (0 ≤ t ∧ t ≤ 1000000000) ∧ 1 ≤ ws.length ∧ (∀ w ∈ ws, 0 ≤ w ∧ w ≤ 1000000) ∧ 1 ≤ sumL ws := by
  unfold shE at h
  by_cases h1 : t < 0 ∨ 1000000000 < t
  · rw [if_pos h1] at h; cases h
  rw [if_neg h1] at h
  by_cases h2 : ws.length = 0
  · rw [if_pos h2] at h; cases h
  rw [if_neg h2] at h
  by_cases h3 : ws.length > 5000
  · rw [if_pos h3] at h; cases h
  rw [if_neg h3] at h
  by_cases h4 : ws.any wtBad = true ∨ sumL ws = 0
  · rw [if_pos h4] at h; cases h
  have h5 : ws.any wtBad = false := by cases h6 : ws.any wtBad; rfl; exact absurd (.inl h6) h4
  have h7 : sumL ws ≠ 0 := fun h => h4 (.inr h)
  have hb : ∀ w ∈ ws, 0 ≤ w ∧ w ≤ 1000000 := fun w hw => by
    have := List.any_eq_false.1 h5 w hw
    unfold wtBad at this
    simp only [decide_eq_true_eq] at this
    omega
  have := (sumL_bd hb).1
  exact ⟨by omega, by omega, hb, by omega⟩
theorem agE_ok {c : Int} {o : List Int} {w : Int} (h : agE c o w = 0) : (o.length : Int) = c ∧ ∀ x ∈ o, 0 ≤ x ∧ x ≤ 1000000000 := by
  unfold agE at h
  by_cases h1 : (o.length : Int) = c
  · rw [if_neg (fun h => h h1)] at h
    refine ⟨h1, fun x hx => ?_⟩
    by_cases h2 : o.any bdA = true ∨ bdA w = true
    · rw [if_pos h2] at h; cases h
    have h3 : o.any bdA = false := by cases h6 : o.any bdA; rfl; exact absurd (.inl h6) h2
    have := List.any_eq_false.1 h3 x hx
    simp [bdA, outB] at this
    omega
  · rw [if_pos h1] at h; cases h
theorem dyF_len (first : Int) : ∀ (Q : List Int) (i : Nat) (m : PI), (dyF first i Q m).length ≤ m.length + Q.length
  | [], i, m => by simp [dyF]
  | n :: Q, i, m => by
    have h1 := dyF_len first Q (i + 1) (mAdd (first + i) n m)
    have h2 := mUp_len (first + i) (mI (first + i) m + n) m
    rw [dyF, List.length_cons]
    unfold mAdd at h1 ⊢
    omega
theorem dyL_len (k : Nat) {cc : Nat} : ∀ (S : List Stp) (m : PI), (∀ s ∈ S, StD s cc) → (dyL k S m).length ≤ m.length + S.length * 4002
  | [], m, _ => by simp [dyL]
  | s :: S, m, h => by
    have hs := h s (by simp)
    have h1 := dyL_len k S (dyS k s m) (fun s' h' => h s' (by simp [h']))
    have h2 := dyF_len (s.a / 1440) (shG (s.s.getD k 0) (mins s.a s.b)) 0 m
    rw [shG_len, minsK_len] at h2
    have h3 := nDays_eq (a := s.a) (b := s.b) ⟨hs.a0, by have := hs.ab; omega⟩
    have h4 := hs.b1
    have h5 := hs.a0
    rw [dyL, List.length_cons]
    unfold dyS at h1 ⊢
    omega
theorem dyV_len (k : Nat) {cc : Nat} {S : List Stp} (hl : S.length ≤ 12) (h : ∀ s ∈ S, StD s cc) : (dyV (dyL k S [])).length ≤ 1000000 := by
  have h1 := dyL_len k S [] h
  have h2 := List.length_filter_le pz (dyL k S [])
  unfold dyV
  rw [isort_len]
  simp only [List.length_nil] at h1
  omega
structure HidT (p : Prop) : Prop where
  h : p
theorem useTail {T G : Prop} (h : HidT T → G) (t : T) : G := h ⟨t⟩
theorem daysShared_law (xs : List Int) : Spec Tryz.prog 3 [Tr.ints xs] [] (fun r _ => r = Tr.bool true) := by
  refine Spec.body Tryz.func3 rfl rfl (Tryz.ntmps3) rfl fun w0 own0 M => ?_
  repeat' (first | refine goH ?_ | refine goV ?_ | refine goB (fun b => ?_) | refine goG ?_ | (refine Ops.k_guard ?_; first | (refine Ops.guard_dec rfl rfl (fun hc => ?_) (fun hc => ?_) <;> try (exfalso; omega)) | refine Ops.guard_split rfl rfl (fun hc => ?_) (fun hc => ?_)) | refine goI ?_ | (refine Cw.k_cond ?_; first | (refine Cw.cond_dec rfl (fun hc => ?_) (fun hc => ?_) <;> try (exfalso; omega)) | refine Cw.cond_bool rfl (fun hc => ?_) (fun hc => ?_)) | refine Ops.shut0 (ty := 25) rfl ?_ | (refine Ops.k_calla ?_; first | (refine Ops.k_callf 4 ?_; (refine Ops.callG (pick_gen (by repeat' (first | exact IsInts.nil | apply IsInts.cons)) (by simp)) (Evs.cons rfl (Evs.cons rfl Evs.nil)) goPk (by omega) rfl ?_; rintro r ⟨tt, rfl, htt⟩; clear htt)) | (refine Ops.k_callf 5 ?_; (refine Ops.callG weights_gen (Evs.cons rfl Evs.nil) goPk (by omega) rfl ?_; rintro r ⟨ws, rfl, hwl, hwb⟩))) | fail)
  have kS := share_fn tt ws (by omega)
  have kF := shareFault_fn tt ws (by omega) hwb
  have k0 := metersN_fn
  unfold shT at kS
  clear hwb
  refine useTail (T := ?T) ?main ?tailp
  case' main => intro tail
  by_cases hsh : shE tt ws = 0
  · obtain ⟨s1, s2, s3, s4⟩ := shEN_ok hsh
    have kO := shareOf_fn tt ws s1 ⟨s2, by omega⟩ s3 s4
    have qS := equalInts_same (shOf tt ws) (by rw [shOf_len]; omega)
    rw [if_neg (by omega)] at kS
    rw [hsh] at kF
    generalize shOf tt ws = sh at kS kO qS
    repeat' (first | refine goH ?_ | (refine Ops.k_b_neq ?_; first | (refine Ops.val' rfl (OpV.neq_f rfl rfl (by omega)) ?_)) | (refine Ops.k_b_eql ?_; first | (refine Ops.val' rfl (OpV.eql_t rfl rfl (by omega)) ?_)) | refine goV ?_ | refine goB (fun b => ?_) | refine goG ?_ | (refine Ops.k_guard ?_; first | (refine Ops.guard_dec rfl rfl (fun hc => ?_) (fun hc => ?_) <;> try (exfalso; omega)) | refine Ops.guard_split rfl rfl (fun hc => ?_) (fun hc => ?_)) | refine goI ?_ | (refine Cw.k_cond ?_; first | (refine Cw.cond_dec rfl (fun hc => ?_) (fun hc => ?_) <;> try (exfalso; omega)) | refine Cw.cond_bool rfl (fun hc => ?_) (fun hc => ?_)) | (refine Ops.k_calla ?_; first | (refine Ops.k_callf 6 ?_; refine Ops.callV kS (Evs.cons rfl (Evs.cons rfl Evs.nil)) rfl ?_) | (refine Ops.k_callf 7 ?_; refine Ops.callV kF (Evs.cons rfl (Evs.cons rfl Evs.nil)) rfl ?_) | (refine Ops.k_callf 9 ?_; refine Ops.callV kO (Evs.cons rfl (Evs.cons rfl Evs.nil)) rfl ?_) | (refine Ops.k_callf 8 ?_; refine Ops.callV qS (Evs.cons rfl (Evs.cons rfl Evs.nil)) rfl ?_)) | fail)
    refine Ops.ent (Ent.sub (env' := [(58, Tr.ptr b), (3, Tr.ptr b)]) goSub) ?_
    exact tail.h
  · rw [if_pos hsh] at kS
    generalize shE tt ws = se at kS kF hsh
    repeat' (first | refine goH ?_ | (refine Ops.k_b_neq ?_; first | (refine Ops.val' rfl (OpV.neq_f rfl rfl (by omega)) ?_)) | (refine Ops.k_b_eql ?_; first | (refine Ops.val' rfl (OpV.eql_t rfl rfl (by omega)) ?_)) | refine goV ?_ | refine goB (fun b => ?_) | refine goG ?_ | (refine Ops.k_guard ?_; first | (refine Ops.guard_dec rfl rfl (fun hc => ?_) (fun hc => ?_) <;> try (exfalso; omega)) | refine Ops.guard_split rfl rfl (fun hc => ?_) (fun hc => ?_)) | refine goI ?_ | (refine Cw.k_cond ?_; first | (refine Cw.cond_dec rfl (fun hc => ?_) (fun hc => ?_) <;> try (exfalso; omega)) | refine Cw.cond_bool rfl (fun hc => ?_) (fun hc => ?_)) | (refine Ops.k_calla ?_; first | (refine Ops.k_callf 6 ?_; refine Ops.callV kS (Evs.cons rfl (Evs.cons rfl Evs.nil)) rfl ?_) | (refine Ops.k_callf 7 ?_; refine Ops.callV kF (Evs.cons rfl (Evs.cons rfl Evs.nil)) rfl ?_)) | fail)
    refine Ops.ent (Ent.sub (env' := [(58, Tr.ptr b), (3, Tr.ptr b)]) goSub) ?_
    exact tail.h
  case tailp =>
    clear kS kF
    repeat' (first | refine goH ?_ | refine goV ?_ | refine goB (fun b => ?_) | refine goG ?_ | (refine Ops.k_guard ?_; first | (refine Ops.guard_dec rfl rfl (fun hc => ?_) (fun hc => ?_) <;> try (exfalso; omega)) | refine Ops.guard_split rfl rfl (fun hc => ?_) (fun hc => ?_)) | refine goI ?_ | (refine Cw.k_cond ?_; first | (refine Cw.cond_dec rfl (fun hc => ?_) (fun hc => ?_) <;> try (exfalso; omega)) | refine Cw.cond_bool rfl (fun hc => ?_) (fun hc => ?_)) | (refine Ops.k_calla ?_; first | (refine Ops.k_callf 10 ?_; (refine Ops.callG meter_gen (Evs.cons rfl Evs.nil) goPk (by omega) rfl ?_; rintro r ⟨c, t, f, rfl, ht, hc, hf⟩)) | (refine Ops.k_callf 11 ?_; (refine Ops.callG (readings_gen c t f ⟨ht, hc, hf⟩) (Evs.cons rfl (Evs.cons rfl Evs.nil)) goPk (by omega) rfl ?_; rintro r ⟨L, rfl, hL1, hL2⟩)) | (refine Ops.k_callf 4 ?_; (refine Ops.callG (pick_gen (by repeat' (first | exact IsInts.nil | apply IsInts.cons)) (by simp)) (Evs.cons rfl (Evs.cons rfl Evs.nil)) goPk (by omega) rfl ?_; rintro r ⟨pk, rfl, hpk⟩; clear hpk))) | fail)
    rename_i kk lg
    have hL3 : ∀ r ∈ L, r.vs.length ≤ 1000 := hL2
    obtain ⟨e, D, hs, h0, hasc⟩ := srtA c t f L
    have k5 := sorted_fn c t f L hL1 hL3 ht
    have kSt := steps_fn c t f L hL1 hL3 ht hs h0
    have kSo := sold_fn c t f L hL1 hL3 ht hs h0
    unfold stsO at kSt
    unfold sldO at kSo
    rw [hs] at k5
    have kGF := gapsFault_fn L (by omega) lg
    have kG : PFn Tryz.prog 16 [.sl 2 (L.map Rdg.row), .int lg] (· = .tup [.sl 2 ((if gapE L lg = 0 then gapV L lg else []).map prD), .int (gapE L lg)]) := by
      by_cases h : gapE L lg = 0
      · have := gapsD_fn L hL1 lg h; rw [if_pos h, h]; exact this
      · have := gapsBad_fn L hL1 lg h; rw [if_neg h]; exact this
    have kGO := fun h : gapE L lg = 0 => gapsR_fn L hL1 lg h
    have qG := equal_wnd (gapV L lg) (by have := gpK_len lg (srI (L.map Rdg.t)) (L.length - 1); show (gpK lg (srI (L.map Rdg.t)) (L.length - 1)).length ≤ _; omega)
    have kAF := fun (o : List Int) (ho : o.length ≤ 1000) => agreeFault_fn c t f o ho pk
    generalize gapE L lg = ge at *
    generalize gapV L lg = gv at *
    clear hs hL2 hL3
    by_cases he : e = 0
    rotate_left
    · rw [if_neg he] at kSt kSo
      have kDs : PFn Tryz.prog 13 [.mtr c t f, .sl 2 (L.map Rdg.row), .int kk] (· = .tup [.sl 2 (([] : List (List Tr))), .int e]) := daysBad1_fn L he kSt kk
      have kA : ∀ o : List Int, PFn Tryz.prog 21 [.mtr c t f, .sl 2 (L.map Rdg.row), .ints o, .int pk] (· = .tup [.sl 3 (([] : List (List Tr))), .int e]) := fun o => agreeBad1_fn L he kSo o pk
      clear kSt kSo kAF h0 hasc
      by_cases hge : ge = 0
      · as_aux_lemma =>
        have kGO2 := kGO hge
        rw [if_pos hge] at kG
        subst hge
        clear kGO
        repeat' (first | refine goH ?_ | (refine Ops.k_b_neq ?_; first | (refine Ops.val' rfl (OpV.neq_f rfl rfl (by omega)) ?_)) | (refine Ops.k_b_eql ?_; first | (refine Ops.val' rfl (OpV.eql_t rfl rfl (by omega)) ?_)) | refine goV ?_ | refine goB (fun b => ?_) | refine goG ?_ | (refine Ops.k_guard ?_; first | (refine Ops.guard_dec rfl rfl (fun hc => ?_) (fun hc => ?_) <;> try (exfalso; omega)) | refine Ops.guard_split rfl rfl (fun hc => ?_) (fun hc => ?_)) | refine goI ?_ | (refine Cw.k_cond ?_; first | (refine Cw.cond_dec rfl (fun hc => ?_) (fun hc => ?_) <;> try (exfalso; omega)) | refine Cw.cond_bool rfl (fun hc => ?_) (fun hc => ?_)) | (refine Ops.k_calla ?_; first | (refine Ops.k_callf 12 ?_; refine Ops.callV k5 (Evs.cons rfl (Evs.cons rfl Evs.nil)) rfl ?_) | (refine Ops.k_callf 13 ?_; refine Ops.callV kDs (Evs.cons rfl (Evs.cons rfl (Evs.cons rfl Evs.nil))) rfl ?_) | (refine Ops.k_callf 16 ?_; refine Ops.callV kG (Evs.cons rfl (Evs.cons rfl Evs.nil)) rfl ?_) | (refine Ops.k_callf 17 ?_; refine Ops.callV kGF (Evs.cons rfl (Evs.cons rfl Evs.nil)) rfl ?_) | (refine Ops.k_callf 23 ?_; refine Ops.callV k0 Evs.nil rfl ?_) | (refine Ops.k_callf 20 ?_; (refine Ops.callG (numbersD_gen (max (min c 5) 0) 60 (by omega) (by omega)) (Evs.cons rfl (Evs.cons rfl (Evs.cons rfl Evs.nil))) goPk (by omega) rfl ?_; rintro r ⟨o, rfl, hol⟩)) | refine Ops.callV kGO2 (Evs.cons rfl (Evs.cons rfl Evs.nil)) rfl ?_ | (refine Ops.k_callf 18 ?_; refine Ops.callV qG (Evs.cons rfl (Evs.cons rfl Evs.nil)) rfl ?_) | (refine Ops.k_callf 21 ?_; (refine Ops.callV (kA _) (Evs.cons rfl (Evs.cons rfl (Evs.cons rfl (Evs.cons rfl Evs.nil)))) rfl ?_))) | fail)
        all_goals (refine Fin.ret Ent.refl (Outs.one rfl rfl) ?_; first | exact rfl | (exfalso; omega) | (exfalso; simp_all; done))
      · as_aux_lemma =>
        rw [if_neg hge] at kG
        clear kGO qG
        repeat' (first | refine goH ?_ | (refine Ops.k_b_neq ?_; first | (refine Ops.val' rfl (OpV.neq_f rfl rfl (by omega)) ?_)) | (refine Ops.k_b_eql ?_; first | (refine Ops.val' rfl (OpV.eql_t rfl rfl (by omega)) ?_)) | refine goV ?_ | refine goB (fun b => ?_) | refine goG ?_ | (refine Ops.k_guard ?_; first | (refine Ops.guard_dec rfl rfl (fun hc => ?_) (fun hc => ?_) <;> try (exfalso; omega)) | refine Ops.guard_split rfl rfl (fun hc => ?_) (fun hc => ?_)) | refine goI ?_ | (refine Cw.k_cond ?_; first | (refine Cw.cond_dec rfl (fun hc => ?_) (fun hc => ?_) <;> try (exfalso; omega)) | refine Cw.cond_bool rfl (fun hc => ?_) (fun hc => ?_)) | (refine Ops.k_calla ?_; first | (refine Ops.k_callf 12 ?_; refine Ops.callV k5 (Evs.cons rfl (Evs.cons rfl Evs.nil)) rfl ?_) | (refine Ops.k_callf 13 ?_; refine Ops.callV kDs (Evs.cons rfl (Evs.cons rfl (Evs.cons rfl Evs.nil))) rfl ?_) | (refine Ops.k_callf 16 ?_; refine Ops.callV kG (Evs.cons rfl (Evs.cons rfl Evs.nil)) rfl ?_) | (refine Ops.k_callf 17 ?_; refine Ops.callV kGF (Evs.cons rfl (Evs.cons rfl Evs.nil)) rfl ?_) | (refine Ops.k_callf 23 ?_; refine Ops.callV k0 Evs.nil rfl ?_) | (refine Ops.k_callf 20 ?_; (refine Ops.callG (numbersD_gen (max (min c 5) 0) 60 (by omega) (by omega)) (Evs.cons rfl (Evs.cons rfl (Evs.cons rfl Evs.nil))) goPk (by omega) rfl ?_; rintro r ⟨o, rfl, hol⟩)) | (refine Ops.k_callf 21 ?_; (refine Ops.callV (kA _) (Evs.cons rfl (Evs.cons rfl (Evs.cons rfl (Evs.cons rfl Evs.nil)))) rfl ?_))) | fail)
        all_goals (refine Fin.ret Ent.refl (Outs.one rfl rfl) ?_; first | exact rfl | (exfalso; omega) | (exfalso; simp_all; done))
    subst he
    rw [if_pos rfl] at kSt kSo
    obtain ⟨hm, hD, hDl⟩ := h0 rfl
    have hasc2 := hasc rfl
    have hmo := mtrE_ok hm
    have hSd := stD (f := f) hm hD hasc2
    have hSl : (stpsOf t f D).length ≤ 12 := by have := stps_len (t := t) (f := f) D; omega
    have kStO := stepsOf_fn c t f hm D hD (by omega)
    have kSoO := soldOf_fn c t f hm D hD (by omega)
    have hown1 : (soldL c t f D).length = c.toNat := soldF_lenN List.length_replicate (fun s hs => (hSd s hs).n)
    have hown2 : ∀ x ∈ soldL c t f D, 0 ≤ x ∧ x ≤ 1000000000 := fun x hx => by
      have := soldF_bd (m := 0) (acc := List.replicate c.toNat 0) (fun y hy => by rw [List.eq_of_mem_replicate hy]; omega) (fun s hs => (hSd s hs).v) x hx
      omega
    generalize soldL c t f D = own at *
    by_cases hk : kk < 0
    · have kDs : PFn Tryz.prog 13 [.mtr c t f, .sl 2 (L.map Rdg.row), .int kk] (· = .tup [.sl 2 (([] : List (List Tr))), .int 1]) := daysBad2_fn hmo.1 L (stpsOf t f D) kSt kk (.inl hk)
      clear kSt kStO hSd
      by_cases hge : ge = 0
      · have kGO2 := kGO hge
        rw [if_pos hge] at kG
        subst hge
        clear kGO
        repeat' (first | refine goH ?_ | (refine Ops.k_b_neq ?_; first | (refine Ops.val' rfl (OpV.neq_f rfl rfl (by omega)) ?_)) | (refine Ops.k_b_eql ?_; first | (refine Ops.val' rfl (OpV.eql_t rfl rfl (by omega)) ?_)) | refine goV ?_ | refine goB (fun b => ?_) | refine goG ?_ | (refine Ops.k_guard ?_; first | (refine Ops.guard_dec rfl rfl (fun hc => ?_) (fun hc => ?_) <;> try (exfalso; omega)) | refine Ops.guard_split rfl rfl (fun hc => ?_) (fun hc => ?_)) | refine goI ?_ | (refine Cw.k_cond ?_; first | (refine Cw.cond_dec rfl (fun hc => ?_) (fun hc => ?_) <;> try (exfalso; omega)) | refine Cw.cond_bool rfl (fun hc => ?_) (fun hc => ?_)) | (refine Ops.k_calla ?_; first | (refine Ops.k_callf 12 ?_; refine Ops.callV k5 (Evs.cons rfl (Evs.cons rfl Evs.nil)) rfl ?_) | (refine Ops.k_callf 13 ?_; refine Ops.callV kDs (Evs.cons rfl (Evs.cons rfl (Evs.cons rfl Evs.nil))) rfl ?_) | (refine Ops.k_callf 16 ?_; refine Ops.callV kG (Evs.cons rfl (Evs.cons rfl Evs.nil)) rfl ?_) | (refine Ops.k_callf 17 ?_; refine Ops.callV kGF (Evs.cons rfl (Evs.cons rfl Evs.nil)) rfl ?_) | (refine Ops.k_callf 23 ?_; refine Ops.callV k0 Evs.nil rfl ?_) | (refine Ops.k_callf 20 ?_; (refine Ops.callG (numbersD_gen (max (min c 5) 0) 60 (by omega) (by omega)) (Evs.cons rfl (Evs.cons rfl (Evs.cons rfl Evs.nil))) goPk (by omega) rfl ?_; rintro r ⟨o, rfl, hol⟩)) | refine Ops.callV kGO2 (Evs.cons rfl (Evs.cons rfl Evs.nil)) rfl ?_ | (refine Ops.k_callf 18 ?_; refine Ops.callV qG (Evs.cons rfl (Evs.cons rfl Evs.nil)) rfl ?_)) | fail)
        have hol2 : o.length ≤ 1000 := by omega
        have kAF2 := kAF o hol2
        by_cases hag : agE c o pk = 0
        · as_aux_lemma =>
          obtain ⟨g1, g2⟩ := agE_ok hag
          have kA : PFn Tryz.prog 21 [.mtr c t f, .sl 2 (L.map Rdg.row), .ints o, .int pk] (· = .tup [.sl 3 ((apK pk own o o.length).map prA), .int 0]) := agreeD_fn (c := c) L own kSo (by omega) hown2 o hol2 pk hag
          have kR : PFn Tryz.prog 25 [.mtr c t f, .sl 2 (D.map Rdg.row), .ints o, .int pk] (· = .sl 3 ((apK pk own o o.length).map prA)) := agreeR_fn (c := c) D own kSoO hown2 o (by omega) hol2 g2 pk
          have qA := equal_apt (apK pk own o o.length) (by have := apK_len pk own o o.length; omega)
          rw [hag] at kAF2
          generalize apK pk own o o.length = ap at *
          repeat' (first | refine goH ?_ | (refine Ops.k_b_neq ?_; first | (refine Ops.val' rfl (OpV.neq_f rfl rfl (by omega)) ?_)) | (refine Ops.k_b_eql ?_; first | (refine Ops.val' rfl (OpV.eql_t rfl rfl (by omega)) ?_)) | refine goV ?_ | refine goB (fun b => ?_) | refine goG ?_ | (refine Ops.k_guard ?_; first | (refine Ops.guard_dec rfl rfl (fun hc => ?_) (fun hc => ?_) <;> try (exfalso; omega)) | refine Ops.guard_split rfl rfl (fun hc => ?_) (fun hc => ?_)) | refine goI ?_ | (refine Cw.k_cond ?_; first | (refine Cw.cond_dec rfl (fun hc => ?_) (fun hc => ?_) <;> try (exfalso; omega)) | refine Cw.cond_bool rfl (fun hc => ?_) (fun hc => ?_)) | (refine Ops.k_calla ?_; first | (refine Ops.k_callf 21 ?_; refine Ops.callV kA (Evs.cons rfl (Evs.cons rfl (Evs.cons rfl (Evs.cons rfl Evs.nil)))) rfl ?_) | (refine Ops.k_callf 22 ?_; refine Ops.callV kAF2 (Evs.cons rfl (Evs.cons rfl (Evs.cons rfl Evs.nil))) rfl ?_) | (refine Ops.k_callf 25 ?_; refine Ops.callV kR (Evs.cons rfl (Evs.cons rfl (Evs.cons rfl (Evs.cons rfl Evs.nil)))) rfl ?_) | (refine Ops.k_callf 24 ?_; refine Ops.callV qA (Evs.cons rfl (Evs.cons rfl Evs.nil)) rfl ?_) | (refine Ops.k_callf 23 ?_; refine Ops.callV k0 Evs.nil rfl ?_)) | fail)
          all_goals (refine Fin.ret Ent.refl (Outs.one rfl rfl) ?_; first | exact rfl | (exfalso; omega) | (exfalso; simp_all; done))
        · as_aux_lemma =>
          have kA : PFn Tryz.prog 21 [.mtr c t f, .sl 2 (L.map Rdg.row), .ints o, .int pk] (· = .tup [.sl 3 (([] : List (List Tr))), .int (agE c o pk)]) := agreeBad2_fn (c := c) L own kSo o hol2 pk hag
          generalize agE c o pk = ag at *
          repeat' (first | refine goH ?_ | (refine Ops.k_b_neq ?_; first | (refine Ops.val' rfl (OpV.neq_f rfl rfl (by omega)) ?_)) | (refine Ops.k_b_eql ?_; first | (refine Ops.val' rfl (OpV.eql_t rfl rfl (by omega)) ?_)) | refine goV ?_ | refine goB (fun b => ?_) | refine goG ?_ | (refine Ops.k_guard ?_; first | (refine Ops.guard_dec rfl rfl (fun hc => ?_) (fun hc => ?_) <;> try (exfalso; omega)) | refine Ops.guard_split rfl rfl (fun hc => ?_) (fun hc => ?_)) | refine goI ?_ | (refine Cw.k_cond ?_; first | (refine Cw.cond_dec rfl (fun hc => ?_) (fun hc => ?_) <;> try (exfalso; omega)) | refine Cw.cond_bool rfl (fun hc => ?_) (fun hc => ?_)) | (refine Ops.k_calla ?_; first | (refine Ops.k_callf 21 ?_; refine Ops.callV kA (Evs.cons rfl (Evs.cons rfl (Evs.cons rfl (Evs.cons rfl Evs.nil)))) rfl ?_) | (refine Ops.k_callf 22 ?_; refine Ops.callV kAF2 (Evs.cons rfl (Evs.cons rfl (Evs.cons rfl Evs.nil))) rfl ?_) | (refine Ops.k_callf 23 ?_; refine Ops.callV k0 Evs.nil rfl ?_)) | fail)
          all_goals (refine Fin.ret Ent.refl (Outs.one rfl rfl) ?_; first | exact rfl | (exfalso; omega) | (exfalso; simp_all; done))
      rw [if_neg hge] at kG
      clear kGO qG
      repeat' (first | refine goH ?_ | (refine Ops.k_b_neq ?_; first | (refine Ops.val' rfl (OpV.neq_f rfl rfl (by omega)) ?_)) | (refine Ops.k_b_eql ?_; first | (refine Ops.val' rfl (OpV.eql_t rfl rfl (by omega)) ?_)) | refine goV ?_ | refine goB (fun b => ?_) | refine goG ?_ | (refine Ops.k_guard ?_; first | (refine Ops.guard_dec rfl rfl (fun hc => ?_) (fun hc => ?_) <;> try (exfalso; omega)) | refine Ops.guard_split rfl rfl (fun hc => ?_) (fun hc => ?_)) | refine goI ?_ | (refine Cw.k_cond ?_; first | (refine Cw.cond_dec rfl (fun hc => ?_) (fun hc => ?_) <;> try (exfalso; omega)) | refine Cw.cond_bool rfl (fun hc => ?_) (fun hc => ?_)) | (refine Ops.k_calla ?_; first | (refine Ops.k_callf 12 ?_; refine Ops.callV k5 (Evs.cons rfl (Evs.cons rfl Evs.nil)) rfl ?_) | (refine Ops.k_callf 13 ?_; refine Ops.callV kDs (Evs.cons rfl (Evs.cons rfl (Evs.cons rfl Evs.nil))) rfl ?_) | (refine Ops.k_callf 16 ?_; refine Ops.callV kG (Evs.cons rfl (Evs.cons rfl Evs.nil)) rfl ?_) | (refine Ops.k_callf 17 ?_; refine Ops.callV kGF (Evs.cons rfl (Evs.cons rfl Evs.nil)) rfl ?_) | (refine Ops.k_callf 23 ?_; refine Ops.callV k0 Evs.nil rfl ?_) | (refine Ops.k_callf 20 ?_; (refine Ops.callG (numbersD_gen (max (min c 5) 0) 60 (by omega) (by omega)) (Evs.cons rfl (Evs.cons rfl (Evs.cons rfl Evs.nil))) goPk (by omega) rfl ?_; rintro r ⟨o, rfl, hol⟩))) | fail)
      have hol2 : o.length ≤ 1000 := by omega
      have kAF2 := kAF o hol2
      by_cases hag : agE c o pk = 0
      · as_aux_lemma =>
        obtain ⟨g1, g2⟩ := agE_ok hag
        have kA : PFn Tryz.prog 21 [.mtr c t f, .sl 2 (L.map Rdg.row), .ints o, .int pk] (· = .tup [.sl 3 ((apK pk own o o.length).map prA), .int 0]) := agreeD_fn (c := c) L own kSo (by omega) hown2 o hol2 pk hag
        have kR : PFn Tryz.prog 25 [.mtr c t f, .sl 2 (D.map Rdg.row), .ints o, .int pk] (· = .sl 3 ((apK pk own o o.length).map prA)) := agreeR_fn (c := c) D own kSoO hown2 o (by omega) hol2 g2 pk
        have qA := equal_apt (apK pk own o o.length) (by have := apK_len pk own o o.length; omega)
        rw [hag] at kAF2
        generalize apK pk own o o.length = ap at *
        repeat' (first | refine goH ?_ | (refine Ops.k_b_neq ?_; first | (refine Ops.val' rfl (OpV.neq_f rfl rfl (by omega)) ?_)) | (refine Ops.k_b_eql ?_; first | (refine Ops.val' rfl (OpV.eql_t rfl rfl (by omega)) ?_)) | refine goV ?_ | refine goB (fun b => ?_) | refine goG ?_ | (refine Ops.k_guard ?_; first | (refine Ops.guard_dec rfl rfl (fun hc => ?_) (fun hc => ?_) <;> try (exfalso; omega)) | refine Ops.guard_split rfl rfl (fun hc => ?_) (fun hc => ?_)) | refine goI ?_ | (refine Cw.k_cond ?_; first | (refine Cw.cond_dec rfl (fun hc => ?_) (fun hc => ?_) <;> try (exfalso; omega)) | refine Cw.cond_bool rfl (fun hc => ?_) (fun hc => ?_)) | (refine Ops.k_calla ?_; first | (refine Ops.k_callf 21 ?_; refine Ops.callV kA (Evs.cons rfl (Evs.cons rfl (Evs.cons rfl (Evs.cons rfl Evs.nil)))) rfl ?_) | (refine Ops.k_callf 22 ?_; refine Ops.callV kAF2 (Evs.cons rfl (Evs.cons rfl (Evs.cons rfl Evs.nil))) rfl ?_) | (refine Ops.k_callf 25 ?_; refine Ops.callV kR (Evs.cons rfl (Evs.cons rfl (Evs.cons rfl (Evs.cons rfl Evs.nil)))) rfl ?_) | (refine Ops.k_callf 24 ?_; refine Ops.callV qA (Evs.cons rfl (Evs.cons rfl Evs.nil)) rfl ?_) | (refine Ops.k_callf 23 ?_; refine Ops.callV k0 Evs.nil rfl ?_)) | fail)
        all_goals (refine Fin.ret Ent.refl (Outs.one rfl rfl) ?_; first | exact rfl | (exfalso; omega) | (exfalso; simp_all; done))
      · as_aux_lemma =>
        have kA : PFn Tryz.prog 21 [.mtr c t f, .sl 2 (L.map Rdg.row), .ints o, .int pk] (· = .tup [.sl 3 (([] : List (List Tr))), .int (agE c o pk)]) := agreeBad2_fn (c := c) L own kSo o hol2 pk hag
        generalize agE c o pk = ag at *
        repeat' (first | refine goH ?_ | (refine Ops.k_b_neq ?_; first | (refine Ops.val' rfl (OpV.neq_f rfl rfl (by omega)) ?_)) | (refine Ops.k_b_eql ?_; first | (refine Ops.val' rfl (OpV.eql_t rfl rfl (by omega)) ?_)) | refine goV ?_ | refine goB (fun b => ?_) | refine goG ?_ | (refine Ops.k_guard ?_; first | (refine Ops.guard_dec rfl rfl (fun hc => ?_) (fun hc => ?_) <;> try (exfalso; omega)) | refine Ops.guard_split rfl rfl (fun hc => ?_) (fun hc => ?_)) | refine goI ?_ | (refine Cw.k_cond ?_; first | (refine Cw.cond_dec rfl (fun hc => ?_) (fun hc => ?_) <;> try (exfalso; omega)) | refine Cw.cond_bool rfl (fun hc => ?_) (fun hc => ?_)) | (refine Ops.k_calla ?_; first | (refine Ops.k_callf 21 ?_; refine Ops.callV kA (Evs.cons rfl (Evs.cons rfl (Evs.cons rfl (Evs.cons rfl Evs.nil)))) rfl ?_) | (refine Ops.k_callf 22 ?_; refine Ops.callV kAF2 (Evs.cons rfl (Evs.cons rfl (Evs.cons rfl Evs.nil))) rfl ?_) | (refine Ops.k_callf 23 ?_; refine Ops.callV k0 Evs.nil rfl ?_)) | fail)
        all_goals (refine Fin.ret Ent.refl (Outs.one rfl rfl) ?_; first | exact rfl | (exfalso; omega) | (exfalso; simp_all; done))
    by_cases hk2 : c ≤ kk
    · have kDs : PFn Tryz.prog 13 [.mtr c t f, .sl 2 (L.map Rdg.row), .int kk] (· = .tup [.sl 2 (([] : List (List Tr))), .int 1]) := daysBad2_fn hmo.1 L (stpsOf t f D) kSt kk (.inr hk2)
      clear kSt kStO hSd
      by_cases hge : ge = 0
      · have kGO2 := kGO hge
        rw [if_pos hge] at kG
        subst hge
        clear kGO
        repeat' (first | refine goH ?_ | (refine Ops.k_b_neq ?_; first | (refine Ops.val' rfl (OpV.neq_f rfl rfl (by omega)) ?_)) | (refine Ops.k_b_eql ?_; first | (refine Ops.val' rfl (OpV.eql_t rfl rfl (by omega)) ?_)) | refine goV ?_ | refine goB (fun b => ?_) | refine goG ?_ | (refine Ops.k_guard ?_; first | (refine Ops.guard_dec rfl rfl (fun hc => ?_) (fun hc => ?_) <;> try (exfalso; omega)) | refine Ops.guard_split rfl rfl (fun hc => ?_) (fun hc => ?_)) | refine goI ?_ | (refine Cw.k_cond ?_; first | (refine Cw.cond_dec rfl (fun hc => ?_) (fun hc => ?_) <;> try (exfalso; omega)) | refine Cw.cond_bool rfl (fun hc => ?_) (fun hc => ?_)) | (refine Ops.k_calla ?_; first | (refine Ops.k_callf 12 ?_; refine Ops.callV k5 (Evs.cons rfl (Evs.cons rfl Evs.nil)) rfl ?_) | (refine Ops.k_callf 13 ?_; refine Ops.callV kDs (Evs.cons rfl (Evs.cons rfl (Evs.cons rfl Evs.nil))) rfl ?_) | (refine Ops.k_callf 16 ?_; refine Ops.callV kG (Evs.cons rfl (Evs.cons rfl Evs.nil)) rfl ?_) | (refine Ops.k_callf 17 ?_; refine Ops.callV kGF (Evs.cons rfl (Evs.cons rfl Evs.nil)) rfl ?_) | (refine Ops.k_callf 23 ?_; refine Ops.callV k0 Evs.nil rfl ?_) | (refine Ops.k_callf 20 ?_; (refine Ops.callG (numbersD_gen (max (min c 5) 0) 60 (by omega) (by omega)) (Evs.cons rfl (Evs.cons rfl (Evs.cons rfl Evs.nil))) goPk (by omega) rfl ?_; rintro r ⟨o, rfl, hol⟩)) | refine Ops.callV kGO2 (Evs.cons rfl (Evs.cons rfl Evs.nil)) rfl ?_ | (refine Ops.k_callf 18 ?_; refine Ops.callV qG (Evs.cons rfl (Evs.cons rfl Evs.nil)) rfl ?_)) | fail)
        have hol2 : o.length ≤ 1000 := by omega
        have kAF2 := kAF o hol2
        by_cases hag : agE c o pk = 0
        · as_aux_lemma =>
          obtain ⟨g1, g2⟩ := agE_ok hag
          have kA : PFn Tryz.prog 21 [.mtr c t f, .sl 2 (L.map Rdg.row), .ints o, .int pk] (· = .tup [.sl 3 ((apK pk own o o.length).map prA), .int 0]) := agreeD_fn (c := c) L own kSo (by omega) hown2 o hol2 pk hag
          have kR : PFn Tryz.prog 25 [.mtr c t f, .sl 2 (D.map Rdg.row), .ints o, .int pk] (· = .sl 3 ((apK pk own o o.length).map prA)) := agreeR_fn (c := c) D own kSoO hown2 o (by omega) hol2 g2 pk
          have qA := equal_apt (apK pk own o o.length) (by have := apK_len pk own o o.length; omega)
          rw [hag] at kAF2
          generalize apK pk own o o.length = ap at *
          repeat' (first | refine goH ?_ | (refine Ops.k_b_neq ?_; first | (refine Ops.val' rfl (OpV.neq_f rfl rfl (by omega)) ?_)) | (refine Ops.k_b_eql ?_; first | (refine Ops.val' rfl (OpV.eql_t rfl rfl (by omega)) ?_)) | refine goV ?_ | refine goB (fun b => ?_) | refine goG ?_ | (refine Ops.k_guard ?_; first | (refine Ops.guard_dec rfl rfl (fun hc => ?_) (fun hc => ?_) <;> try (exfalso; omega)) | refine Ops.guard_split rfl rfl (fun hc => ?_) (fun hc => ?_)) | refine goI ?_ | (refine Cw.k_cond ?_; first | (refine Cw.cond_dec rfl (fun hc => ?_) (fun hc => ?_) <;> try (exfalso; omega)) | refine Cw.cond_bool rfl (fun hc => ?_) (fun hc => ?_)) | (refine Ops.k_calla ?_; first | (refine Ops.k_callf 21 ?_; refine Ops.callV kA (Evs.cons rfl (Evs.cons rfl (Evs.cons rfl (Evs.cons rfl Evs.nil)))) rfl ?_) | (refine Ops.k_callf 22 ?_; refine Ops.callV kAF2 (Evs.cons rfl (Evs.cons rfl (Evs.cons rfl Evs.nil))) rfl ?_) | (refine Ops.k_callf 25 ?_; refine Ops.callV kR (Evs.cons rfl (Evs.cons rfl (Evs.cons rfl (Evs.cons rfl Evs.nil)))) rfl ?_) | (refine Ops.k_callf 24 ?_; refine Ops.callV qA (Evs.cons rfl (Evs.cons rfl Evs.nil)) rfl ?_) | (refine Ops.k_callf 23 ?_; refine Ops.callV k0 Evs.nil rfl ?_)) | fail)
          all_goals (refine Fin.ret Ent.refl (Outs.one rfl rfl) ?_; first | exact rfl | (exfalso; omega) | (exfalso; simp_all; done))
        · as_aux_lemma =>
          have kA : PFn Tryz.prog 21 [.mtr c t f, .sl 2 (L.map Rdg.row), .ints o, .int pk] (· = .tup [.sl 3 (([] : List (List Tr))), .int (agE c o pk)]) := agreeBad2_fn (c := c) L own kSo o hol2 pk hag
          generalize agE c o pk = ag at *
          repeat' (first | refine goH ?_ | (refine Ops.k_b_neq ?_; first | (refine Ops.val' rfl (OpV.neq_f rfl rfl (by omega)) ?_)) | (refine Ops.k_b_eql ?_; first | (refine Ops.val' rfl (OpV.eql_t rfl rfl (by omega)) ?_)) | refine goV ?_ | refine goB (fun b => ?_) | refine goG ?_ | (refine Ops.k_guard ?_; first | (refine Ops.guard_dec rfl rfl (fun hc => ?_) (fun hc => ?_) <;> try (exfalso; omega)) | refine Ops.guard_split rfl rfl (fun hc => ?_) (fun hc => ?_)) | refine goI ?_ | (refine Cw.k_cond ?_; first | (refine Cw.cond_dec rfl (fun hc => ?_) (fun hc => ?_) <;> try (exfalso; omega)) | refine Cw.cond_bool rfl (fun hc => ?_) (fun hc => ?_)) | (refine Ops.k_calla ?_; first | (refine Ops.k_callf 21 ?_; refine Ops.callV kA (Evs.cons rfl (Evs.cons rfl (Evs.cons rfl (Evs.cons rfl Evs.nil)))) rfl ?_) | (refine Ops.k_callf 22 ?_; refine Ops.callV kAF2 (Evs.cons rfl (Evs.cons rfl (Evs.cons rfl Evs.nil))) rfl ?_) | (refine Ops.k_callf 23 ?_; refine Ops.callV k0 Evs.nil rfl ?_)) | fail)
          all_goals (refine Fin.ret Ent.refl (Outs.one rfl rfl) ?_; first | exact rfl | (exfalso; omega) | (exfalso; simp_all; done))
      rw [if_neg hge] at kG
      clear kGO qG
      repeat' (first | refine goH ?_ | (refine Ops.k_b_neq ?_; first | (refine Ops.val' rfl (OpV.neq_f rfl rfl (by omega)) ?_)) | (refine Ops.k_b_eql ?_; first | (refine Ops.val' rfl (OpV.eql_t rfl rfl (by omega)) ?_)) | refine goV ?_ | refine goB (fun b => ?_) | refine goG ?_ | (refine Ops.k_guard ?_; first | (refine Ops.guard_dec rfl rfl (fun hc => ?_) (fun hc => ?_) <;> try (exfalso; omega)) | refine Ops.guard_split rfl rfl (fun hc => ?_) (fun hc => ?_)) | refine goI ?_ | (refine Cw.k_cond ?_; first | (refine Cw.cond_dec rfl (fun hc => ?_) (fun hc => ?_) <;> try (exfalso; omega)) | refine Cw.cond_bool rfl (fun hc => ?_) (fun hc => ?_)) | (refine Ops.k_calla ?_; first | (refine Ops.k_callf 12 ?_; refine Ops.callV k5 (Evs.cons rfl (Evs.cons rfl Evs.nil)) rfl ?_) | (refine Ops.k_callf 13 ?_; refine Ops.callV kDs (Evs.cons rfl (Evs.cons rfl (Evs.cons rfl Evs.nil))) rfl ?_) | (refine Ops.k_callf 16 ?_; refine Ops.callV kG (Evs.cons rfl (Evs.cons rfl Evs.nil)) rfl ?_) | (refine Ops.k_callf 17 ?_; refine Ops.callV kGF (Evs.cons rfl (Evs.cons rfl Evs.nil)) rfl ?_) | (refine Ops.k_callf 23 ?_; refine Ops.callV k0 Evs.nil rfl ?_) | (refine Ops.k_callf 20 ?_; (refine Ops.callG (numbersD_gen (max (min c 5) 0) 60 (by omega) (by omega)) (Evs.cons rfl (Evs.cons rfl (Evs.cons rfl Evs.nil))) goPk (by omega) rfl ?_; rintro r ⟨o, rfl, hol⟩))) | fail)
      have hol2 : o.length ≤ 1000 := by omega
      have kAF2 := kAF o hol2
      by_cases hag : agE c o pk = 0
      · as_aux_lemma =>
        obtain ⟨g1, g2⟩ := agE_ok hag
        have kA : PFn Tryz.prog 21 [.mtr c t f, .sl 2 (L.map Rdg.row), .ints o, .int pk] (· = .tup [.sl 3 ((apK pk own o o.length).map prA), .int 0]) := agreeD_fn (c := c) L own kSo (by omega) hown2 o hol2 pk hag
        have kR : PFn Tryz.prog 25 [.mtr c t f, .sl 2 (D.map Rdg.row), .ints o, .int pk] (· = .sl 3 ((apK pk own o o.length).map prA)) := agreeR_fn (c := c) D own kSoO hown2 o (by omega) hol2 g2 pk
        have qA := equal_apt (apK pk own o o.length) (by have := apK_len pk own o o.length; omega)
        rw [hag] at kAF2
        generalize apK pk own o o.length = ap at *
        repeat' (first | refine goH ?_ | (refine Ops.k_b_neq ?_; first | (refine Ops.val' rfl (OpV.neq_f rfl rfl (by omega)) ?_)) | (refine Ops.k_b_eql ?_; first | (refine Ops.val' rfl (OpV.eql_t rfl rfl (by omega)) ?_)) | refine goV ?_ | refine goB (fun b => ?_) | refine goG ?_ | (refine Ops.k_guard ?_; first | (refine Ops.guard_dec rfl rfl (fun hc => ?_) (fun hc => ?_) <;> try (exfalso; omega)) | refine Ops.guard_split rfl rfl (fun hc => ?_) (fun hc => ?_)) | refine goI ?_ | (refine Cw.k_cond ?_; first | (refine Cw.cond_dec rfl (fun hc => ?_) (fun hc => ?_) <;> try (exfalso; omega)) | refine Cw.cond_bool rfl (fun hc => ?_) (fun hc => ?_)) | (refine Ops.k_calla ?_; first | (refine Ops.k_callf 21 ?_; refine Ops.callV kA (Evs.cons rfl (Evs.cons rfl (Evs.cons rfl (Evs.cons rfl Evs.nil)))) rfl ?_) | (refine Ops.k_callf 22 ?_; refine Ops.callV kAF2 (Evs.cons rfl (Evs.cons rfl (Evs.cons rfl Evs.nil))) rfl ?_) | (refine Ops.k_callf 25 ?_; refine Ops.callV kR (Evs.cons rfl (Evs.cons rfl (Evs.cons rfl (Evs.cons rfl Evs.nil)))) rfl ?_) | (refine Ops.k_callf 24 ?_; refine Ops.callV qA (Evs.cons rfl (Evs.cons rfl Evs.nil)) rfl ?_) | (refine Ops.k_callf 23 ?_; refine Ops.callV k0 Evs.nil rfl ?_)) | fail)
        all_goals (refine Fin.ret Ent.refl (Outs.one rfl rfl) ?_; first | exact rfl | (exfalso; omega) | (exfalso; simp_all; done))
      · as_aux_lemma =>
        have kA : PFn Tryz.prog 21 [.mtr c t f, .sl 2 (L.map Rdg.row), .ints o, .int pk] (· = .tup [.sl 3 (([] : List (List Tr))), .int (agE c o pk)]) := agreeBad2_fn (c := c) L own kSo o hol2 pk hag
        generalize agE c o pk = ag at *
        repeat' (first | refine goH ?_ | (refine Ops.k_b_neq ?_; first | (refine Ops.val' rfl (OpV.neq_f rfl rfl (by omega)) ?_)) | (refine Ops.k_b_eql ?_; first | (refine Ops.val' rfl (OpV.eql_t rfl rfl (by omega)) ?_)) | refine goV ?_ | refine goB (fun b => ?_) | refine goG ?_ | (refine Ops.k_guard ?_; first | (refine Ops.guard_dec rfl rfl (fun hc => ?_) (fun hc => ?_) <;> try (exfalso; omega)) | refine Ops.guard_split rfl rfl (fun hc => ?_) (fun hc => ?_)) | refine goI ?_ | (refine Cw.k_cond ?_; first | (refine Cw.cond_dec rfl (fun hc => ?_) (fun hc => ?_) <;> try (exfalso; omega)) | refine Cw.cond_bool rfl (fun hc => ?_) (fun hc => ?_)) | (refine Ops.k_calla ?_; first | (refine Ops.k_callf 21 ?_; refine Ops.callV kA (Evs.cons rfl (Evs.cons rfl (Evs.cons rfl (Evs.cons rfl Evs.nil)))) rfl ?_) | (refine Ops.k_callf 22 ?_; refine Ops.callV kAF2 (Evs.cons rfl (Evs.cons rfl (Evs.cons rfl Evs.nil))) rfl ?_) | (refine Ops.k_callf 23 ?_; refine Ops.callV k0 Evs.nil rfl ?_)) | fail)
        all_goals (refine Fin.ret Ent.refl (Outs.one rfl rfl) ?_; first | exact rfl | (exfalso; omega) | (exfalso; simp_all; done))
    have hki : kk = ((kk.toNat : Nat) : Int) := by omega
    have kDs0 := daysD_fn kk.toNat c.toNat (by omega) (by omega) (stpsOf t f D) hSl hSd L (by omega) kSt
    have kDR0 := daysR_fn kk.toNat c.toNat (by omega) (by omega) (stpsOf t f D) hSl hSd D kStO
    have qD := equal_dyc (dyV (dyL kk.toNat (stpsOf t f D) [])) (by have := dyV_len kk.toNat hSl hSd; omega)
    rw [← hki] at kDs0 kDR0
    have kDs : PFn Tryz.prog 13 [.mtr c t f, .sl 2 (L.map Rdg.row), .int kk] (· = .tup [.sl 2 ((dyV (dyL kk.toNat (stpsOf t f D) [])).map prD), .int 0]) := kDs0
    have kDR : PFn Tryz.prog 15 [.mtr c t f, .sl 2 (D.map Rdg.row), .int kk] (· = .sl 2 ((dyV (dyL kk.toNat (stpsOf t f D) [])).map prD)) := kDR0
    clear kDs0 kDR0
    generalize dyV (dyL kk.toNat (stpsOf t f D) []) = dv at *
    clear kSt kStO hSd hki
    by_cases hge : ge = 0
    · have kGO2 := kGO hge
      rw [if_pos hge] at kG
      subst hge
      clear kGO
      repeat' (first | refine goH ?_ | (refine Ops.k_b_neq ?_; first | (refine Ops.val' rfl (OpV.neq_f rfl rfl (by omega)) ?_)) | (refine Ops.k_b_eql ?_; first | (refine Ops.val' rfl (OpV.eql_t rfl rfl (by omega)) ?_)) | refine goV ?_ | refine goB (fun b => ?_) | refine goG ?_ | (refine Ops.k_guard ?_; first | (refine Ops.guard_dec rfl rfl (fun hc => ?_) (fun hc => ?_) <;> try (exfalso; omega)) | refine Ops.guard_split rfl rfl (fun hc => ?_) (fun hc => ?_)) | refine goI ?_ | (refine Cw.k_cond ?_; first | (refine Cw.cond_dec rfl (fun hc => ?_) (fun hc => ?_) <;> try (exfalso; omega)) | refine Cw.cond_bool rfl (fun hc => ?_) (fun hc => ?_)) | (refine Ops.k_calla ?_; first | (refine Ops.k_callf 12 ?_; refine Ops.callV k5 (Evs.cons rfl (Evs.cons rfl Evs.nil)) rfl ?_) | (refine Ops.k_callf 13 ?_; refine Ops.callV kDs (Evs.cons rfl (Evs.cons rfl (Evs.cons rfl Evs.nil))) rfl ?_) | (refine Ops.k_callf 16 ?_; refine Ops.callV kG (Evs.cons rfl (Evs.cons rfl Evs.nil)) rfl ?_) | (refine Ops.k_callf 17 ?_; refine Ops.callV kGF (Evs.cons rfl (Evs.cons rfl Evs.nil)) rfl ?_) | (refine Ops.k_callf 23 ?_; refine Ops.callV k0 Evs.nil rfl ?_) | (refine Ops.k_callf 20 ?_; (refine Ops.callG (numbersD_gen (max (min c 5) 0) 60 (by omega) (by omega)) (Evs.cons rfl (Evs.cons rfl (Evs.cons rfl Evs.nil))) goPk (by omega) rfl ?_; rintro r ⟨o, rfl, hol⟩)) | refine Ops.callV kGO2 (Evs.cons rfl (Evs.cons rfl Evs.nil)) rfl ?_ | (refine Ops.k_callf 18 ?_; refine Ops.callV qG (Evs.cons rfl (Evs.cons rfl Evs.nil)) rfl ?_) | (refine Ops.k_callf 15 ?_; refine Ops.callV kDR (Evs.cons rfl (Evs.cons rfl (Evs.cons rfl Evs.nil))) rfl ?_) | (refine Ops.k_callf 14 ?_; refine Ops.callV qD (Evs.cons rfl (Evs.cons rfl Evs.nil)) rfl ?_)) | fail)
      have hol2 : o.length ≤ 1000 := by omega
      have kAF2 := kAF o hol2
      by_cases hag : agE c o pk = 0
      · as_aux_lemma =>
        obtain ⟨g1, g2⟩ := agE_ok hag
        have kA : PFn Tryz.prog 21 [.mtr c t f, .sl 2 (L.map Rdg.row), .ints o, .int pk] (· = .tup [.sl 3 ((apK pk own o o.length).map prA), .int 0]) := agreeD_fn (c := c) L own kSo (by omega) hown2 o hol2 pk hag
        have kR : PFn Tryz.prog 25 [.mtr c t f, .sl 2 (D.map Rdg.row), .ints o, .int pk] (· = .sl 3 ((apK pk own o o.length).map prA)) := agreeR_fn (c := c) D own kSoO hown2 o (by omega) hol2 g2 pk
        have qA := equal_apt (apK pk own o o.length) (by have := apK_len pk own o o.length; omega)
        rw [hag] at kAF2
        generalize apK pk own o o.length = ap at *
        repeat' (first | refine goH ?_ | (refine Ops.k_b_neq ?_; first | (refine Ops.val' rfl (OpV.neq_f rfl rfl (by omega)) ?_)) | (refine Ops.k_b_eql ?_; first | (refine Ops.val' rfl (OpV.eql_t rfl rfl (by omega)) ?_)) | refine goV ?_ | refine goB (fun b => ?_) | refine goG ?_ | (refine Ops.k_guard ?_; first | (refine Ops.guard_dec rfl rfl (fun hc => ?_) (fun hc => ?_) <;> try (exfalso; omega)) | refine Ops.guard_split rfl rfl (fun hc => ?_) (fun hc => ?_)) | refine goI ?_ | (refine Cw.k_cond ?_; first | (refine Cw.cond_dec rfl (fun hc => ?_) (fun hc => ?_) <;> try (exfalso; omega)) | refine Cw.cond_bool rfl (fun hc => ?_) (fun hc => ?_)) | (refine Ops.k_calla ?_; first | (refine Ops.k_callf 21 ?_; refine Ops.callV kA (Evs.cons rfl (Evs.cons rfl (Evs.cons rfl (Evs.cons rfl Evs.nil)))) rfl ?_) | (refine Ops.k_callf 22 ?_; refine Ops.callV kAF2 (Evs.cons rfl (Evs.cons rfl (Evs.cons rfl Evs.nil))) rfl ?_) | (refine Ops.k_callf 25 ?_; refine Ops.callV kR (Evs.cons rfl (Evs.cons rfl (Evs.cons rfl (Evs.cons rfl Evs.nil)))) rfl ?_) | (refine Ops.k_callf 24 ?_; refine Ops.callV qA (Evs.cons rfl (Evs.cons rfl Evs.nil)) rfl ?_) | (refine Ops.k_callf 23 ?_; refine Ops.callV k0 Evs.nil rfl ?_)) | fail)
        all_goals (refine Fin.ret Ent.refl (Outs.one rfl rfl) ?_; first | exact rfl | (exfalso; omega) | (exfalso; simp_all; done))
      · as_aux_lemma =>
        have kA : PFn Tryz.prog 21 [.mtr c t f, .sl 2 (L.map Rdg.row), .ints o, .int pk] (· = .tup [.sl 3 (([] : List (List Tr))), .int (agE c o pk)]) := agreeBad2_fn (c := c) L own kSo o hol2 pk hag
        generalize agE c o pk = ag at *
        repeat' (first | refine goH ?_ | (refine Ops.k_b_neq ?_; first | (refine Ops.val' rfl (OpV.neq_f rfl rfl (by omega)) ?_)) | (refine Ops.k_b_eql ?_; first | (refine Ops.val' rfl (OpV.eql_t rfl rfl (by omega)) ?_)) | refine goV ?_ | refine goB (fun b => ?_) | refine goG ?_ | (refine Ops.k_guard ?_; first | (refine Ops.guard_dec rfl rfl (fun hc => ?_) (fun hc => ?_) <;> try (exfalso; omega)) | refine Ops.guard_split rfl rfl (fun hc => ?_) (fun hc => ?_)) | refine goI ?_ | (refine Cw.k_cond ?_; first | (refine Cw.cond_dec rfl (fun hc => ?_) (fun hc => ?_) <;> try (exfalso; omega)) | refine Cw.cond_bool rfl (fun hc => ?_) (fun hc => ?_)) | (refine Ops.k_calla ?_; first | (refine Ops.k_callf 21 ?_; refine Ops.callV kA (Evs.cons rfl (Evs.cons rfl (Evs.cons rfl (Evs.cons rfl Evs.nil)))) rfl ?_) | (refine Ops.k_callf 22 ?_; refine Ops.callV kAF2 (Evs.cons rfl (Evs.cons rfl (Evs.cons rfl Evs.nil))) rfl ?_) | (refine Ops.k_callf 23 ?_; refine Ops.callV k0 Evs.nil rfl ?_)) | fail)
        all_goals (refine Fin.ret Ent.refl (Outs.one rfl rfl) ?_; first | exact rfl | (exfalso; omega) | (exfalso; simp_all; done))
    rw [if_neg hge] at kG
    clear kGO qG
    repeat' (first | refine goH ?_ | (refine Ops.k_b_neq ?_; first | (refine Ops.val' rfl (OpV.neq_f rfl rfl (by omega)) ?_)) | (refine Ops.k_b_eql ?_; first | (refine Ops.val' rfl (OpV.eql_t rfl rfl (by omega)) ?_)) | refine goV ?_ | refine goB (fun b => ?_) | refine goG ?_ | (refine Ops.k_guard ?_; first | (refine Ops.guard_dec rfl rfl (fun hc => ?_) (fun hc => ?_) <;> try (exfalso; omega)) | refine Ops.guard_split rfl rfl (fun hc => ?_) (fun hc => ?_)) | refine goI ?_ | (refine Cw.k_cond ?_; first | (refine Cw.cond_dec rfl (fun hc => ?_) (fun hc => ?_) <;> try (exfalso; omega)) | refine Cw.cond_bool rfl (fun hc => ?_) (fun hc => ?_)) | (refine Ops.k_calla ?_; first | (refine Ops.k_callf 12 ?_; refine Ops.callV k5 (Evs.cons rfl (Evs.cons rfl Evs.nil)) rfl ?_) | (refine Ops.k_callf 13 ?_; refine Ops.callV kDs (Evs.cons rfl (Evs.cons rfl (Evs.cons rfl Evs.nil))) rfl ?_) | (refine Ops.k_callf 16 ?_; refine Ops.callV kG (Evs.cons rfl (Evs.cons rfl Evs.nil)) rfl ?_) | (refine Ops.k_callf 17 ?_; refine Ops.callV kGF (Evs.cons rfl (Evs.cons rfl Evs.nil)) rfl ?_) | (refine Ops.k_callf 23 ?_; refine Ops.callV k0 Evs.nil rfl ?_) | (refine Ops.k_callf 20 ?_; (refine Ops.callG (numbersD_gen (max (min c 5) 0) 60 (by omega) (by omega)) (Evs.cons rfl (Evs.cons rfl (Evs.cons rfl Evs.nil))) goPk (by omega) rfl ?_; rintro r ⟨o, rfl, hol⟩)) | (refine Ops.k_callf 15 ?_; refine Ops.callV kDR (Evs.cons rfl (Evs.cons rfl (Evs.cons rfl Evs.nil))) rfl ?_) | (refine Ops.k_callf 14 ?_; refine Ops.callV qD (Evs.cons rfl (Evs.cons rfl Evs.nil)) rfl ?_)) | fail)
    have hol2 : o.length ≤ 1000 := by omega
    have kAF2 := kAF o hol2
    by_cases hag : agE c o pk = 0
    · as_aux_lemma =>
      obtain ⟨g1, g2⟩ := agE_ok hag
      have kA : PFn Tryz.prog 21 [.mtr c t f, .sl 2 (L.map Rdg.row), .ints o, .int pk] (· = .tup [.sl 3 ((apK pk own o o.length).map prA), .int 0]) := agreeD_fn (c := c) L own kSo (by omega) hown2 o hol2 pk hag
      have kR : PFn Tryz.prog 25 [.mtr c t f, .sl 2 (D.map Rdg.row), .ints o, .int pk] (· = .sl 3 ((apK pk own o o.length).map prA)) := agreeR_fn (c := c) D own kSoO hown2 o (by omega) hol2 g2 pk
      have qA := equal_apt (apK pk own o o.length) (by have := apK_len pk own o o.length; omega)
      rw [hag] at kAF2
      generalize apK pk own o o.length = ap at *
      repeat' (first | refine goH ?_ | (refine Ops.k_b_neq ?_; first | (refine Ops.val' rfl (OpV.neq_f rfl rfl (by omega)) ?_)) | (refine Ops.k_b_eql ?_; first | (refine Ops.val' rfl (OpV.eql_t rfl rfl (by omega)) ?_)) | refine goV ?_ | refine goB (fun b => ?_) | refine goG ?_ | (refine Ops.k_guard ?_; first | (refine Ops.guard_dec rfl rfl (fun hc => ?_) (fun hc => ?_) <;> try (exfalso; omega)) | refine Ops.guard_split rfl rfl (fun hc => ?_) (fun hc => ?_)) | refine goI ?_ | (refine Cw.k_cond ?_; first | (refine Cw.cond_dec rfl (fun hc => ?_) (fun hc => ?_) <;> try (exfalso; omega)) | refine Cw.cond_bool rfl (fun hc => ?_) (fun hc => ?_)) | (refine Ops.k_calla ?_; first | (refine Ops.k_callf 21 ?_; refine Ops.callV kA (Evs.cons rfl (Evs.cons rfl (Evs.cons rfl (Evs.cons rfl Evs.nil)))) rfl ?_) | (refine Ops.k_callf 22 ?_; refine Ops.callV kAF2 (Evs.cons rfl (Evs.cons rfl (Evs.cons rfl Evs.nil))) rfl ?_) | (refine Ops.k_callf 25 ?_; refine Ops.callV kR (Evs.cons rfl (Evs.cons rfl (Evs.cons rfl (Evs.cons rfl Evs.nil)))) rfl ?_) | (refine Ops.k_callf 24 ?_; refine Ops.callV qA (Evs.cons rfl (Evs.cons rfl Evs.nil)) rfl ?_) | (refine Ops.k_callf 23 ?_; refine Ops.callV k0 Evs.nil rfl ?_)) | fail)
      all_goals (refine Fin.ret Ent.refl (Outs.one rfl rfl) ?_; first | exact rfl | (exfalso; omega) | (exfalso; simp_all; done))
    · as_aux_lemma =>
      have kA : PFn Tryz.prog 21 [.mtr c t f, .sl 2 (L.map Rdg.row), .ints o, .int pk] (· = .tup [.sl 3 (([] : List (List Tr))), .int (agE c o pk)]) := agreeBad2_fn (c := c) L own kSo o hol2 pk hag
      generalize agE c o pk = ag at *
      repeat' (first | refine goH ?_ | (refine Ops.k_b_neq ?_; first | (refine Ops.val' rfl (OpV.neq_f rfl rfl (by omega)) ?_)) | (refine Ops.k_b_eql ?_; first | (refine Ops.val' rfl (OpV.eql_t rfl rfl (by omega)) ?_)) | refine goV ?_ | refine goB (fun b => ?_) | refine goG ?_ | (refine Ops.k_guard ?_; first | (refine Ops.guard_dec rfl rfl (fun hc => ?_) (fun hc => ?_) <;> try (exfalso; omega)) | refine Ops.guard_split rfl rfl (fun hc => ?_) (fun hc => ?_)) | refine goI ?_ | (refine Cw.k_cond ?_; first | (refine Cw.cond_dec rfl (fun hc => ?_) (fun hc => ?_) <;> try (exfalso; omega)) | refine Cw.cond_bool rfl (fun hc => ?_) (fun hc => ?_)) | (refine Ops.k_calla ?_; first | (refine Ops.k_callf 21 ?_; refine Ops.callV kA (Evs.cons rfl (Evs.cons rfl (Evs.cons rfl (Evs.cons rfl Evs.nil)))) rfl ?_) | (refine Ops.k_callf 22 ?_; refine Ops.callV kAF2 (Evs.cons rfl (Evs.cons rfl (Evs.cons rfl Evs.nil))) rfl ?_) | (refine Ops.k_callf 23 ?_; refine Ops.callV k0 Evs.nil rfl ?_)) | fail)
      all_goals (refine Fin.ret Ent.refl (Outs.one rfl rfl) ?_; first | exact rfl | (exfalso; omega) | (exfalso; simp_all; done))
end Lg
