/- A part of the proof of a law of this seat: it adds no condition. By an AI agent. -/
import Derived.Test.YtflfdomajimpjaaDoorFrame
import Derived.Test.YtflfdomajimpjaaDoorRb7
section
set_option linter.all false
namespace Lg
open Go Go.Proofs

theorem Ops.shut0 {P : Program} {Γ : Ctx} {env : Env} {cs : List Chunk} {Q : Post} {R : Array Oper} {l : List Oper} {ty b : Nat} {cells : List Tr} {rows : List (List Tr)} (h : cells = [Tr.sl 1 rows, Tr.int ((0 : Nat) : Int)]) (k : Ops P Γ R l env (Chunk.strm ty b rows 0 :: cs) Q) : Ops P Γ R l env (Chunk.box b ty cells :: cs) Q := by
  subst h
  exact Ops.ent (Ent.shut_strm (m := 0) (Nat.le_refl 0)) k
end Lg
end
section
set_option linter.all false
set_option maxRecDepth 100000
set_option maxHeartbeats 8000000
namespace Lg
open Go Go.Proofs

theorem intRows_rep2 (n : Nat) : List.replicate n [Tr.int 0] = intRows (List.replicate n 0) := by
  unfold intRows
  rw [List.map_replicate]
theorem wayO_nil {l : List Stop} {h : Spot} {s : Int} : wayO l h s [] = 0 := by
  unfold wayO
  rw [drv]
  show 0 + farI h h = 0
  unfold farI
  omega
theorem insT_eq (l : List Stop) (h : Spot) (s : Int) (o : List Int) (x : Int) : insG l h s o x 0 (o.length + 1) ([], 0, false) = insT l h s o x := rfl
theorem splK_eq {l : List Stop} {h : Spot} {s : Int} {rs : List (List Int)} {i k : Nat} {o b : List Int} {w c g : Int} {f : Bool} {rt : List Int} (ho : rs[k]? = some o) (hT : insT l h s o i = (b, w, f)) :
    splK l h s rs i k (c, g, rt) = if f = true ∧ (c < 0 ∨ w - wayO l h s o < g) then ((k : Int), w - wayO l h s o, b) else (c, g, rt) := by
  unfold splK
  rw [List.getD_eq_getElem?_getD, ho, Option.getD_some, hT]
attribute [local irreducible] intRows insAt drv ordersE tripE roI wayO insT splK splI itF
theorem split_fn (h : Spot) (l : List Stop) (s c : Int) (hl : l.length ≤ 1000) (hcb : -1000000 ≤ c ∧ c ≤ 1000000) : PFn Tryd.prog 19 [.agg h.row, .stops l, .int s, .int c] (· = if tripE h l s ≠ 0 then .tup [.sl 1 [], .int (tripE h l s)] else splE l h s c) := by
  have hL : (l.map Stop.row).length = l.length := List.length_map _
  have k0 := fault_fn h l s hl
  unfold Spot.row
  by_cases ht : tripE h l s ≠ 0
  · rw [if_pos ht]
    generalize tripE h l s = E at *
    refine PFn.mk (Spec.body Tryd.func19 rfl rfl (Tryd.ntmps19) rfl fun w0 own0 M => ?_)
    repeat' (first | refine goH ?_ | refine goV ?_ | refine goB (fun b => ?_) | refine goC (fun ad cap => ?_) | refine goG ?_ | (refine Ops.k_guard ?_; first | (refine Ops.guard_dec rfl rfl (fun hc => ?_) (fun hc => ?_) <;> try (exfalso; omega)) | refine Ops.guard_split rfl rfl (fun hc => ?_) (fun hc => ?_)) | refine goI ?_ | (refine Cw.k_cond ?_; first | (refine Cw.cond_dec rfl (fun hc => ?_) (fun hc => ?_) <;> try (exfalso; omega)) | refine Cw.cond_bool rfl (fun hc => ?_) (fun hc => ?_)) | (refine Ops.k_calla ?_; first | (refine Ops.k_callf 37 ?_; refine Ops.callV k0 (Evs.cons rfl Evs.nil) rfl ?_)) | (apply OpW.k_call; first | (apply OpW.k_callf 37; exact OpW.callV k0 (Evs.cons rfl Evs.nil))) | refine goR ?_ | refine goP ?_ | apply PSeq.cons | apply PSeq.yes rfl rfl rfl | exact goW | fail)
    refine Fin.ret (Ent.trans (Ent.nilsl 1 (s := 8) rfl) (Ent.take goTk)) (Outs.many rfl (OutL.cons goOe (OutL.cons goOe OutL.nil)) rfl) ⟨rfl, rfl⟩
  rw [if_neg ht]
  have ht0 : tripE h l s = 0 := by omega
  rw [ht0] at k0
  unfold splE
  by_cases h2 : c < 1 ∨ 10 < c
  · rw [if_pos h2]
    have kO := out_t c 1 10 h2
    refine PFn.mk (Spec.body Tryd.func19 rfl rfl (Tryd.ntmps19) rfl fun w0 own0 M => ?_)
    repeat' (first | refine goH ?_ | refine goV ?_ | refine goB (fun b => ?_) | refine goC (fun ad cap => ?_) | refine goG ?_ | (refine Ops.k_guard ?_; first | (refine Ops.guard_dec rfl rfl (fun hc => ?_) (fun hc => ?_) <;> try (exfalso; omega)) | refine Ops.guard_split rfl rfl (fun hc => ?_) (fun hc => ?_)) | refine goI ?_ | (refine Cw.k_cond ?_; first | (refine Cw.cond_dec rfl (fun hc => ?_) (fun hc => ?_) <;> try (exfalso; omega)) | refine Cw.cond_bool rfl (fun hc => ?_) (fun hc => ?_)) | (refine Ops.k_calla ?_; first | (refine Ops.k_callf 37 ?_; refine Ops.callV k0 (Evs.cons rfl Evs.nil) rfl ?_) | (refine Ops.k_callf 45 ?_; refine Ops.callV kO (Evs.cons rfl (Evs.cons rfl (Evs.cons rfl Evs.nil))) rfl ?_)) | (apply OpW.k_call; first | (apply OpW.k_callf 37; exact OpW.callV k0 (Evs.cons rfl Evs.nil)) | (apply OpW.k_callf 45; exact OpW.callV kO (Evs.cons rfl (Evs.cons rfl (Evs.cons rfl Evs.nil))))) | refine goR ?_ | refine goP ?_ | apply PSeq.cons | apply PSeq.yes rfl rfl rfl | exact goW | fail)
    refine Fin.ret (Ent.trans (Ent.nilsl 1 (s := 8) rfl) (Ent.take goTk)) (Outs.many rfl (OutL.cons goOe (OutL.cons goOe OutL.nil)) rfl) ⟨rfl, rfl⟩
  rw [if_neg h2]
  have kO := out_f c 1 10 (by omega)
  obtain ⟨n, hn⟩ : ∃ n : Nat, c.toNat = n := ⟨_, rfl⟩
  have hcn : c = n := by omega
  rw [hn]
  subst hcn
  clear hn ht
  obtain ⟨S, hS⟩ : ∃ S, S = itF (splI l h s) 0 l.length (List.replicate n []) := ⟨_, rfl⟩
  rw [← hS]
  have hl60 := (stops_ok (trip_ok ht0).1).1
  refine PFn.mk (Spec.body Tryd.func19 rfl rfl (Tryd.ntmps19) rfl fun w0 own0 M => ?_)
  repeat' (first | refine goH ?_ | refine goV ?_ | refine goB (fun b => ?_) | refine goC (fun ad cap => ?_) | refine goG ?_ | (refine Ops.k_guard ?_; first | (refine Ops.guard_dec rfl rfl (fun hc => ?_) (fun hc => ?_) <;> try (exfalso; omega)) | refine Ops.guard_split rfl rfl (fun hc => ?_) (fun hc => ?_)) | refine goI ?_ | (refine Cw.k_cond ?_; first | (refine Cw.cond_dec rfl (fun hc => ?_) (fun hc => ?_) <;> try (exfalso; omega)) | refine Cw.cond_bool rfl (fun hc => ?_) (fun hc => ?_)) | (refine Ops.k_calla ?_; first | (refine Ops.k_callf 37 ?_; refine Ops.callV k0 (Evs.cons rfl Evs.nil) rfl ?_) | (refine Ops.k_callf 45 ?_; refine Ops.callV kO (Evs.cons rfl (Evs.cons rfl (Evs.cons rfl Evs.nil))) rfl ?_)) | (apply OpW.k_call; first | (apply OpW.k_callf 37; exact OpW.callV k0 (Evs.cons rfl Evs.nil)) | (apply OpW.k_callf 45; exact OpW.callV kO (Evs.cons rfl (Evs.cons rfl (Evs.cons rfl Evs.nil))))) | fail)
  rename_i b4
  first | refine Cw.region_YP (fun ξ S => Chunk.box b 67 [.int h.x, .int h.y, .stops l, .int s] :: Chunk.box b4 30 [.int h.x, .int h.y] :: (stg (S 1) [] [ownV (ξ 1) 1 22 (List.replicate n [Tr.raw (.slice none 0 0)])] ++ (stg (S 3) [] [ownV (ξ 3) 1 3 (List.replicate n [Tr.int 0])] ++ []))) rfl (by decide +kernel) rfl ((fun (ξ : Nat → Value) (S : Nat → Bool) => Chunk.box b 67 [.int h.x, .int h.y, .stops l, .int s] :: Chunk.box b4 30 [.int h.x, .int h.y] :: (stg (S 1) [] [ownV (ξ 1) 1 22 (List.replicate n [Tr.raw (.slice none 0 0)])] ++ (stg (S 3) [] [ownV (ξ 3) 1 3 (List.replicate n [Tr.int 0])] ++ []))) (fun _ => undef) (fun _ => false)) (by simp only [upd_same, updD_same, upd_ne, updD_ne, ne_eq, Nat.reduceEqDiff, not_false_eq_true, stg_t, stg_f, vAd_s, vCap_s, blk_p, List.cons_append, List.nil_append, b2n_t, b2n_f]; exact goXm) (fun _ => rfl) ?_ | fail
  apply YSeq.w (by intro _ _ _; rfl)
  · intro ξ S h1 h2 h3 h4
    have hN0_1 := closed_false h1 h3 (k := 1) rfl (by decide)
    try simp only [upd_same, updD_same, upd_ne, updD_ne, ne_eq, Nat.reduceEqDiff, not_false_eq_true, stg_t, stg_f, vAd_s, vCap_s, blk_p, List.cons_append, List.nil_append, b2n_t, b2n_f, hN0_1]
    exact goW
  · intro ξ v; rfl
  · intro ξ k v S h3 hn hk
    first
    | rfl
  apply YSeq.mkOwn (n) (fun _ => rfl) (fun _ => rfl) (by omega) (by omega)
  · intro ξ S h1 h3 ad cap
    simp only [upd_same, updD_same, upd_ne, updD_ne, ne_eq, Nat.reduceEqDiff, not_false_eq_true, stg_t, stg_f, vAd_s, vCap_s, blk_p, List.cons_append, List.nil_append, b2n_t, b2n_f, h1]
    exact goXm
  apply YSeq.w (by intro _ _ _; rfl)
  · intro ξ S h1 h2 h3 h4
    have hN2_3 := closed_false h1 h3 (k := 3) rfl (by decide)
    try simp only [upd_same, updD_same, upd_ne, updD_ne, ne_eq, Nat.reduceEqDiff, not_false_eq_true, stg_t, stg_f, vAd_s, vCap_s, blk_p, List.cons_append, List.nil_append, b2n_t, b2n_f, hN2_3]
    exact goW
  · intro ξ v; rfl
  · intro ξ k v S h3 hn hk
    first
    | rfl
  apply YSeq.mkOwn (n) (fun _ => rfl) (fun _ => rfl) (by omega) (by omega)
  · intro ξ S h1 h3 ad cap
    simp only [upd_same, updD_same, upd_ne, updD_ne, ne_eq, Nat.reduceEqDiff, not_false_eq_true, stg_t, stg_f, vAd_s, vCap_s, blk_p, List.cons_append, List.nil_append, b2n_t, b2n_f, h1]
    exact goXm
  apply YSeq.w (by intro _ _ _; rfl)
  · intro ξ S h1 h2 h3 h4
    have hY4_1 : S 1 = true := h2 1 (by decide)
    try simp only [upd_same, updD_same, upd_ne, updD_ne, ne_eq, Nat.reduceEqDiff, not_false_eq_true, stg_t, stg_f, vAd_s, vCap_s, blk_p, List.cons_append, List.nil_append, b2n_t, b2n_f, hY4_1]
    exact goW
  · intro ξ v; rfl
  · intro ξ k v S h3 hn hk
    first
    | rfl
    | skip
      have hY4_1 : S 1 = true := h3 4 _ rfl hn 1 (by decide)
      simp only [upd_S hY4_1 hk]
  apply YSeq.w (by intro _ _ _; rfl)
  · intro ξ S h1 h2 h3 h4
    have hY5_1 : S 1 = true := h2 1 (by decide)
    have hY5_3 : S 3 = true := h2 3 (by decide)
    try simp only [upd_same, updD_same, upd_ne, updD_ne, ne_eq, Nat.reduceEqDiff, not_false_eq_true, stg_t, stg_f, vAd_s, vCap_s, blk_p, List.cons_append, List.nil_append, b2n_t, b2n_f, hY5_1, hY5_3]
    exact goW
  · intro ξ v; rfl
  · intro ξ k v S h3 hn hk
    first
    | rfl
    | skip
      have hY5_1 : S 1 = true := h3 5 _ rfl hn 1 (by decide)
      have hY5_3 : S 3 = true := h3 5 _ rfl hn 3 (by decide)
      simp only [upd_S hY5_1 hk, upd_S hY5_3 hk]
  refine YSeq.nil fun ξ hf => ?_
  refine ⟨[(1, _), (10, _), (12, _), (13, _)], _, Ent.trans (Ent.eqc rfl (by first | (simp only [upd_same, updD_same, upd_ne, updD_ne, ne_eq, Nat.reduceEqDiff, not_false_eq_true, stg_t, stg_f, vAd_s, vCap_s, blk_p, List.cons_append, List.nil_append, b2n_t, b2n_f, ownV, slV, ptV] <;> rfl) | rfl)) (Ent.sub goSub), ?_⟩
  clear hf
  generalize vAd (ξ 1) = ad34
  generalize vCap (ξ 1) = cap34
  generalize vAd (ξ 3) = ad36
  generalize vCap (ξ 3) = cap36
  refine Then.norm ?_
  rw [intRows_rep2]
  refine Cw.ent (Ent.imp_own (rows' := roI (List.replicate n [])) (ad := ad34) (cap := cap34) goPk (by rw [roI_len]; simp) (fun _ => roI_k) (roI_imp n)) ?_
  repeat' (first | refine goH ?_ | refine goV ?_ | refine goB (fun b => ?_) | refine goC (fun ad cap => ?_) | refine goG ?_ | (refine Ops.k_guard ?_; first | (refine Ops.guard_dec rfl rfl (fun hc => ?_) (fun hc => ?_) <;> try (exfalso; omega)) | refine Ops.guard_split rfl rfl (fun hc => ?_) (fun hc => ?_)) | refine goI ?_ | (refine Cw.k_cond ?_; first | (refine Cw.cond_dec rfl (fun hc => ?_) (fun hc => ?_) <;> try (exfalso; omega)) | refine Cw.cond_bool rfl (fun hc => ?_) (fun hc => ?_)) | refine goR ?_ | refine goP ?_ | apply PSeq.cons | apply PSeq.yes rfl rfl rfl | exact goW | fail)
  refine Cw.loopI [(10, _), (12, _), (13, _), (38, _)] _ (fun z e cc => ∃ (i : Nat) (rs : List (List Int)) (W : List Int), z = l.length - i ∧ (i ≤ l.length ∧ rs.length = n ∧ W = rs.map (wayO l h s) ∧ (∀ o ∈ rs, okR l h s i o) ∧ S = itF (splI l h s) i (l.length - i) rs) ∧ e = [(39, .int i)] ∧ cc = [Chunk.own ad34 cap34 1 22 (roI rs), Chunk.own ad36 cap36 1 3 (intRows W)])
    ⟨_, _, _, (Ent.mkP goSub goPm), 0, List.replicate n [], List.replicate n 0, rfl, ⟨by omega, List.length_replicate, by rw [List.map_replicate, wayO_nil], fun o ho => by rw [List.eq_of_mem_replicate ho]; exact okR_nil, by rw [Nat.sub_zero]; exact hS⟩, rfl, rfl⟩ ?_
  clear hS k0 kO
  rintro _ _ _ ⟨i, rs, W, rfl, ⟨hi, hrl, hW, hok, hV⟩, rfl, rfl⟩
  have hWl : W.length = n := by rw [hW, List.length_map]; exact hrl
  have hoR := (roI_len rs).trans hrl
  have hWR := (intRows_len W).trans hWl
  by_cases hil : i < l.length
  rotate_left
  · rw [itF_end hil] at hV
    subst hV
    rw [← hoR]
    repeat' (first | refine goH ?_ | refine goV ?_ | refine goB (fun b => ?_) | refine goC (fun ad cap => ?_) | refine goG ?_ | (refine Ops.k_guard ?_; first | (refine Ops.guard_dec rfl rfl (fun hc => ?_) (fun hc => ?_) <;> try (exfalso; omega)) | refine Ops.guard_split rfl rfl (fun hc => ?_) (fun hc => ?_)) | refine goI ?_ | (refine Cw.k_cond ?_; first | (refine Cw.cond_dec rfl (fun hc => ?_) (fun hc => ?_) <;> try (exfalso; omega)) | refine Cw.cond_bool rfl (fun hc => ?_) (fun hc => ?_)) | refine goR ?_ | refine goP ?_ | apply PSeq.cons | apply PSeq.yes rfl rfl rfl | exact goW | fail)
    refine Fin.ret (Ent.trans (Ent.settle (s := 8) rfl goPk rfl) (Ent.take goTk)) (Outs.many rfl (OutL.cons goOe (OutL.cons goOe OutL.nil)) rfl) ⟨rfl, rfl⟩
  rw [itF_step hil] at hV
  obtain ⟨T, hT⟩ : ∃ T, T = itF (splK l h s rs i) 0 (rs.length - 0) (-1, 0, []) := ⟨_, rfl⟩
  have hTok : okS l h s rs i T := by rw [hT]; exact okS_all hok hil _ _ _ (by omega) (.inl rfl)
  have hV2 : S = itF (splI l h s) (i + 1) (l.length - (i + 1)) (if 0 ≤ T.1 then rs.set T.1.toNat T.2.2 else rs) := by
    rw [hV, hT, Nat.sub_zero]
    congr 1
    with_unfolding_all rfl
  clear hV
  repeat' (first | refine goH ?_ | refine goV ?_ | refine goB (fun b => ?_) | refine goC (fun ad cap => ?_) | refine goG ?_ | (refine Ops.k_guard ?_; first | (refine Ops.guard_dec rfl rfl (fun hc => ?_) (fun hc => ?_) <;> try (exfalso; omega)) | refine Ops.guard_split rfl rfl (fun hc => ?_) (fun hc => ?_)) | refine goI ?_ | (refine Cw.k_cond ?_; first | (refine Cw.cond_dec rfl (fun hc => ?_) (fun hc => ?_) <;> try (exfalso; omega)) | refine Cw.cond_bool rfl (fun hc => ?_) (fun hc => ?_)) | refine goR ?_ | refine goP ?_ | apply PSeq.cons | apply PSeq.yes rfl rfl rfl | exact goW | fail)
  refine Cw.ent (Ent.nilsl 1 (s := 17) rfl) ?_
  refine Cw.loopI [(10, _), (12, _), (13, _), (14, _), (38, _), (39, _), (43, _)] _ (fun z e cc => ∃ (k : Nat) (c g : Int) (rt : List Int) (rows : List (List Tr)), z = n - k ∧ (k ≤ n ∧ rows = intRows rt ∧ T = itF (splK l h s rs i) k (rs.length - k) (c, g, rt)) ∧ e = [(15, .int c), (16, .int g), (17, .sl 1 rows), (44, .int k)] ∧ cc = [])
    ⟨_, _, _, (Ent.mkP goSub goPm), 0, -1, 0, [], [], rfl, ⟨by omega, intRows_nil.symm, hT⟩, rfl, rfl⟩ ?_
  clear hT
  rintro _ _ _ ⟨k, c, g, rt, _, rfl, ⟨hk, rfl, hV⟩, rfl, rfl⟩
  by_cases hkn : k < n
  rotate_left
  · rw [itF_end (by omega)] at hV
    subst hV
    simp only at hV2
    unfold okS at hTok
    simp only at hTok
    by_cases hc : 0 ≤ c
    · rcases hTok with hTok | ⟨h0, h1, h3, h4⟩
      · omega
      rw [if_pos hc] at hV2
      obtain ⟨o, ho⟩ := at_lt (l := rs) (k := c.toNat) (by omega)
      obtain ⟨v, hv⟩ := at_lt (l := W) (k := c.toNat) (by omega)
      have hvo : v = wayO l h s o := by
        rw [hW, List.getElem?_map, ho] at hv
        exact (Option.some.inj hv).symm
      rw [List.getD_eq_getElem?_getD, ho, Option.getD_some, ← hvo] at h4
      have hb1 := wayO_bd ht0 (hok o (List.mem_of_getElem? ho))
      rw [← hvo] at hb1
      have hb2 := wayO_bd ht0 h3
      have r1 := roI_at ho
      have r2 := intRows_at hv
      have e1 : v + g = wayO l h s rt := by omega
      have e2 : (roI rs).set c.toNat [Tr.ints rt] = roI (rs.set c.toNat rt) := roI_set rs c.toNat rt
      have e3 : (intRows W).set c.toNat [Tr.int (v + g)] = intRows (W.set c.toNat (v + g)) := int_set2 W c.toNat (v + g)
      have e4 : W.set c.toNat (v + g) = (rs.set c.toNat rt).map (wayO l h s) := by rw [List.map_set, ← hW, e1]
      have hok2 : ∀ o ∈ rs.set c.toNat rt, okR l h s (i + 1) o := by
        intro y hy
        rcases List.mem_or_eq_of_mem_set hy with hm | hm
        · exact okR_mono (hok y hm)
        · rw [hm]; exact h3
      have hrl2 : (rs.set c.toNat rt).length = n := by rw [List.length_set]; exact hrl
      clear hW hok hv ho h3 hvo e1
      repeat' (first | refine goH ?_ | refine goV ?_ | refine goB (fun b => ?_) | refine goC (fun ad cap => ?_) | refine goG ?_ | (refine Ops.k_guard ?_; first | (refine Ops.guard_dec rfl rfl (fun hc => ?_) (fun hc => ?_) <;> try (exfalso; omega)) | refine Ops.guard_split rfl rfl (fun hc => ?_) (fun hc => ?_)) | refine goI ?_ | (refine Cw.k_cond ?_; first | (refine Cw.cond_dec rfl (fun hc => ?_) (fun hc => ?_) <;> try (exfalso; omega)) | refine Cw.cond_bool rfl (fun hc => ?_) (fun hc => ?_)) | refine goR ?_ | refine goP ?_ | apply PSeq.cons | apply PSeq.yes rfl rfl rfl | exact goW | fail)
      erw [e2, e3]
      exact ⟨_, _, _, (Ent.mk goSub goTk), ⟨i + 1, _, _, rfl, ⟨by omega, hrl2, e4, hok2, hV2⟩, rfl, rfl⟩, by omega⟩
    · rw [if_neg hc] at hV2
      have hok2 : ∀ o ∈ rs, okR l h s (i + 1) o := fun o ho => okR_mono (hok o ho)
      clear hTok
      repeat' (first | refine goH ?_ | refine goV ?_ | refine goB (fun b => ?_) | refine goC (fun ad cap => ?_) | refine goG ?_ | (refine Ops.k_guard ?_; first | (refine Ops.guard_dec rfl rfl (fun hc => ?_) (fun hc => ?_) <;> try (exfalso; omega)) | refine Ops.guard_split rfl rfl (fun hc => ?_) (fun hc => ?_)) | refine goI ?_ | (refine Cw.k_cond ?_; first | (refine Cw.cond_dec rfl (fun hc => ?_) (fun hc => ?_) <;> try (exfalso; omega)) | refine Cw.cond_bool rfl (fun hc => ?_) (fun hc => ?_)) | refine goR ?_ | refine goP ?_ | apply PSeq.cons | apply PSeq.yes rfl rfl rfl | exact goW | fail)
      exact ⟨_, _, _, (Ent.mk goSub goTk), ⟨i + 1, _, _, rfl, ⟨by omega, hrl, hW, hok2, hV2⟩, rfl, rfl⟩, by omega⟩
  rw [itF_step (by omega)] at hV
  obtain ⟨o, ho⟩ := at_lt (l := rs) (k := k) (by omega)
  obtain ⟨v, hv⟩ := at_lt (l := W) (k := k) (by omega)
  have hvo : v = wayO l h s o := by
    rw [hW, List.getElem?_map, ho] at hv
    exact (Option.some.inj hv).symm
  have hoo := hok o (List.mem_of_getElem? ho)
  have hb1 := wayO_bd ht0 hoo
  have r1 := roI_at ho
  have r2 := intRows_at hv
  have kI := inserted_fn h l s i o ht0 (ordersE_ok hoo.1) (by omega) (by have := hoo.2.2.2; omega)
  rw [insT_eq] at kI
  have hnew := insT_ok hoo hil
  obtain ⟨⟨bb, w, f⟩, hT⟩ : ∃ q, insT l h s o i = q := ⟨_, rfl⟩
  rw [splK_eq ho hT, ← hvo] at hV
  rw [hT] at kI hnew
  simp only at kI hnew
  have hwb : f = true → 0 ≤ w ∧ w ≤ 40000 * (i + 2) := fun hf => by
    obtain ⟨h1, h3⟩ := hnew hf
    have := wayO_bd ht0 h1
    rw [h3] at this
    omega
  rw [← hvo] at hb1
  clear hnew hT hok hW hv ho hTok hvo hoo
  repeat' (first | refine goH ?_ | refine goV ?_ | refine goB (fun b => ?_) | refine goC (fun ad cap => ?_) | refine goG ?_ | (refine Ops.k_guard ?_; first | (refine Ops.guard_dec rfl rfl (fun hc => ?_) (fun hc => ?_) <;> try (exfalso; omega)) | refine Ops.guard_split rfl rfl (fun hc => ?_) (fun hc => ?_)) | refine goI ?_ | (refine Cw.k_cond ?_; first | (refine Cw.cond_dec rfl (fun hc => ?_) (fun hc => ?_) <;> try (exfalso; omega)) | refine Cw.cond_bool rfl (fun hc => ?_) (fun hc => ?_)) | fail)
  clear ξ
  first | refine Cw.region_YP (fun ξ S => Chunk.own ad34 cap34 1 22 (roI rs) :: Chunk.own ad36 cap36 1 3 (intRows W) :: Chunk.box b 67 [.int h.x, .int h.y, .stops l, .int s] :: Chunk.box b4 30 [.int h.x, .int h.y] :: []) rfl (by decide +kernel) rfl ((fun (ξ : Nat → Value) (S : Nat → Bool) => Chunk.own ad34 cap34 1 22 (roI rs) :: Chunk.own ad36 cap36 1 3 (intRows W) :: Chunk.box b 67 [.int h.x, .int h.y, .stops l, .int s] :: Chunk.box b4 30 [.int h.x, .int h.y] :: []) (fun _ => undef) (fun _ => false)) (by simp only [upd_same, updD_same, upd_ne, updD_ne, ne_eq, Nat.reduceEqDiff, not_false_eq_true, stg_t, stg_f, vAd_s, vCap_s, blk_p, List.cons_append, List.nil_append, b2n_t, b2n_f]; exact goXm) (fun _ => rfl) ?_ | fail
  apply YSeq.w (by intro _ _ _; rfl)
  · intro ξ S h1 h2 h3 h4
    try simp only [upd_same, updD_same, upd_ne, updD_ne, ne_eq, Nat.reduceEqDiff, not_false_eq_true, stg_t, stg_f, vAd_s, vCap_s, blk_p, List.cons_append, List.nil_append, b2n_t, b2n_f]
    exact goW
  · intro ξ v; rfl
  · intro ξ k v S h3 hn hk
    first
    | rfl
  apply YSeq.w (by intro _ _ _; rfl)
  · intro ξ S h1 h2 h3 h4
    try simp only [upd_same, updD_same, upd_ne, updD_ne, ne_eq, Nat.reduceEqDiff, not_false_eq_true, stg_t, stg_f, vAd_s, vCap_s, blk_p, List.cons_append, List.nil_append, b2n_t, b2n_f]
    exact goW
  · intro ξ v; rfl
  · intro ξ k v S h3 hn hk
    first
    | rfl
  apply YSeq.w (by intro _ _ _; rfl)
  · intro ξ S h1 h2 h3 h4
    try simp only [upd_same, updD_same, upd_ne, updD_ne, ne_eq, Nat.reduceEqDiff, not_false_eq_true, stg_t, stg_f, vAd_s, vCap_s, blk_p, List.cons_append, List.nil_append, b2n_t, b2n_f]
    exact goW
  · intro ξ v; rfl
  · intro ξ k v S h3 hn hk
    first
    | rfl
  apply YSeq.w (by intro _ _ _; rfl)
  · intro ξ S h1 h2 h3 h4
    try simp only [upd_same, updD_same, upd_ne, updD_ne, ne_eq, Nat.reduceEqDiff, not_false_eq_true, stg_t, stg_f, vAd_s, vCap_s, blk_p, List.cons_append, List.nil_append, b2n_t, b2n_f]
    exact goW
  · intro ξ v; rfl
  · intro ξ k v S h3 hn hk
    first
    | rfl
  apply YSeq.w (by intro _ _ _; rfl)
  · intro ξ S h1 h2 h3 h4
    try simp only [upd_same, updD_same, upd_ne, updD_ne, ne_eq, Nat.reduceEqDiff, not_false_eq_true, stg_t, stg_f, vAd_s, vCap_s, blk_p, List.cons_append, List.nil_append, b2n_t, b2n_f]
    exact goW
  · intro ξ v; rfl
  · intro ξ k v S h3 hn hk
    first
    | rfl
  apply YSeq.w (by intro _ _ _; rfl)
  · intro ξ S h1 h2 h3 h4
    try simp only [upd_same, updD_same, upd_ne, updD_ne, ne_eq, Nat.reduceEqDiff, not_false_eq_true, stg_t, stg_f, vAd_s, vCap_s, blk_p, List.cons_append, List.nil_append, b2n_t, b2n_f]
    exact goW
  · intro ξ v; rfl
  · intro ξ k v S h3 hn hk
    first
    | rfl
  apply YSeq.callV (by intro _ _ _; rfl)
  · intro ξ S h1 h2 h3 h4
    try simp only [upd_same, updD_same, upd_ne, updD_ne, ne_eq, Nat.reduceEqDiff, not_false_eq_true, stg_t, stg_f, vAd_s, vCap_s, blk_p, List.cons_append, List.nil_append, b2n_t, b2n_f]
    exact ⟨_, (Evs.cons rfl (Evs.cons rfl (Evs.cons rfl Evs.nil))), kI⟩
  · intro ξ v; rfl
  · intro ξ k v S h3 hn hk
    first
    | rfl
  apply YSeq.w (by intro _ _ _; rfl)
  · intro ξ S h1 h2 h3 h4
    try simp only [upd_same, updD_same, upd_ne, updD_ne, ne_eq, Nat.reduceEqDiff, not_false_eq_true, stg_t, stg_f, vAd_s, vCap_s, blk_p, List.cons_append, List.nil_append, b2n_t, b2n_f]
    exact goW
  · intro ξ v; rfl
  · intro ξ k v S h3 hn hk
    first
    | rfl
  apply YSeq.w (by intro _ _ _; rfl)
  · intro ξ S h1 h2 h3 h4
    try simp only [upd_same, updD_same, upd_ne, updD_ne, ne_eq, Nat.reduceEqDiff, not_false_eq_true, stg_t, stg_f, vAd_s, vCap_s, blk_p, List.cons_append, List.nil_append, b2n_t, b2n_f]
    exact goW
  · intro ξ v; rfl
  · intro ξ k v S h3 hn hk
    first
    | rfl
  apply YSeq.w (by intro _ _ _; rfl)
  · intro ξ S h1 h2 h3 h4
    try simp only [upd_same, updD_same, upd_ne, updD_ne, ne_eq, Nat.reduceEqDiff, not_false_eq_true, stg_t, stg_f, vAd_s, vCap_s, blk_p, List.cons_append, List.nil_append, b2n_t, b2n_f]
    exact goW
  · intro ξ v; rfl
  · intro ξ k v S h3 hn hk
    first
    | rfl
  apply YSeq.w (by intro _ _ _; rfl)
  · intro ξ S h1 h2 h3 h4
    try simp only [upd_same, updD_same, upd_ne, updD_ne, ne_eq, Nat.reduceEqDiff, not_false_eq_true, stg_t, stg_f, vAd_s, vCap_s, blk_p, List.cons_append, List.nil_append, b2n_t, b2n_f]
    exact goW
  · intro ξ v; rfl
  · intro ξ k v S h3 hn hk
    first
    | rfl
  apply YSeq.w (by intro _ _ _; rfl)
  · intro ξ S h1 h2 h3 h4
    try simp only [upd_same, updD_same, upd_ne, updD_ne, ne_eq, Nat.reduceEqDiff, not_false_eq_true, stg_t, stg_f, vAd_s, vCap_s, blk_p, List.cons_append, List.nil_append, b2n_t, b2n_f]
    exact goW
  · intro ξ v; rfl
  · intro ξ k v S h3 hn hk
    first
    | rfl
  apply YSeq.w (by intro _ _ _; rfl)
  · intro ξ S h1 h2 h3 h4
    try simp only [upd_same, updD_same, upd_ne, updD_ne, ne_eq, Nat.reduceEqDiff, not_false_eq_true, stg_t, stg_f, vAd_s, vCap_s, blk_p, List.cons_append, List.nil_append, b2n_t, b2n_f]
    exact goW
  · intro ξ v; rfl
  · intro ξ k v S h3 hn hk
    first
    | rfl
  apply YSeq.w (by intro _ _ _; rfl)
  · intro ξ S h1 h2 h3 h4
    try simp only [upd_same, updD_same, upd_ne, updD_ne, ne_eq, Nat.reduceEqDiff, not_false_eq_true, stg_t, stg_f, vAd_s, vCap_s, blk_p, List.cons_append, List.nil_append, b2n_t, b2n_f]
    exact goW
  · intro ξ v; rfl
  · intro ξ k v S h3 hn hk
    first
    | rfl
  refine YSeq.nil fun ξ hf => ?_
  refine ⟨[(10, _), (12, _), (13, _), (14, _), (38, _), (39, _), (43, _), (15, _), (16, _), (17, _), (18, _), (19, _), (20, _), (21, _), (44, _)], _, Ent.trans (Ent.eqc rfl (by first | (simp only [upd_same, updD_same, upd_ne, updD_ne, ne_eq, Nat.reduceEqDiff, not_false_eq_true, stg_t, stg_f, vAd_s, vCap_s, blk_p, List.cons_append, List.nil_append, b2n_t, b2n_f, ownV, slV, ptV] <;> rfl) | rfl)) (Ent.sub goSub), ?_⟩
  clear hf
  cases f
  · rw [if_neg (by simp)] at hV
    repeat' (first | refine goH ?_ | refine goV ?_ | refine goB (fun b => ?_) | refine goC (fun ad cap => ?_) | refine goG ?_ | (refine Ops.k_guard ?_; first | (refine Ops.guard_dec rfl rfl (fun hc => ?_) (fun hc => ?_) <;> try (exfalso; omega)) | refine Ops.guard_split rfl rfl (fun hc => ?_) (fun hc => ?_)) | refine goI ?_ | (refine Cw.k_cond ?_; first | (refine Cw.cond_dec rfl (fun hc => ?_) (fun hc => ?_) <;> try (exfalso; omega)) | refine Cw.cond_bool rfl (fun hc => ?_) (fun hc => ?_)) | refine goR ?_ | refine goP ?_ | apply PSeq.cons | apply PSeq.yes rfl rfl rfl | exact goW | fail)
    exact ⟨_, _, _, (Ent.mk goSub goTk), ⟨k + 1, _, _, _, _, rfl, ⟨by omega, rfl, hV⟩, rfl, rfl⟩, by omega⟩
  have hwb := hwb rfl
  by_cases hc0 : c < 0
  · rw [if_pos ⟨rfl, .inl hc0⟩] at hV
    repeat' (first | refine goH ?_ | refine goV ?_ | refine goB (fun b => ?_) | refine goC (fun ad cap => ?_) | refine goG ?_ | (refine Ops.k_guard ?_; first | (refine Ops.guard_dec rfl rfl (fun hc => ?_) (fun hc => ?_) <;> try (exfalso; omega)) | refine Ops.guard_split rfl rfl (fun hc => ?_) (fun hc => ?_)) | refine goI ?_ | (refine Cw.k_cond ?_; first | (refine Cw.cond_dec rfl (fun hc => ?_) (fun hc => ?_) <;> try (exfalso; omega)) | refine Cw.cond_bool rfl (fun hc => ?_) (fun hc => ?_)) | refine goR ?_ | refine goP ?_ | apply PSeq.cons | apply PSeq.yes rfl rfl rfl | exact goW | fail)
    exact ⟨_, _, _, (Ent.mk goSub goTk), ⟨k + 1, _, _, _, _, rfl, ⟨by omega, rfl, hV⟩, rfl, rfl⟩, by omega⟩
  · by_cases hg : w - v < g
    · rw [if_pos ⟨rfl, .inr hg⟩] at hV
      repeat' (first | refine goH ?_ | refine goV ?_ | refine goB (fun b => ?_) | refine goC (fun ad cap => ?_) | refine goG ?_ | (refine Ops.k_guard ?_; first | (refine Ops.guard_dec rfl rfl (fun hc => ?_) (fun hc => ?_) <;> try (exfalso; omega)) | refine Ops.guard_split rfl rfl (fun hc => ?_) (fun hc => ?_)) | refine goI ?_ | (refine Cw.k_cond ?_; first | (refine Cw.cond_dec rfl (fun hc => ?_) (fun hc => ?_) <;> try (exfalso; omega)) | refine Cw.cond_bool rfl (fun hc => ?_) (fun hc => ?_)) | refine goR ?_ | refine goP ?_ | apply PSeq.cons | apply PSeq.yes rfl rfl rfl | exact goW | fail)
      exact ⟨_, _, _, (Ent.mk goSub goTk), ⟨k + 1, _, _, _, _, rfl, ⟨by omega, rfl, hV⟩, rfl, rfl⟩, by omega⟩
    · rw [if_neg (by simp [hc0, hg])] at hV
      repeat' (first | refine goH ?_ | refine goV ?_ | refine goB (fun b => ?_) | refine goC (fun ad cap => ?_) | refine goG ?_ | (refine Ops.k_guard ?_; first | (refine Ops.guard_dec rfl rfl (fun hc => ?_) (fun hc => ?_) <;> try (exfalso; omega)) | refine Ops.guard_split rfl rfl (fun hc => ?_) (fun hc => ?_)) | refine goI ?_ | (refine Cw.k_cond ?_; first | (refine Cw.cond_dec rfl (fun hc => ?_) (fun hc => ?_) <;> try (exfalso; omega)) | refine Cw.cond_bool rfl (fun hc => ?_) (fun hc => ?_)) | refine goR ?_ | refine goP ?_ | apply PSeq.cons | apply PSeq.yes rfl rfl rfl | exact goW | fail)
      exact ⟨_, _, _, (Ent.mk goSub goTk), ⟨k + 1, _, _, _, _, rfl, ⟨by omega, rfl, hV⟩, rfl, rfl⟩, by omega⟩
end Lg
end
section
set_option linter.all false
set_option maxRecDepth 100000
set_option maxHeartbeats 8000000
namespace Lg
open Go Go.Proofs

attribute [local irreducible] intRows insAt drv drvU drvE ordersE tripE roI wayO insT splK splI itF
theorem okR_drv {l : List Stop} {h : Spot} {s : Int} {i : Nat} {o : List Int} (ho : okR l h s i o) : drvE l h s o = 0 ∧ ∃ bs e q, drvU l h s o = .tup [.tour bs e (wayO l h s o) q, .int 0] := by
  obtain ⟨⟨bs, e, w, q⟩, hd⟩ := ho.2.1
  have h1 := ho.1
  unfold drvE drvU wayO
  rw [if_neg (by omega), if_neg (by omega), hd]
  exact ⟨rfl, bs, e, q, rfl⟩
theorem insE2_ok {l : List Stop} {h : Spot} {s : Int} {i : Nat} {o b : List Int} {w : Int} {f : Bool} (ho : okR l h s i o) (hi : i < l.length) (hT : insT l h s o i = (b, w, f)) :
    insE2 l h s o i = if f = true then .tup [.ints b, .int 0] else .tup [.sl 1 [], .int 8] := by
  unfold insE2
  rw [if_neg (by rw [(okR_drv ho).1]; decide), if_neg (by omega), if_neg (okR_new ho), insT_eq, hT]
theorem splitR_fn (h : Spot) (l : List Stop) (s c : Int) (ht0 : tripE h l s = 0) (hcb : -1000000 ≤ c ∧ c ≤ 1000000) : PFn Tryd.prog 22 [.agg h.row, .stops l, .int s, .int c] (· = splE l h s c) := by
  have hL : (l.map Stop.row).length = l.length := List.length_map _
  unfold splE Spot.row
  by_cases h2 : c < 1 ∨ 10 < c
  · rw [if_pos h2]
    refine PFn.mk (Spec.body Tryd.func22 rfl rfl (Tryd.ntmps22) rfl fun w0 own0 M => ?_)
    by_cases h3 : c < 1
    all_goals
      repeat' (first | refine goH ?_ | refine goV ?_ | refine goB (fun b => ?_) | refine goC (fun ad cap => ?_) | refine goG ?_ | (refine Ops.k_guard ?_; first | (refine Ops.guard_dec rfl rfl (fun hc => ?_) (fun hc => ?_) <;> try (exfalso; omega)) | refine Ops.guard_split rfl rfl (fun hc => ?_) (fun hc => ?_)) | refine goI ?_ | (refine Cw.k_cond ?_; first | (refine Cw.cond_dec rfl (fun hc => ?_) (fun hc => ?_) <;> try (exfalso; omega)) | refine Cw.cond_bool rfl (fun hc => ?_) (fun hc => ?_)) | refine goR ?_ | refine goP ?_ | apply PSeq.cons | apply PSeq.yes rfl rfl rfl | exact goW | fail)
      refine Fin.ret (Ent.trans (Ent.nilsl 1 (s := 8) rfl) (Ent.take goTk)) (Outs.many rfl (OutL.cons goOe (OutL.cons goOe OutL.nil)) rfl) ⟨rfl, rfl⟩
  rw [if_neg h2]
  obtain ⟨n, hn⟩ : ∃ n : Nat, c.toNat = n := ⟨_, rfl⟩
  have hcn : c = n := by omega
  rw [hn]
  subst hcn
  clear hn
  obtain ⟨S, hS⟩ : ∃ S, S = itF (splI l h s) 0 l.length (List.replicate n []) := ⟨_, rfl⟩
  rw [← hS]
  have hl60 := (stops_ok (trip_ok ht0).1).1
  refine PFn.mk (Spec.body Tryd.func22 rfl rfl (Tryd.ntmps22) rfl fun w0 own0 M => ?_)
  repeat' (first | refine goH ?_ | refine goV ?_ | refine goB (fun b => ?_) | refine goC (fun ad cap => ?_) | refine goG ?_ | (refine Ops.k_guard ?_; first | (refine Ops.guard_dec rfl rfl (fun hc => ?_) (fun hc => ?_) <;> try (exfalso; omega)) | refine Ops.guard_split rfl rfl (fun hc => ?_) (fun hc => ?_)) | refine goI ?_ | (refine Cw.k_cond ?_; first | (refine Cw.cond_dec rfl (fun hc => ?_) (fun hc => ?_) <;> try (exfalso; omega)) | refine Cw.cond_bool rfl (fun hc => ?_) (fun hc => ?_)) | refine goR ?_ | refine goP ?_ | apply PSeq.cons | apply PSeq.yes rfl rfl rfl | exact goW | fail)
  refine Cw.ent (Ent.imp_own (rows' := roI (List.replicate n [])) (ad := ad) (cap := cap) goPk (by rw [roI_len]; simp) (fun _ => roI_k) (roI_imp n)) ?_
  refine Cw.loopI [(1, _), (2, _), (4, _), (10, _), (32, _)] _ (fun z e cc => ∃ (i : Nat) (rs : List (List Int)), z = l.length - i ∧ (i ≤ l.length ∧ rs.length = n ∧ (∀ o ∈ rs, okR l h s i o) ∧ S = itF (splI l h s) i (l.length - i) rs) ∧ e = [(33, .int i)] ∧ cc = [Chunk.own ad cap 1 22 (roI rs)])
    ⟨_, _, _, (Ent.mkP goSub goPm), 0, List.replicate n [], rfl, ⟨by omega, List.length_replicate, fun o ho => by rw [List.eq_of_mem_replicate ho]; exact okR_nil, by rw [Nat.sub_zero]; exact hS⟩, rfl, rfl⟩ ?_
  clear hS
  rintro _ _ _ ⟨i, rs, rfl, ⟨hi, hrl, hok, hV⟩, rfl, rfl⟩
  have hoR := (roI_len rs).trans hrl
  by_cases hil : i < l.length
  rotate_left
  · rw [itF_end hil] at hV
    subst hV
    rw [← hoR]
    repeat' (first | refine goH ?_ | refine goV ?_ | refine goB (fun b => ?_) | refine goC (fun ad cap => ?_) | refine goG ?_ | (refine Ops.k_guard ?_; first | (refine Ops.guard_dec rfl rfl (fun hc => ?_) (fun hc => ?_) <;> try (exfalso; omega)) | refine Ops.guard_split rfl rfl (fun hc => ?_) (fun hc => ?_)) | refine goI ?_ | (refine Cw.k_cond ?_; first | (refine Cw.cond_dec rfl (fun hc => ?_) (fun hc => ?_) <;> try (exfalso; omega)) | refine Cw.cond_bool rfl (fun hc => ?_) (fun hc => ?_)) | refine goR ?_ | refine goP ?_ | apply PSeq.cons | apply PSeq.yes rfl rfl rfl | exact goW | fail)
    refine Fin.ret (Ent.trans (Ent.settle (s := 8) rfl goPk rfl) (Ent.take goTk)) (Outs.many rfl (OutL.cons goOe (OutL.cons goOe OutL.nil)) rfl) ⟨rfl, rfl⟩
  rw [itF_step hil] at hV
  obtain ⟨T, hT⟩ : ∃ T, T = itF (splK l h s rs i) 0 (rs.length - 0) (-1, 0, []) := ⟨_, rfl⟩
  have hTok : okS l h s rs i T := by rw [hT]; exact okS_all hok hil _ _ _ (by omega) (.inl rfl)
  have hV2 : S = itF (splI l h s) (i + 1) (l.length - (i + 1)) (if 0 ≤ T.1 then rs.set T.1.toNat T.2.2 else rs) := by
    rw [hV, hT, Nat.sub_zero]
    congr 1
    with_unfolding_all rfl
  clear hV
  repeat' (first | refine goH ?_ | refine goV ?_ | refine goB (fun b => ?_) | refine goC (fun ad cap => ?_) | refine goG ?_ | (refine Ops.k_guard ?_; first | (refine Ops.guard_dec rfl rfl (fun hc => ?_) (fun hc => ?_) <;> try (exfalso; omega)) | refine Ops.guard_split rfl rfl (fun hc => ?_) (fun hc => ?_)) | refine goI ?_ | (refine Cw.k_cond ?_; first | (refine Cw.cond_dec rfl (fun hc => ?_) (fun hc => ?_) <;> try (exfalso; omega)) | refine Cw.cond_bool rfl (fun hc => ?_) (fun hc => ?_)) | refine goR ?_ | refine goP ?_ | apply PSeq.cons | apply PSeq.yes rfl rfl rfl | exact goW | fail)
  refine Cw.ent (Ent.nilsl 1 (s := 14) rfl) ?_
  refine Cw.loopI [(1, _), (2, _), (4, _), (10, _), (11, _), (32, _), (33, _), (37, _)] _ (fun z e cc => ∃ (k : Nat) (c g : Int) (rt : List Int) (rows : List (List Tr)), z = n - k ∧ (k ≤ n ∧ rows = intRows rt ∧ T = itF (splK l h s rs i) k (rs.length - k) (c, g, rt)) ∧ e = [(12, .int c), (13, .int g), (14, .sl 1 rows), (38, .int k)] ∧ cc = [])
    ⟨_, _, _, (Ent.mkP goSub goPm), 0, -1, 0, [], [], rfl, ⟨by omega, intRows_nil.symm, hT⟩, rfl, rfl⟩ ?_
  clear hT
  rintro _ _ _ ⟨k, c, g, rt, _, rfl, ⟨hk, rfl, hV⟩, rfl, rfl⟩
  by_cases hkn : k < n
  rotate_left
  · rw [itF_end (by omega)] at hV
    subst hV
    simp only at hV2
    unfold okS at hTok
    simp only at hTok
    by_cases hc : 0 ≤ c
    · rcases hTok with hTok | ⟨h0, h1, h3, h4⟩
      · omega
      rw [if_pos hc] at hV2
      obtain ⟨o, ho⟩ := at_lt (l := rs) (k := c.toNat) (by omega)
      have r1 := roI_at ho
      have e2 : (roI rs).set c.toNat [Tr.ints rt] = roI (rs.set c.toNat rt) := roI_set rs c.toNat rt
      have hok2 : ∀ o ∈ rs.set c.toNat rt, okR l h s (i + 1) o := by
        intro y hy
        rcases List.mem_or_eq_of_mem_set hy with hm | hm
        · exact okR_mono (hok y hm)
        · rw [hm]; exact h3
      have hrl2 : (rs.set c.toNat rt).length = n := by rw [List.length_set]; exact hrl
      clear hok ho h3 h4
      repeat' (first | refine goH ?_ | refine goV ?_ | refine goB (fun b => ?_) | refine goC (fun ad cap => ?_) | refine goG ?_ | (refine Ops.k_guard ?_; first | (refine Ops.guard_dec rfl rfl (fun hc => ?_) (fun hc => ?_) <;> try (exfalso; omega)) | refine Ops.guard_split rfl rfl (fun hc => ?_) (fun hc => ?_)) | refine goI ?_ | (refine Cw.k_cond ?_; first | (refine Cw.cond_dec rfl (fun hc => ?_) (fun hc => ?_) <;> try (exfalso; omega)) | refine Cw.cond_bool rfl (fun hc => ?_) (fun hc => ?_)) | refine goR ?_ | refine goP ?_ | apply PSeq.cons | apply PSeq.yes rfl rfl rfl | exact goW | fail)
      erw [e2]
      exact ⟨_, _, _, (Ent.mk goSub goTk), ⟨i + 1, _, rfl, ⟨by omega, hrl2, hok2, hV2⟩, rfl, rfl⟩, by omega⟩
    · rw [if_neg hc] at hV2
      have hok2 : ∀ o ∈ rs, okR l h s (i + 1) o := fun o ho => okR_mono (hok o ho)
      clear hTok
      repeat' (first | refine goH ?_ | refine goV ?_ | refine goB (fun b => ?_) | refine goC (fun ad cap => ?_) | refine goG ?_ | (refine Ops.k_guard ?_; first | (refine Ops.guard_dec rfl rfl (fun hc => ?_) (fun hc => ?_) <;> try (exfalso; omega)) | refine Ops.guard_split rfl rfl (fun hc => ?_) (fun hc => ?_)) | refine goI ?_ | (refine Cw.k_cond ?_; first | (refine Cw.cond_dec rfl (fun hc => ?_) (fun hc => ?_) <;> try (exfalso; omega)) | refine Cw.cond_bool rfl (fun hc => ?_) (fun hc => ?_)) | refine goR ?_ | refine goP ?_ | apply PSeq.cons | apply PSeq.yes rfl rfl rfl | exact goW | fail)
      exact ⟨_, _, _, (Ent.mk goSub goTk), ⟨i + 1, _, rfl, ⟨by omega, hrl, hok2, hV2⟩, rfl, rfl⟩, by omega⟩
  rw [itF_step (by omega)] at hV
  obtain ⟨o, ho⟩ := at_lt (l := rs) (k := k) (by omega)
  have hoo := hok o (List.mem_of_getElem? ho)
  have hb1 := wayO_bd ht0 hoo
  have r1 := roI_at ho
  have hol := hoo.2.2.2
  have kI := insertedR_fn h l s i o ht0 (by omega) (by omega)
  obtain ⟨bs1, e1, q1, hU1⟩ := (okR_drv hoo).2
  have kA := driveOf_fn h l s o ht0 (by omega)
  rw [hU1] at kA
  have hnew := insT_ok hoo hil
  obtain ⟨⟨bb, w, f⟩, hT⟩ : ∃ q, insT l h s o i = q := ⟨_, rfl⟩
  rw [insE2_ok hoo hil hT] at kI
  rw [splK_eq ho hT] at hV
  rw [hT] at hnew
  simp only at hnew
  generalize wayO l h s o = v at *
  unfold Spot.row at kI kA
  cases f
  · rw [if_neg (by simp)] at hV kI
    clear hnew hT hok ho hTok hoo hU1 kA
    repeat' (first | refine goH ?_ | refine goV ?_ | refine goB (fun b => ?_) | refine goC (fun ad cap => ?_) | refine goG ?_ | (refine Ops.k_guard ?_; first | (refine Ops.guard_dec rfl rfl (fun hc => ?_) (fun hc => ?_) <;> try (exfalso; omega)) | refine Ops.guard_split rfl rfl (fun hc => ?_) (fun hc => ?_)) | refine goI ?_ | (refine Cw.k_cond ?_; first | (refine Cw.cond_dec rfl (fun hc => ?_) (fun hc => ?_) <;> try (exfalso; omega)) | refine Cw.cond_bool rfl (fun hc => ?_) (fun hc => ?_)) | (refine Ops.k_calla ?_; first | (refine Ops.k_callf 20 ?_; refine Ops.callV kI (Evs.cons rfl (Evs.cons rfl (Evs.cons rfl (Evs.cons rfl (Evs.cons rfl Evs.nil))))) rfl ?_)) | (apply OpW.k_call; first | (apply OpW.k_callf 20; exact OpW.callV kI (Evs.cons rfl (Evs.cons rfl (Evs.cons rfl (Evs.cons rfl (Evs.cons rfl Evs.nil))))))) | refine goR ?_ | refine goP ?_ | apply PSeq.cons | apply PSeq.yes rfl rfl rfl | exact goW | fail)
    exact ⟨_, _, _, (Ent.mk goSub goTk), ⟨k + 1, _, _, _, _, rfl, ⟨by omega, rfl, hV⟩, rfl, rfl⟩, by omega⟩
  rw [if_pos rfl] at kI
  obtain ⟨hn1, hn2⟩ := hnew rfl
  have hwb := wayO_bd ht0 hn1
  obtain ⟨bs2, e2, q2, hU2⟩ := (okR_drv hn1).2
  have hbl := hn1.2.2.2
  have kB := driveOf_fn h l s bb ht0 (by omega)
  rw [hU2] at kB
  unfold Spot.row at kB
  rw [hn2] at hwb kB
  clear hnew hT hok ho hTok hoo hU1 hU2 hn1 hn2
  repeat' (first | refine goH ?_ | refine goV ?_ | refine goB (fun b => ?_) | refine goC (fun ad cap => ?_) | refine goG ?_ | (refine Ops.k_guard ?_; first | (refine Ops.guard_dec rfl rfl (fun hc => ?_) (fun hc => ?_) <;> try (exfalso; omega)) | refine Ops.guard_split rfl rfl (fun hc => ?_) (fun hc => ?_)) | refine goI ?_ | (refine Cw.k_cond ?_; first | (refine Cw.cond_dec rfl (fun hc => ?_) (fun hc => ?_) <;> try (exfalso; omega)) | refine Cw.cond_bool rfl (fun hc => ?_) (fun hc => ?_)) | (refine Ops.k_calla ?_; first | (refine Ops.k_callf 20 ?_; refine Ops.callV kI (Evs.cons rfl (Evs.cons rfl (Evs.cons rfl (Evs.cons rfl (Evs.cons rfl Evs.nil))))) rfl ?_)) | (apply OpW.k_call; first | (apply OpW.k_callf 20; exact OpW.callV kI (Evs.cons rfl (Evs.cons rfl (Evs.cons rfl (Evs.cons rfl (Evs.cons rfl Evs.nil))))))) | refine goR ?_ | refine goP ?_ | apply PSeq.cons | apply PSeq.yes rfl rfl rfl | exact goW | fail)
  first | refine Cw.region_YP (fun ξ S => Chunk.own ad cap 1 22 (roI rs) :: Chunk.box b 30 [.int h.x, .int h.y] :: (stg (S 11) [] [Chunk.box (blk (ξ 11)) 53 (stg (S 12) (List.map Tr.raw [.slice none 0 0, .int .i64 0, .int .i64 0, .int .i64 0]) [.ints bs1, .int e1, .int v, .int q1])] ++ [])) rfl (by decide +kernel) rfl ((fun (ξ : Nat → Value) (S : Nat → Bool) => Chunk.own ad cap 1 22 (roI rs) :: Chunk.box b 30 [.int h.x, .int h.y] :: (stg (S 11) [] [Chunk.box (blk (ξ 11)) 53 (stg (S 12) (List.map Tr.raw [.slice none 0 0, .int .i64 0, .int .i64 0, .int .i64 0]) [.ints bs1, .int e1, .int v, .int q1])] ++ [])) (fun _ => undef) (fun _ => false)) (by simp only [upd_same, updD_same, upd_ne, updD_ne, ne_eq, Nat.reduceEqDiff, not_false_eq_true, stg_t, stg_f, vAd_s, vCap_s, blk_p, List.cons_append, List.nil_append, b2n_t, b2n_f]; exact goXm) (fun _ => rfl) ?_ | fail
  apply YSeq.w (by intro _ _ _; rfl)
  · intro ξ S h1 h2 h3 h4
    have hN0_12 := closed_false h1 h3 (k := 12) rfl (by decide)
    try simp only [upd_same, updD_same, upd_ne, updD_ne, ne_eq, Nat.reduceEqDiff, not_false_eq_true, stg_t, stg_f, vAd_s, vCap_s, blk_p, List.cons_append, List.nil_append, b2n_t, b2n_f, hN0_12]
    exact goW
  · intro ξ v; rfl
  · intro ξ k v S h3 hn hk
    first
    | rfl
  apply YSeq.w (by intro _ _ _; rfl)
  · intro ξ S h1 h2 h3 h4
    have hN1_12 := closed_false h1 h3 (k := 12) rfl (by decide)
    try simp only [upd_same, updD_same, upd_ne, updD_ne, ne_eq, Nat.reduceEqDiff, not_false_eq_true, stg_t, stg_f, vAd_s, vCap_s, blk_p, List.cons_append, List.nil_append, b2n_t, b2n_f, hN1_12]
    exact goW
  · intro ξ v; rfl
  · intro ξ k v S h3 hn hk
    first
    | rfl
  apply YSeq.w (by intro _ _ _; rfl)
  · intro ξ S h1 h2 h3 h4
    have hN2_12 := closed_false h1 h3 (k := 12) rfl (by decide)
    try simp only [upd_same, updD_same, upd_ne, updD_ne, ne_eq, Nat.reduceEqDiff, not_false_eq_true, stg_t, stg_f, vAd_s, vCap_s, blk_p, List.cons_append, List.nil_append, b2n_t, b2n_f, hN2_12]
    exact goW
  · intro ξ v; rfl
  · intro ξ k v S h3 hn hk
    first
    | rfl
  apply YSeq.w (by intro _ _ _; rfl)
  · intro ξ S h1 h2 h3 h4
    have hN3_12 := closed_false h1 h3 (k := 12) rfl (by decide)
    try simp only [upd_same, updD_same, upd_ne, updD_ne, ne_eq, Nat.reduceEqDiff, not_false_eq_true, stg_t, stg_f, vAd_s, vCap_s, blk_p, List.cons_append, List.nil_append, b2n_t, b2n_f, hN3_12]
    exact goW
  · intro ξ v; rfl
  · intro ξ k v S h3 hn hk
    first
    | rfl
  apply YSeq.w (by intro _ _ _; rfl)
  · intro ξ S h1 h2 h3 h4
    have hN4_12 := closed_false h1 h3 (k := 12) rfl (by decide)
    try simp only [upd_same, updD_same, upd_ne, updD_ne, ne_eq, Nat.reduceEqDiff, not_false_eq_true, stg_t, stg_f, vAd_s, vCap_s, blk_p, List.cons_append, List.nil_append, b2n_t, b2n_f, hN4_12]
    exact goW
  · intro ξ v; rfl
  · intro ξ k v S h3 hn hk
    first
    | rfl
  apply YSeq.w (by intro _ _ _; rfl)
  · intro ξ S h1 h2 h3 h4
    have hN5_12 := closed_false h1 h3 (k := 12) rfl (by decide)
    try simp only [upd_same, updD_same, upd_ne, updD_ne, ne_eq, Nat.reduceEqDiff, not_false_eq_true, stg_t, stg_f, vAd_s, vCap_s, blk_p, List.cons_append, List.nil_append, b2n_t, b2n_f, hN5_12]
    exact goW
  · intro ξ v; rfl
  · intro ξ k v S h3 hn hk
    first
    | rfl
  apply YSeq.w (by intro _ _ _; rfl)
  · intro ξ S h1 h2 h3 h4
    have hN6_12 := closed_false h1 h3 (k := 12) rfl (by decide)
    try simp only [upd_same, updD_same, upd_ne, updD_ne, ne_eq, Nat.reduceEqDiff, not_false_eq_true, stg_t, stg_f, vAd_s, vCap_s, blk_p, List.cons_append, List.nil_append, b2n_t, b2n_f, hN6_12]
    exact goW
  · intro ξ v; rfl
  · intro ξ k v S h3 hn hk
    first
    | rfl
  apply YSeq.callV (by intro _ _ _; rfl)
  · intro ξ S h1 h2 h3 h4
    have hN7_12 := closed_false h1 h3 (k := 12) rfl (by decide)
    try simp only [upd_same, updD_same, upd_ne, updD_ne, ne_eq, Nat.reduceEqDiff, not_false_eq_true, stg_t, stg_f, vAd_s, vCap_s, blk_p, List.cons_append, List.nil_append, b2n_t, b2n_f, hN7_12]
    exact ⟨_, (Evs.cons rfl (Evs.cons rfl (Evs.cons rfl (Evs.cons rfl Evs.nil)))), kA⟩
  · intro ξ v; rfl
  · intro ξ k v S h3 hn hk
    first
    | rfl
  apply YSeq.w (by intro _ _ _; rfl)
  · intro ξ S h1 h2 h3 h4
    have hN8_12 := closed_false h1 h3 (k := 12) rfl (by decide)
    try simp only [upd_same, updD_same, upd_ne, updD_ne, ne_eq, Nat.reduceEqDiff, not_false_eq_true, stg_t, stg_f, vAd_s, vCap_s, blk_p, List.cons_append, List.nil_append, b2n_t, b2n_f, hN8_12]
    exact goW
  · intro ξ v; rfl
  · intro ξ k v S h3 hn hk
    first
    | rfl
  apply YSeq.w (by intro _ _ _; rfl)
  · intro ξ S h1 h2 h3 h4
    have hN9_12 := closed_false h1 h3 (k := 12) rfl (by decide)
    try simp only [upd_same, updD_same, upd_ne, updD_ne, ne_eq, Nat.reduceEqDiff, not_false_eq_true, stg_t, stg_f, vAd_s, vCap_s, blk_p, List.cons_append, List.nil_append, b2n_t, b2n_f, hN9_12]
    exact goW
  · intro ξ v; rfl
  · intro ξ k v S h3 hn hk
    first
    | rfl
  apply YSeq.w (by intro _ _ _; rfl)
  · intro ξ S h1 h2 h3 h4
    try simp only [upd_same, updD_same, upd_ne, updD_ne, ne_eq, Nat.reduceEqDiff, not_false_eq_true, stg_t, stg_f, vAd_s, vCap_s, blk_p, List.cons_append, List.nil_append, b2n_t, b2n_f]
    exact goW
  · intro ξ v; rfl
  · intro ξ k v S h3 hn hk
    first
    | rfl
  apply YSeq.alloc
  · intro ξ S b h1 h3
    have hN11_12 := closed_false h1 h3 (k := 12) rfl (by decide)
    simp only [upd_same, updD_same, upd_ne, updD_ne, ne_eq, Nat.reduceEqDiff, not_false_eq_true, stg_t, stg_f, vAd_s, vCap_s, blk_p, List.cons_append, List.nil_append, b2n_t, b2n_f, h1, hN11_12]
    exact goXm
  apply YSeq.store
  · intro ξ S h1 h2 h3 h4
    have hY12_11 : S 11 = true := h2 11 (by decide)
    simp only [upd_same, updD_same, upd_ne, updD_ne, ne_eq, Nat.reduceEqDiff, not_false_eq_true, stg_t, stg_f, vAd_s, vCap_s, blk_p, List.cons_append, List.nil_append, b2n_t, b2n_f, hY12_11, h1]
    refine ⟨_, _, _, _, _, _, _, rfl, rfl, inferInstance, goXp, rfl, Nat.le_of_ble_eq_true rfl, ?_⟩
    exact goXm
  apply YSeq.w (by intro _ _ _; rfl)
  · intro ξ S h1 h2 h3 h4
    have hY13_11 : S 11 = true := h2 11 (by decide)
    have hY13_12 : S 12 = true := h2 12 (by decide)
    try simp only [upd_same, updD_same, upd_ne, updD_ne, ne_eq, Nat.reduceEqDiff, not_false_eq_true, stg_t, stg_f, vAd_s, vCap_s, blk_p, List.cons_append, List.nil_append, b2n_t, b2n_f, hY13_11, hY13_12]
    exact goW
  · intro ξ v; rfl
  · intro ξ k v S h3 hn hk
    first
    | rfl
    | skip
      have hY13_11 : S 11 = true := h3 13 _ rfl hn 11 (by decide)
      simp only [upd_S hY13_11 hk]
  refine YSeq.nil fun ξ hf => ?_
  refine ⟨[(1, _), (2, _), (4, _), (10, _), (11, _), (12, _), (13, _), (14, _), (15, _), (16, _), (18, _), (32, _), (33, _), (37, _), (38, _)], _, Ent.trans (Ent.eqc rfl (by first | (simp only [upd_same, updD_same, upd_ne, updD_ne, ne_eq, Nat.reduceEqDiff, not_false_eq_true, stg_t, stg_f, vAd_s, vCap_s, blk_p, List.cons_append, List.nil_append, b2n_t, b2n_f, ownV, slV, ptV] <;> rfl) | rfl)) (Ent.sub goSub), ?_⟩
  clear hf
  generalize blk (ξ 11) = b18
  by_cases hc0 : c < 0
  · rw [if_pos ⟨rfl, .inl hc0⟩] at hV
    repeat' (first | refine goH ?_ | refine goV ?_ | refine goB (fun b => ?_) | refine goC (fun ad cap => ?_) | refine goG ?_ | (refine Ops.k_guard ?_; first | (refine Ops.guard_dec rfl rfl (fun hc => ?_) (fun hc => ?_) <;> try (exfalso; omega)) | refine Ops.guard_split rfl rfl (fun hc => ?_) (fun hc => ?_)) | refine goI ?_ | (refine Cw.k_cond ?_; first | (refine Cw.cond_dec rfl (fun hc => ?_) (fun hc => ?_) <;> try (exfalso; omega)) | refine Cw.cond_bool rfl (fun hc => ?_) (fun hc => ?_)) | (refine Ops.k_calla ?_; first | (refine Ops.k_callf 29 ?_; refine Ops.callV kB (Evs.cons rfl (Evs.cons rfl (Evs.cons rfl (Evs.cons rfl Evs.nil)))) rfl ?_)) | (apply OpW.k_call; first | (apply OpW.k_callf 29; exact OpW.callV kB (Evs.cons rfl (Evs.cons rfl (Evs.cons rfl (Evs.cons rfl Evs.nil)))))) | refine goR ?_ | refine goP ?_ | apply PSeq.cons | apply PSeq.yes rfl rfl rfl | exact goW | fail)
    exact ⟨_, _, _, (Ent.mk goSub goTk), ⟨k + 1, _, _, _, _, rfl, ⟨by omega, rfl, hV⟩, rfl, rfl⟩, by omega⟩
  · by_cases hg : w - v < g
    · rw [if_pos ⟨rfl, .inr hg⟩] at hV
      repeat' (first | refine goH ?_ | refine goV ?_ | refine goB (fun b => ?_) | refine goC (fun ad cap => ?_) | refine goG ?_ | (refine Ops.k_guard ?_; first | (refine Ops.guard_dec rfl rfl (fun hc => ?_) (fun hc => ?_) <;> try (exfalso; omega)) | refine Ops.guard_split rfl rfl (fun hc => ?_) (fun hc => ?_)) | refine goI ?_ | (refine Cw.k_cond ?_; first | (refine Cw.cond_dec rfl (fun hc => ?_) (fun hc => ?_) <;> try (exfalso; omega)) | refine Cw.cond_bool rfl (fun hc => ?_) (fun hc => ?_)) | (refine Ops.k_calla ?_; first | (refine Ops.k_callf 29 ?_; refine Ops.callV kB (Evs.cons rfl (Evs.cons rfl (Evs.cons rfl (Evs.cons rfl Evs.nil)))) rfl ?_)) | (apply OpW.k_call; first | (apply OpW.k_callf 29; exact OpW.callV kB (Evs.cons rfl (Evs.cons rfl (Evs.cons rfl (Evs.cons rfl Evs.nil)))))) | refine goR ?_ | refine goP ?_ | apply PSeq.cons | apply PSeq.yes rfl rfl rfl | exact goW | fail)
      exact ⟨_, _, _, (Ent.mk goSub goTk), ⟨k + 1, _, _, _, _, rfl, ⟨by omega, rfl, hV⟩, rfl, rfl⟩, by omega⟩
    · rw [if_neg (by simp [hc0, hg])] at hV
      repeat' (first | refine goH ?_ | refine goV ?_ | refine goB (fun b => ?_) | refine goC (fun ad cap => ?_) | refine goG ?_ | (refine Ops.k_guard ?_; first | (refine Ops.guard_dec rfl rfl (fun hc => ?_) (fun hc => ?_) <;> try (exfalso; omega)) | refine Ops.guard_split rfl rfl (fun hc => ?_) (fun hc => ?_)) | refine goI ?_ | (refine Cw.k_cond ?_; first | (refine Cw.cond_dec rfl (fun hc => ?_) (fun hc => ?_) <;> try (exfalso; omega)) | refine Cw.cond_bool rfl (fun hc => ?_) (fun hc => ?_)) | (refine Ops.k_calla ?_; first | (refine Ops.k_callf 29 ?_; refine Ops.callV kB (Evs.cons rfl (Evs.cons rfl (Evs.cons rfl (Evs.cons rfl Evs.nil)))) rfl ?_)) | (apply OpW.k_call; first | (apply OpW.k_callf 29; exact OpW.callV kB (Evs.cons rfl (Evs.cons rfl (Evs.cons rfl (Evs.cons rfl Evs.nil)))))) | refine goR ?_ | refine goP ?_ | apply PSeq.cons | apply PSeq.yes rfl rfl rfl | exact goW | fail)
      exact ⟨_, _, _, (Ent.mk goSub goTk), ⟨k + 1, _, _, _, _, rfl, ⟨by omega, rfl, hV⟩, rfl, rfl⟩, by omega⟩
end Lg
end
section
set_option linter.all false
set_option maxRecDepth 100000
set_option maxHeartbeats 8000000
namespace Lg
open Go Go.Proofs

theorem rdc_spot : ∀ w A vs, RdC w A [Tr.intS (fun _ => True), Tr.intS (fun _ => True)] vs → ∃ r : Spot, True ∧ RdC w A [Tr.int r.x, Tr.int r.y] vs := by
  intro w A vs h
  obtain ⟨v, vs1, rfl, h1, h2, v2, vs2, rfl, h3, h4, h5⟩ := h
  obtain ⟨n, _, hn⟩ := open_intS w A v h1
  obtain ⟨l, hl, hr⟩ := open_intS w A v2 h3
  exact ⟨⟨n, l⟩, trivial, ⟨v, _, rfl, hn, h2, v2, vs2, rfl, hr, h4, h5⟩⟩
theorem eqfI_fn (rs : List (List Int)) (hl : rs.length ≤ 1000) (hv : ∀ r ∈ rs, r.length ≤ 1000) : PFn Tryd.prog 23 [.sl 1 (roI rs), .sl 1 (roI rs), Tr.raw (.func (.func 14) #[] #[])] (· = .bool true) := by
  refine PFn.mk (Spec.body Tryd.func23 rfl rfl (Tryd.ntmps23) rfl fun w0 own0 M => ?_)
  have hR := roI_len rs
  repeat' (first | refine goH ?_ | refine goV ?_ | refine goI ?_ | (refine Cw.k_cond ?_; first | (refine Cw.cond_dec rfl (fun hc => ?_) (fun hc => ?_) <;> try (exfalso; omega)) | refine Cw.cond_bool rfl (fun hc => ?_) (fun hc => ?_)) | fail)
  refine Cw.loopI [(1, _), (2, _), (15, _), (16, _)] _ (fun q e cc => ∃ (k : Nat), q = rs.length - k ∧ (k ≤ rs.length) ∧ e = [(17, .int k)] ∧ cc = []) ⟨_, _, _, (Ent.mkP goSub goPm), 0, rfl, by omega, rfl, rfl⟩ ?_
  rintro _ _ _ ⟨k, rfl, hk, rfl, rfl⟩
  by_cases hkl : k < rs.length
  · obtain ⟨r, hx⟩ := at_lt hkl
    have hr1 := roI_at hx
    have kE := (equalInts_same r (by have := hv r (List.mem_of_getElem? hx); omega)).lend
    repeat' (first | refine goH ?_ | refine goV ?_ | refine goI ?_ | (refine Cw.k_cond ?_; first | (refine Cw.cond_dec rfl (fun hc => ?_) (fun hc => ?_) <;> try (exfalso; omega)) | refine Cw.cond_bool rfl (fun hc => ?_) (fun hc => ?_)) | (refine Ops.k_calla ?_; first | refine Ops.callS_fn (caps := []) (args := [.ints r, .ints r]) rfl kE (Evs.cons rfl (Evs.cons rfl Evs.nil)) (List.Perm.refl _) rfl ?_) | fail)
    exact ⟨_, _, _, (Ent.mk goSub goTk), ⟨k + 1, rfl, by omega, rfl, rfl⟩, by omega⟩
  · repeat' (first | refine goH ?_ | refine goV ?_ | refine goI ?_ | (refine Cw.k_cond ?_; first | (refine Cw.cond_dec rfl (fun hc => ?_) (fun hc => ?_) <;> try (exfalso; omega)) | refine Cw.cond_bool rfl (fun hc => ?_) (fun hc => ?_)) | fail)
    exact Fin.ret (Ent.take goTk) (Outs.one rfl rfl) ⟨rfl, rfl⟩
/-! ### the results, in one form -/
theorem insAt_len2 (o : List Int) (i : Nat) (x : Int) : (insAt o i x).length ≤ o.length + 1 := by
  unfold insAt
  rw [List.length_append, List.length_take, List.length_cons, List.length_drop]
  omega
theorem insG_len {l : List Stop} {h : Spot} {s : Int} {o : List Int} {x : Int} : ∀ (n k : Nat) (st : ISt), st.1.length ≤ o.length + 1 → (insG l h s o x k n st).1.length ≤ o.length + 1
  | 0, k, st, hst => hst
  | n + 1, k, st, hst => by
    rw [insG]
    refine insG_len n (k + 1) _ ?_
    unfold insS
    cases hd : drv l h (insAt o k x) h s [] 0 0 with
    | none => exact hst
    | some r =>
      simp only
      split
      · exact insAt_len2 o k x
      · exact hst
theorem insE2_one (l : List Stop) (h : Spot) (s : Int) (o : List Int) (x : Int) : ∃ (a : List Int) (e : Int), insE2 l h s o x = .tup [.ints a, .int e] ∧ a.length ≤ o.length + 1 := by
  unfold insE2
  split
  · exact ⟨[], _, rfl, by simp⟩
  · split
    · exact ⟨[], _, rfl, by simp⟩
    · split
      · exact ⟨[], _, rfl, by simp⟩
      · split
        · exact ⟨_, _, rfl, insG_len _ _ _ (by simp)⟩
        · exact ⟨[], _, rfl, by simp⟩
theorem impS_len {l : List Stop} {h : Spot} {s : Int} {b : List Int} {i j : Nat} {st : IS} (hst : st.1.length = b.length) : (impS l h s b i j st).1.length = b.length := by
  unfold impS
  cases hd : drv l h (revI b i j) h s [] 0 0 with
  | none => exact hst
  | some r =>
    simp only
    split
    · exact revI_len b i j
    · exact hst
theorem impJ_len {l : List Stop} {h : Spot} {s : Int} {b : List Int} {i : Nat} : ∀ (n j : Nat) (st : IS), st.1.length = b.length → (impJ l h s b i j n st).1.length = b.length
  | 0, _, _, h => h
  | n + 1, j, st, h => impJ_len n (j + 1) _ (impS_len h)
theorem impI_len {l : List Stop} {h : Spot} {s : Int} {b : List Int} : ∀ (n i : Nat) (st : IS), st.1.length = b.length → (impI l h s b i n st).1.length = b.length
  | 0, _, _, h => h
  | n + 1, i, st, h => impI_len n (i + 1) _ (impJ_len _ _ _ h)
theorem impR_len {l : List Stop} {h : Spot} {s : Int} : ∀ (n : Nat) (st : IS), (impR l h s n st).1.length = st.1.length
  | 0, _ => rfl
  | n + 1, st => by
    rw [impR]
    have := impI_len (l := l) (h := h) (s := s) (b := st.1) st.1.length 0 st rfl
    split
    · exact this
    · rw [impR_len n, this]
theorem impE_one (l : List Stop) (h : Spot) (s : Int) (o : List Int) (r : Int) : ∃ (b : List Int) (w e : Int), impE l h s o r = .tup [.ints b, .int w, .int e] ∧ b.length ≤ o.length := by
  unfold impE
  split
  · exact ⟨[], _, _, rfl, by simp⟩
  · split
    · exact ⟨[], _, _, rfl, by simp⟩
    · split
      · exact ⟨[], _, _, rfl, by simp⟩
      · exact ⟨_, _, _, rfl, by rw [impR_len]; exact Nat.le_refl _⟩
theorem splI_ok {l : List Stop} {h : Spot} {s : Int} {i : Nat} {rs : List (List Int)} (hrs : ∀ o ∈ rs, okR l h s i o) (hi : i < l.length) : (splI l h s i rs).length = rs.length ∧ ∀ o ∈ splI l h s i rs, okR l h s (i + 1) o := by
  have hT := okS_all hrs hi rs.length 0 (-1, 0, []) (by omega) (.inl rfl)
  unfold splI
  generalize itF (splK l h s rs i) 0 rs.length (-1, 0, []) = T at *
  split
  · rename_i h0
    rcases hT with hT | ⟨_, _, h3, _⟩
    · omega
    · refine ⟨List.length_set, fun y hy => ?_⟩
      rcases List.mem_or_eq_of_mem_set hy with hm | hm
      · exact okR_mono (hrs y hm)
      · rw [hm]; exact h3
  · exact ⟨rfl, fun y hy => okR_mono (hrs y hy)⟩
theorem itF_ok {l : List Stop} {h : Spot} {s : Int} : ∀ (n i : Nat) (rs : List (List Int)), i + n ≤ l.length → (∀ o ∈ rs, okR l h s i o) → (itF (splI l h s) i n rs).length = rs.length ∧ ∀ o ∈ itF (splI l h s) i n rs, okR l h s (i + n) o
  | 0, i, rs, _, hrs => ⟨rfl, hrs⟩
  | n + 1, i, rs, hi, hrs => by
    rw [itF]
    obtain ⟨h1, h2⟩ := splI_ok hrs (show i < l.length by omega)
    obtain ⟨h3, h4⟩ := itF_ok n (i + 1) _ (by omega) h2
    exact ⟨h3.trans h1, fun o ho => by have := h4 o ho; rwa [show i + (n + 1) = i + 1 + n by omega]⟩
theorem splE_one (l : List Stop) (h : Spot) (s : Int) (c : Int) : ∃ (rs : List (List Int)) (e : Int), splE l h s c = .tup [.sl 1 (roI rs), .int e] ∧ rs.length ≤ 1000 ∧ ∀ o ∈ rs, o.length ≤ l.length := by
  unfold splE
  split
  · exact ⟨[], _, rfl, by simp, by simp⟩
  · obtain ⟨h1, h2⟩ := itF_ok (l := l) (h := h) (s := s) l.length 0 (List.replicate c.toNat []) (by omega) (fun o ho => by rw [List.eq_of_mem_replicate ho]; exact okR_nil)
    refine ⟨_, _, rfl, by rw [h1, List.length_replicate]; omega, fun o ho => ?_⟩
    have := (h2 o ho).2.2.2
    omega
attribute [local irreducible] intRows insAt drv drvU drvE ordersE tripE roI wayO insT splK splI itF insE2 impE splE
theorem routesImproved_law (xs : List Int) : Spec Tryd.prog 4 [Tr.ints xs] [] (fun r _ => r = Tr.bool true) := by
  refine Spec.body Tryd.func4 rfl rfl (Tryd.ntmps4) rfl fun w0 own0 M => ?_
  repeat' (first | refine goH ?_ | ((fail_if_success refine Ops.k_c_call ?_); refine goV ?_) | ((fail_if_success refine Ops.k_c_call ?_); refine goB (fun b => ?_)) | refine goG ?_ | (refine Ops.k_guard ?_; first | (refine Ops.guard_dec rfl rfl (fun hc => ?_) (fun hc => ?_) <;> try (exfalso; omega)) | refine Ops.guard_split rfl rfl (fun hc => ?_) (fun hc => ?_)) | refine goI ?_ | (refine Cw.k_cond ?_; first | (refine Cw.cond_dec rfl (fun hc => ?_) (fun hc => ?_) <;> try (exfalso; omega)) | refine Cw.cond_bool rfl (fun hc => ?_) (fun hc => ?_)) | refine Ops.shut0 (ty := 25) rfl ?_ | (refine Ops.k_calla ?_; first | (refine Ops.k_callf 6 ?_; (refine Ops.callG (stops_gen 7 (by omega)) (Evs.cons rfl (Evs.cons rfl Evs.nil)) goPk (by omega) rfl ?_; rintro r ⟨l, rfl, hll⟩)) | (refine Ops.k_callf 8 ?_; (refine Ops.callG spot_gen (Evs.cons rfl Evs.nil) goPk (by omega) rfl ?_; rintro r ⟨h, rfl, hsp⟩)) | (refine Ops.k_callf 7 ?_; (refine Ops.callG (pick_gen (by repeat' (first | exact IsInts.nil | apply IsInts.cons)) (by simp)) (Evs.cons rfl (Evs.cons rfl Evs.nil)) goPk (by omega) rfl ?_; rintro r ⟨v, rfl, hd⟩; have hv : -1000000 ≤ v ∧ v ≤ 1000000 := (by simp at hd; omega); clear hd)) | (refine Ops.k_callf 16 ?_; (refine Ops.callG (route_gen (l.map Stop.row).length (by rw [List.length_map]; omega)) (Evs.cons rfl (Evs.cons rfl Evs.nil)) goPk (by omega) rfl ?_; rintro r ⟨o, rfl, hol⟩))) | fail)
  rename_i st hst sk hsk tm htm
  have k4 := routeFault_fn h l st (by omega)
  have k3 := split_fn h l st v (by omega) hv
  by_cases ht : tripE h l st ≠ 0
  · have k1 := insertE_fn h l st sk o ht (by omega) (by omega)
    have k2 := improveE_fn h l st tm o ht (by omega) (by omega)
    rw [if_pos ht] at k3
    generalize tripE h l st = E at *
    unfold Spot.row at *
    repeat' (first | refine goH ?_ | (refine Ops.k_b_eql ?_; first | (refine Ops.val' rfl (OpV.eql_t rfl rfl (by omega)) ?_)) | (refine Ops.k_b_neq ?_; first | (refine Ops.val' rfl (OpV.neq_t rfl rfl (by omega)) ?_) | (refine Ops.val' rfl (OpV.neq_f rfl rfl (by omega)) ?_)) | refine goV ?_ | refine goB (fun b => ?_) | refine goG ?_ | (refine Ops.k_guard ?_; first | (refine Ops.guard_dec rfl rfl (fun hc => ?_) (fun hc => ?_) <;> try (exfalso; omega)) | refine Ops.guard_split rfl rfl (fun hc => ?_) (fun hc => ?_)) | refine goI ?_ | (refine Cw.k_cond ?_; first | (refine Cw.cond_dec rfl (fun hc => ?_) (fun hc => ?_) <;> try (exfalso; omega)) | refine Cw.cond_bool rfl (fun hc => ?_) (fun hc => ?_)) | (refine Ops.k_calla ?_; first | (refine Ops.k_callf 17 ?_; refine Ops.callV k1 (Evs.cons rfl (Evs.cons rfl (Evs.cons rfl (Evs.cons rfl (Evs.cons rfl Evs.nil))))) rfl ?_) | (refine Ops.k_callf 18 ?_; refine Ops.callV k2 (Evs.cons rfl (Evs.cons rfl (Evs.cons rfl (Evs.cons rfl (Evs.cons rfl Evs.nil))))) rfl ?_) | (refine Ops.k_callf 19 ?_; refine Ops.callV k3 (Evs.cons rfl (Evs.cons rfl (Evs.cons rfl (Evs.cons rfl Evs.nil)))) rfl ?_) | (refine Ops.k_callf 11 ?_; refine Ops.callV k4 (Evs.cons rfl (Evs.cons rfl (Evs.cons rfl Evs.nil))) rfl ?_) | (refine Ops.k_callf 12 ?_; refine Ops.callV rounds_fn Evs.nil rfl ?_)) | fail)
    all_goals exact Fin.ret Ent.refl (Outs.one rfl rfl) rfl
  rw [if_neg ht] at k3
  have ht0 : tripE h l st = 0 := by omega
  have k1 := insertU_fn h l st sk o ht0 hsk (by omega)
  have k2 := improveU_fn h l st tm o ht0 htm (by omega)
  have k5 := insertedR_fn h l st sk o ht0 hsk (by omega)
  have k6 := improvedR_fn h l st tm o ht0 htm (by omega)
  have k7 := splitR_fn h l st v ht0 hv
  rw [ht0] at k4
  obtain ⟨A, e1, hA, hAl⟩ := insE2_one l h st o sk
  obtain ⟨B, w2, e2, hB, hBl⟩ := impE_one l h st o tm
  obtain ⟨C, e3, hC, hCl, hCv⟩ := splE_one l h st v
  rw [hA] at k1 k5
  rw [hB] at k2 k6
  rw [hC] at k3 k7
  have q1 := equalInts_same A (by omega)
  have q2 := equalInts_same B (by omega)
  have q3 := eqfI_fn C hCl (fun o ho => by have := hCv o ho; omega)
  unfold Spot.row at *
  clear hA hB hC hCv hsp
  repeat' (first | refine goH ?_ | (refine Ops.k_b_eql ?_; first | (refine Ops.val' rfl (OpV.eql_t rfl rfl (by omega)) ?_)) | (refine Ops.k_b_neq ?_; first | (refine Ops.val' rfl (OpV.neq_t rfl rfl (by omega)) ?_) | (refine Ops.val' rfl (OpV.neq_f rfl rfl (by omega)) ?_)) | refine goV ?_ | refine goB (fun b => ?_) | refine goG ?_ | (refine Ops.k_guard ?_; first | (refine Ops.guard_dec rfl rfl (fun hc => ?_) (fun hc => ?_) <;> try (exfalso; omega)) | refine Ops.guard_split rfl rfl (fun hc => ?_) (fun hc => ?_)) | refine goI ?_ | (refine Cw.k_cond ?_; first | (refine Cw.cond_dec rfl (fun hc => ?_) (fun hc => ?_) <;> try (exfalso; omega)) | refine Cw.cond_bool rfl (fun hc => ?_) (fun hc => ?_)) | (refine Ops.k_calla ?_; first | (refine Ops.k_callf 17 ?_; refine Ops.callV k1 (Evs.cons rfl (Evs.cons rfl (Evs.cons rfl (Evs.cons rfl (Evs.cons rfl Evs.nil))))) rfl ?_) | (refine Ops.k_callf 18 ?_; refine Ops.callV k2 (Evs.cons rfl (Evs.cons rfl (Evs.cons rfl (Evs.cons rfl (Evs.cons rfl Evs.nil))))) rfl ?_) | (refine Ops.k_callf 19 ?_; refine Ops.callV k3 (Evs.cons rfl (Evs.cons rfl (Evs.cons rfl (Evs.cons rfl Evs.nil)))) rfl ?_) | (refine Ops.k_callf 11 ?_; refine Ops.callV k4 (Evs.cons rfl (Evs.cons rfl (Evs.cons rfl Evs.nil))) rfl ?_) | (refine Ops.k_callf 20 ?_; refine Ops.callV k5 (Evs.cons rfl (Evs.cons rfl (Evs.cons rfl (Evs.cons rfl (Evs.cons rfl Evs.nil))))) rfl ?_) | (refine Ops.k_callf 21 ?_; refine Ops.callV k6 (Evs.cons rfl (Evs.cons rfl (Evs.cons rfl (Evs.cons rfl (Evs.cons rfl Evs.nil))))) rfl ?_) | (refine Ops.k_callf 22 ?_; refine Ops.callV k7 (Evs.cons rfl (Evs.cons rfl (Evs.cons rfl (Evs.cons rfl Evs.nil)))) rfl ?_) | (refine Ops.k_callf 14 ?_; refine Ops.callV q1 (Evs.cons rfl (Evs.cons rfl Evs.nil)) rfl ?_) | (refine Ops.k_callf 14 ?_; refine Ops.callV q2 (Evs.cons rfl (Evs.cons rfl Evs.nil)) rfl ?_) | (refine Ops.k_callf 23 ?_; refine Ops.callV q3 (Evs.cons rfl (Evs.cons rfl (Evs.cons rfl Evs.nil))) rfl ?_) | (refine Ops.k_callf 12 ?_; refine Ops.callV rounds_fn Evs.nil rfl ?_)) | fail)
  all_goals exact Fin.ret Ent.refl (Outs.one rfl rfl) rfl
end Lg
end
section
set_option linter.all false
set_option maxRecDepth 100000
set_option maxHeartbeats 8000000
namespace Lg
open Go Go.Proofs

theorem tryR_len {l : List Stop} {h : Spot} {s : Int} : ∀ (n : Nat) (pre : List Int) (st : BS), st.1.length ≤ pre.length + n → (tryR l h s n pre st).1.length ≤ pre.length + n
  | 0, pre, st, h0 => by
    rw [tryR]
    split
    · exact h0
    · split
      · exact Nat.le_refl _
      · exact h0
  | n + 1, pre, st, h0 => by
    rw [tryR]
    split
    · exact h0
    · have : ∀ (m k : Nat) (st : BS), st.1.length ≤ pre.length + (n + 1) → (itF (fun k st => if (k : Int) ∈ pre then st else tryR l h s n (pre ++ [(k : Int)]) st) k m st).1.length ≤ pre.length + (n + 1) := by
        intro m
        induction m with
        | zero => intro k st h1; exact h1
        | succ m ih =>
          intro k st h1
          rw [itF]
          refine ih _ _ ?_
          split
          · exact h1
          · have := tryR_len (l := l) (h := h) (s := s) n (pre ++ [(k : Int)]) st (by rw [List.length_append]; simp; omega)
            rw [List.length_append] at this
            simp at this
            omega
      exact this _ _ _ h0
theorem nrR_len {l : List Stop} : ∀ (n : Nat) (out : List Int) (a : Spot) (now : Int), (nrR l n out a now).length ≤ out.length + n
  | 0, out, a, now => by rw [nrR]; omega
  | n + 1, out, a, now => by
    rw [nrR]
    split
    · omega
    · split
      · omega
      · rename_i x _
        have := nrR_len (l := l) n (out ++ [nrN l out a now]) x.spot (max (now + farI a x.spot) x.f + x.n)
        rw [List.length_append] at this
        simp at this
        omega
theorem bestE_one (l : List Stop) (h : Spot) (s : Int) : ∃ (b : List Int) (w e : Int), bestE l h s = .tup [.ints b, .int w, .int e] ∧ b.length ≤ l.length := by
  unfold bestE
  split
  · exact ⟨[], _, _, rfl, by simp⟩
  · split
    · exact ⟨[], _, _, rfl, by simp⟩
    · refine ⟨_, _, _, rfl, ?_⟩
      have := tryR_len (l := l) (h := h) (s := s) l.length [] ([], -1) (by simp)
      simpa [bestS] using this
attribute [local irreducible] intRows tripE bestE nrR
theorem routesBest_law (xs : List Int) : Spec Tryd.prog 3 [Tr.ints xs] [] (fun r _ => r = Tr.bool true) := by
  refine Spec.body Tryd.func3 rfl rfl (Tryd.ntmps3) rfl fun w0 own0 M => ?_
  repeat' (first | refine goH ?_ | ((fail_if_success refine Ops.k_c_call ?_); refine goV ?_) | ((fail_if_success refine Ops.k_c_call ?_); refine goB (fun b => ?_)) | refine goG ?_ | (refine Ops.k_guard ?_; first | (refine Ops.guard_dec rfl rfl (fun hc => ?_) (fun hc => ?_) <;> try (exfalso; omega)) | refine Ops.guard_split rfl rfl (fun hc => ?_) (fun hc => ?_)) | refine goI ?_ | (refine Cw.k_cond ?_; first | (refine Cw.cond_dec rfl (fun hc => ?_) (fun hc => ?_) <;> try (exfalso; omega)) | refine Cw.cond_bool rfl (fun hc => ?_) (fun hc => ?_)) | refine Ops.shut0 (ty := 25) rfl ?_ | (refine Ops.k_calla ?_; first | (refine Ops.k_callf 8 ?_; (refine Ops.callG spot_gen (Evs.cons rfl Evs.nil) goPk (by omega) rfl ?_; rintro r ⟨h, rfl, hsp⟩)) | (refine Ops.k_callf 7 ?_; (refine Ops.callG (pick_gen (by repeat' (first | exact IsInts.nil | apply IsInts.cons)) (by simp)) (Evs.cons rfl (Evs.cons rfl Evs.nil)) goPk (by omega) rfl ?_; rintro r ⟨v, rfl, hd⟩; have hv : 0 ≤ v ∧ v ≤ 30 := (by simp at hd; omega))) | (refine Ops.k_callf 6 ?_; (refine Ops.callG (stops_gen v (by simp at hd; omega)) (Evs.cons rfl (Evs.cons rfl Evs.nil)) goPk (by omega) rfl ?_; rintro r ⟨l, rfl, hll⟩; clear hd hv))) | fail)
  rename Int => st
  have k3 := best_fn h l st (by omega)
  have k4 := nearest_fn h l st (by omega)
  have k5 := routeFault_fn h l st (by omega)
  by_cases ht : tripE h l st ≠ 0
  · rw [if_pos ht] at k3 k4
    generalize tripE h l st = E at *
    unfold Spot.row at *
    repeat' (first | refine goH ?_ | (refine Ops.k_b_eql ?_; first | (refine Ops.val' rfl (OpV.eql_t rfl rfl (by omega)) ?_)) | (refine Ops.k_b_neq ?_; first | (refine Ops.val' rfl (OpV.neq_t rfl rfl (by omega)) ?_) | (refine Ops.val' rfl (OpV.neq_f rfl rfl (by omega)) ?_)) | refine goV ?_ | refine goB (fun b => ?_) | refine goG ?_ | (refine Ops.k_guard ?_; first | (refine Ops.guard_dec rfl rfl (fun hc => ?_) (fun hc => ?_) <;> try (exfalso; omega)) | refine Ops.guard_split rfl rfl (fun hc => ?_) (fun hc => ?_)) | refine goI ?_ | (refine Cw.k_cond ?_; first | (refine Cw.cond_dec rfl (fun hc => ?_) (fun hc => ?_) <;> try (exfalso; omega)) | refine Cw.cond_bool rfl (fun hc => ?_) (fun hc => ?_)) | (refine Ops.k_calla ?_; first | (refine Ops.k_callf 9 ?_; refine Ops.callV k3 (Evs.cons rfl (Evs.cons rfl (Evs.cons rfl Evs.nil))) rfl ?_) | (refine Ops.k_callf 10 ?_; refine Ops.callV k4 (Evs.cons rfl (Evs.cons rfl (Evs.cons rfl Evs.nil))) rfl ?_) | (refine Ops.k_callf 11 ?_; refine Ops.callV k5 (Evs.cons rfl (Evs.cons rfl (Evs.cons rfl Evs.nil))) rfl ?_) | (refine Ops.k_callf 12 ?_; refine Ops.callV rounds_fn Evs.nil rfl ?_)) | fail)
    all_goals exact Fin.ret Ent.refl (Outs.one rfl rfl) rfl
  rw [if_neg ht] at k3 k4
  have ht0 : tripE h l st = 0 := by omega
  rw [ht0] at k5
  have k6 := bestRoute_fn h l st (by omega) ht0
  have k7 := nearestRoute_fn h l st (by omega) ht0
  obtain ⟨B, w2, e2, hB, hBl⟩ := bestE_one l h st
  have hnl := nrR_len (l := l) (l.length + 1) [] h st
  generalize nrR l (l.length + 1) [] h st = C at *
  rw [hB] at k3 k6
  have q1 := equalInts_same B (by omega)
  have q2 := equalInts_same C (by simp at hnl; omega)
  unfold Spot.row at *
  clear hB hsp
  repeat' (first | refine goH ?_ | (refine Ops.k_b_eql ?_; first | (refine Ops.val' rfl (OpV.eql_t rfl rfl (by omega)) ?_)) | (refine Ops.k_b_neq ?_; first | (refine Ops.val' rfl (OpV.neq_t rfl rfl (by omega)) ?_) | (refine Ops.val' rfl (OpV.neq_f rfl rfl (by omega)) ?_)) | refine goV ?_ | refine goB (fun b => ?_) | refine goG ?_ | (refine Ops.k_guard ?_; first | (refine Ops.guard_dec rfl rfl (fun hc => ?_) (fun hc => ?_) <;> try (exfalso; omega)) | refine Ops.guard_split rfl rfl (fun hc => ?_) (fun hc => ?_)) | refine goI ?_ | (refine Cw.k_cond ?_; first | (refine Cw.cond_dec rfl (fun hc => ?_) (fun hc => ?_) <;> try (exfalso; omega)) | refine Cw.cond_bool rfl (fun hc => ?_) (fun hc => ?_)) | (refine Ops.k_calla ?_; first | (refine Ops.k_callf 9 ?_; refine Ops.callV k3 (Evs.cons rfl (Evs.cons rfl (Evs.cons rfl Evs.nil))) rfl ?_) | (refine Ops.k_callf 10 ?_; refine Ops.callV k4 (Evs.cons rfl (Evs.cons rfl (Evs.cons rfl Evs.nil))) rfl ?_) | (refine Ops.k_callf 11 ?_; refine Ops.callV k5 (Evs.cons rfl (Evs.cons rfl (Evs.cons rfl Evs.nil))) rfl ?_) | (refine Ops.k_callf 13 ?_; refine Ops.callV k6 (Evs.cons rfl (Evs.cons rfl (Evs.cons rfl Evs.nil))) rfl ?_) | (refine Ops.k_callf 15 ?_; refine Ops.callV k7 (Evs.cons rfl (Evs.cons rfl (Evs.cons rfl Evs.nil))) rfl ?_) | (refine Ops.k_callf 14 ?_; refine Ops.callV q1 (Evs.cons rfl (Evs.cons rfl Evs.nil)) rfl ?_) | (refine Ops.k_callf 14 ?_; refine Ops.callV q2 (Evs.cons rfl (Evs.cons rfl Evs.nil)) rfl ?_) | (refine Ops.k_callf 12 ?_; refine Ops.callV rounds_fn Evs.nil rfl ?_)) | fail)
  all_goals exact Fin.ret Ent.refl (Outs.one rfl rfl) rfl
end Lg
end
