/- A part of the proof of a law of this seat: it adds no condition. By an AI agent. -/
import Derived.Test.YtlaemkjeagpbnaaDoorAr7
set_option linter.all false
set_option maxRecDepth 100000
set_option maxHeartbeats 8000000
namespace Lg
open Go Go.Proofs

/-! ### what tryP finds is as long as the layout -/
theorem tryP_len {K old : List ByteArray} {ok : List ByteArray → Bool} : ∀ (n : Nat) (pre : List ByteArray) (left : List Int) (d : Int) (st : PS), (0 ≤ st.2 → st.1.length = pre.length + n) → 0 ≤ d → (0 ≤ (tryP K old ok n pre left d st).2 → (tryP K old ok n pre left d st).1.length = pre.length + n)
  | 0, pre, left, d, st, h, hd => by
    rw [tryP]
    split
    · intro _; rfl
    · exact h
  | n + 1, pre, left, d, st, h, hd => by
    rw [tryP]
    have : ∀ (m k : Nat) (st : PS), (0 ≤ st.2 → st.1.length = pre.length + (n + 1)) → (0 ≤ (itF (fun k st => match left[k]?, K[k]? with
      | some v, some key => if v = 0 then st else tryP K old ok n (pre ++ [key]) (left.set k (v - 1)) (d + dif1 old pre.length key) st
      | _, _ => st) k m st).2 → (itF (fun k st => match left[k]?, K[k]? with
      | some v, some key => if v = 0 then st else tryP K old ok n (pre ++ [key]) (left.set k (v - 1)) (d + dif1 old pre.length key) st
      | _, _ => st) k m st).1.length = pre.length + (n + 1)) := by
      intro m
      induction m with
      | zero => intro k st h1; exact h1
      | succ m ih =>
        intro k st h1
        rw [itF]
        refine ih _ _ ?_
        cases left[k]? with
        | none => exact h1
        | some v =>
          cases K[k]? with
          | none => exact h1
          | some key =>
            simp only
            split
            · exact h1
            · have hd2 := dif1_bd (old := old) pre.length key
              have := tryP_len (K := K) (old := old) (ok := ok) n (pre ++ [key]) (left.set k (v - 1)) (d + dif1 old pre.length key) st (fun h2 => by rw [h1 h2, List.length_append]; simp; omega) (by omega)
              intro h2
              rw [this h2, List.length_append]
              simp
              omega
    exact this _ _ _ h
theorem strRows_rep (n : Nat) : List.replicate n [Tr.raw (.string ⟨#[]⟩)] = strRows (List.replicate n eS) := by
  unfold strRows
  rw [List.map_replicate]
theorem bestT_none (B : List ByteArray) : bestT B (-1) = Tr.raw (.slice none 0 0) := rfl
theorem keys_odd {l : List Offer} (h : offersE l = 0) : ∀ o ∈ l, oddB l o.key = false := by
  intro o ho
  unfold oddB
  split
  · rfl
  · cases hf : findO l o.key with
    | none =>
      unfold findO at hf
      have := List.find?_eq_none.1 hf o ho
      simp at this
    | some _ => rfl
theorem nil_impS : ImpL [Tr.raw (.slice none 0 0)] [.strs []] := .cons Imp.nil .nil
theorem intRows_one (x : Int) (l : List Int) : [Tr.int x] :: intRows l = intRows (x :: l) := rfl
attribute [local irreducible] intRows strRows hatedB tryP plS sumL leastI bestT
theorem placeOf_fn (r c : Int) (l : List Offer) (hl : OBd l) (xs : List ByteArray) (n : List Int) (hn : n.length ≤ 1000) (h10 : layoutE r c l xs = 0) : PFn Tryd.prog 28 [.agg [.int r, .int c], .offers l, .strs xs, .ints n] (· = plE r c l xs n) := by
  obtain ⟨hr, ho, hrc, hodd⟩ := lay_ok h10
  obtain ⟨hrb, hcb, hrc1, hrc2⟩ := rackE_bd hr
  have hoR := strRows_len xs
  have k2 := refCounts_fn l hl n hn
  unfold plE
  by_cases h2 : 8 < xs.length
  · rw [if_pos h2]
    refine PFn.mk (Spec.body Tryd.func28 rfl rfl (Tryd.ntmps28) rfl fun w0 own0 M => ?_)
    repeat' (first | refine goH ?_ | refine goV ?_ | refine goB (fun b => ?_) | refine goC (fun ad cap => ?_) | refine goG ?_ | (refine Ops.k_guard ?_; first | (refine Ops.guard_dec rfl rfl (fun hc => ?_) (fun hc => ?_) <;> try (exfalso; omega)) | refine Ops.guard_split rfl rfl (fun hc => ?_) (fun hc => ?_)) | refine goI ?_ | (refine Cw.k_cond ?_; first | (refine Cw.cond_dec rfl (fun hc => ?_) (fun hc => ?_) <;> try (exfalso; omega)) | refine Cw.cond_bool rfl (fun hc => ?_) (fun hc => ?_)) | refine goR ?_ | refine goP ?_ | apply PSeq.cons | apply PSeq.yes rfl rfl rfl | exact goW | fail)
    refine Fin.ret (Ent.trans (Ent.nilsl 1 (s := 8) rfl) (Ent.take goTk)) (Outs.many rfl (OutL.cons goOe (OutL.cons goOe (OutL.cons goOe OutL.nil))) rfl) ⟨rfl, rfl⟩
  rw [if_neg h2]
  by_cases h3 : cntsE l n ≠ 0
  · rw [if_pos h3]
    generalize cntsE l n = E at *
    refine PFn.mk (Spec.body Tryd.func28 rfl rfl (Tryd.ntmps28) rfl fun w0 own0 M => ?_)
    repeat' (first | refine goH ?_ | refine goV ?_ | refine goB (fun b => ?_) | refine goC (fun ad cap => ?_) | refine goG ?_ | (refine Ops.k_guard ?_; first | (refine Ops.guard_dec rfl rfl (fun hc => ?_) (fun hc => ?_) <;> try (exfalso; omega)) | refine Ops.guard_split rfl rfl (fun hc => ?_) (fun hc => ?_)) | refine goI ?_ | (refine Cw.k_cond ?_; first | (refine Cw.cond_dec rfl (fun hc => ?_) (fun hc => ?_) <;> try (exfalso; omega)) | refine Cw.cond_bool rfl (fun hc => ?_) (fun hc => ?_)) | (refine Ops.k_calla ?_; first | (refine Ops.k_callf 56 ?_; refine Ops.callV k2 (Evs.cons rfl (Evs.cons rfl Evs.nil)) rfl ?_)) | (apply OpW.k_call; first | (apply OpW.k_callf 56; exact OpW.callV k2 (Evs.cons rfl (Evs.cons rfl Evs.nil)))) | refine goR ?_ | refine goP ?_ | apply PSeq.cons | apply PSeq.yes rfl rfl rfl | exact goW | fail)
    refine Fin.ret (Ent.trans (Ent.nilsl 1 (s := 8) rfl) (Ent.take goTk)) (Outs.many rfl (OutL.cons goOe (OutL.cons goOe (OutL.cons goOe OutL.nil))) rfl) ⟨rfl, rfl⟩
  rw [if_neg h3]
  have h30 : cntsE l n = 0 := by omega
  rw [h30] at k2
  obtain ⟨hnl, hl30, hnb⟩ := cnts_bd ho h30
  have hsb := sumL_pos hnb
  have k3 := sumR_fn n hn (fun v hv => by have := hnb v hv; omega)
  by_cases h4 : (xs.length : Int) < sumL n
  · rw [if_pos h4]
    generalize sumL n = s at *
    refine PFn.mk (Spec.body Tryd.func28 rfl rfl (Tryd.ntmps28) rfl fun w0 own0 M => ?_)
    repeat' (first | refine goH ?_ | refine goV ?_ | refine goB (fun b => ?_) | refine goC (fun ad cap => ?_) | refine goG ?_ | (refine Ops.k_guard ?_; first | (refine Ops.guard_dec rfl rfl (fun hc => ?_) (fun hc => ?_) <;> try (exfalso; omega)) | refine Ops.guard_split rfl rfl (fun hc => ?_) (fun hc => ?_)) | refine goI ?_ | (refine Cw.k_cond ?_; first | (refine Cw.cond_dec rfl (fun hc => ?_) (fun hc => ?_) <;> try (exfalso; omega)) | refine Cw.cond_bool rfl (fun hc => ?_) (fun hc => ?_)) | exact OpW.callV k3 (Evs.cons rfl Evs.nil) | (refine Ops.k_calla ?_; first | (refine Ops.k_callf 56 ?_; refine Ops.callV k2 (Evs.cons rfl (Evs.cons rfl Evs.nil)) rfl ?_) | (refine Ops.k_callf 57 ?_; refine Ops.callV k3 (Evs.cons rfl Evs.nil) rfl ?_)) | (apply OpW.k_call; first | (apply OpW.k_callf 56; exact OpW.callV k2 (Evs.cons rfl (Evs.cons rfl Evs.nil))) | (apply OpW.k_callf 57; exact OpW.callV k3 (Evs.cons rfl Evs.nil))) | refine goR ?_ | refine goP ?_ | apply PSeq.cons | apply PSeq.yes rfl rfl rfl | exact goW | fail)
    refine Fin.ret (Ent.trans (Ent.nilsl 1 (s := 8) rfl) (Ent.take goTk)) (Outs.many rfl (OutL.cons goOe (OutL.cons goOe (OutL.cons goOe OutL.nil))) rfl) ⟨rfl, rfl⟩
  rw [if_neg h4]
  obtain ⟨R, rfl⟩ : ∃ R : Nat, r = R := ⟨r.toNat, by omega⟩
  obtain ⟨C, rfl⟩ : ∃ C : Nat, c = C := ⟨c.toNat, by omega⟩
  have hRC : xs.length = R * C := by
    have : ((R * C : Nat) : Int) = (R : Int) * (C : Int) := Int.natCast_mul _ _
    omega
  have kT := fun (b2 b3 b4 b5 b6 b7 b8 b9 : Nat) (adN : Option Addr) (capN : Nat) (adL : Option Addr) (capL : Nat) => tryC_fn R C (by omega) (by omega) l hl (findO_nil ho) (keys_odd ho) xs hRC (by omega) b2 b3 b4 b5 b6 b7 b8 b9 adN capN adL capL xs.length 0 [] (List.replicate xs.length eS) (((xs.length : Int) - sumL n) :: n) 0 [] (-1) (by simp) rfl List.length_replicate (by simp) (by simp) (by simp; exact hnl) (fun v hv => by
    rcases List.mem_cons.1 hv with h | h
    · omega
    · have := hnb v h; omega) (by simp) (by omega)
  have hlen : 0 ≤ (plS R C l xs n).2 → (plS R C l xs n).1.length = xs.length := by
    have := tryP_len (K := keysL l) (old := xs) (ok := okC R C l) xs.length [] (((xs.length : Int) - sumL n) :: n) 0 ([], -1) (by simp) (by omega)
    simp at this
    have e : plS R C l xs n = tryP (keysL l) xs (okC R C l) xs.length [] (((xs.length : Int) - sumL n) :: n) 0 ([], -1) := by with_unfolding_all rfl
    rw [e]
    exact this
  obtain ⟨B, m, hBm⟩ : ∃ B m, plS R C l xs n = (B, m) := ⟨_, _, rfl⟩
  have hS : tryP (keysL l) xs (okC R C l) xs.length [] (((xs.length : Int) - sumL n) :: n) 0 ([], -1) = (B, m) := by
    rw [← hBm]
    all_goals with_unfolding_all rfl
  rw [hBm] at hlen
  simp only [hS] at kT
  rw [hBm]
  unfold plT
  simp only at hlen ⊢
  have hls : leastI xs.length (-1) = (xs.length : Int) + 1 := by with_unfolding_all rfl
  have hbt : bestT [] (-1) = Tr.raw (.slice none 0 0) := by with_unfolding_all rfl
  have hB : bestT B m = if m < 0 then Tr.raw (.slice none 0 0) else .strs B := by with_unfolding_all rfl
  have hl2 : leastI xs.length m = if m < 0 then (xs.length : Int) + 1 else m := by with_unfolding_all rfl
  rw [hls, hbt] at kT
  simp only [hB, hl2] at kT
  clear hS hBm hB hl2 hls hbt
  generalize sumL n = s at *
  have hnR := intRows_len n
  refine PFn.mk (Spec.body Tryd.func28 rfl rfl (Tryd.ntmps28) rfl fun w0 own0 M => ?_)
  repeat' (first | refine goH ?_ | refine goV ?_ | refine goB (fun b => ?_) | refine goC (fun ad cap => ?_) | refine goG ?_ | (refine Ops.k_guard ?_; first | (refine Ops.guard_dec rfl rfl (fun hc => ?_) (fun hc => ?_) <;> try (exfalso; omega)) | refine Ops.guard_split rfl rfl (fun hc => ?_) (fun hc => ?_)) | refine goI ?_ | (refine Cw.k_cond ?_; first | (refine Cw.cond_dec rfl (fun hc => ?_) (fun hc => ?_) <;> try (exfalso; omega)) | refine Cw.cond_bool rfl (fun hc => ?_) (fun hc => ?_)) | exact OpW.callV k3 (Evs.cons rfl Evs.nil) | (refine Ops.k_calla ?_; first | (refine Ops.k_callf 56 ?_; refine Ops.callV k2 (Evs.cons rfl (Evs.cons rfl Evs.nil)) rfl ?_)) | (apply OpW.k_call; first | (apply OpW.k_callf 56; exact OpW.callV k2 (Evs.cons rfl (Evs.cons rfl Evs.nil)))) | fail)
  rename_i b4 b5
  refine goR ?_
  repeat' (first | refine goH ?_ | refine goV ?_ | refine goB (fun b => ?_) | refine goC (fun ad cap => ?_) | refine goG ?_ | (refine Ops.k_guard ?_; first | (refine Ops.guard_dec rfl rfl (fun hc => ?_) (fun hc => ?_) <;> try (exfalso; omega)) | refine Ops.guard_split rfl rfl (fun hc => ?_) (fun hc => ?_)) | refine goI ?_ | (refine Cw.k_cond ?_; first | (refine Cw.cond_dec rfl (fun hc => ?_) (fun hc => ?_) <;> try (exfalso; omega)) | refine Cw.cond_bool rfl (fun hc => ?_) (fun hc => ?_)) | exact OpW.callV k3 (Evs.cons rfl Evs.nil) | refine goP ?_ | apply PSeq.cons | apply PSeq.yes rfl rfl rfl | exact goW | fail)
  repeat' (first | refine goH ?_ | refine goV ?_ | refine goB (fun b => ?_) | refine goC (fun ad cap => ?_) | refine goG ?_ | (refine Ops.k_guard ?_; first | (refine Ops.guard_dec rfl rfl (fun hc => ?_) (fun hc => ?_) <;> try (exfalso; omega)) | refine Ops.guard_split rfl rfl (fun hc => ?_) (fun hc => ?_)) | refine goI ?_ | (refine Cw.k_cond ?_; first | (refine Cw.cond_dec rfl (fun hc => ?_) (fun hc => ?_) <;> try (exfalso; omega)) | refine Cw.cond_bool rfl (fun hc => ?_) (fun hc => ?_)) | fail)
  first | refine Cw.region_YP (fun ξ S => Chunk.box b 32 [.strs xs] :: Chunk.box b5 49 [.offers l] :: Chunk.box b4 47 [.int R, .int C] :: (stg (S 5) [] (stg (S 7) [ownV (ξ 5) 1 3 [[.int ((strRows xs).length - s)]]] [ownV (ξ 7) 1 3 ([[.int ((strRows xs).length - s)]] ++ intRows n)]) ++ (stg (S 8) [] [Chunk.box (blk (ξ 8)) 22 (stg (S 9) [Tr.raw (.slice none 0 0)] [slV (ξ 7) (l.length + 1)])] ++ []))) rfl (by decide +kernel) rfl ((fun (ξ : Nat → Value) (S : Nat → Bool) => Chunk.box b 32 [.strs xs] :: Chunk.box b5 49 [.offers l] :: Chunk.box b4 47 [.int R, .int C] :: (stg (S 5) [] (stg (S 7) [ownV (ξ 5) 1 3 [[.int ((strRows xs).length - s)]]] [ownV (ξ 7) 1 3 ([[.int ((strRows xs).length - s)]] ++ intRows n)]) ++ (stg (S 8) [] [Chunk.box (blk (ξ 8)) 22 (stg (S 9) [Tr.raw (.slice none 0 0)] [slV (ξ 7) (l.length + 1)])] ++ []))) (fun _ => undef) (fun _ => false)) (by simp only [upd_same, updD_same, upd_ne, updD_ne, ne_eq, Nat.reduceEqDiff, not_false_eq_true, stg_t, stg_f, vAd_s, vCap_s, blk_p, List.cons_append, List.nil_append, b2n_t, b2n_f]; exact goXm) (fun _ => rfl) ?_ | fail
  apply YSeq.w (by intro _ _ _; rfl)
  · intro ξ S h1 h2 h3 h4
    have hN0_1 := closed_false h1 h3 (k := 1) rfl (by decide)
    have hN0_4 := closed_false hN0_1 h3 (k := 4) rfl (by decide)
    have hN0_5 := closed_false hN0_4 h3 (k := 5) rfl (by decide)
    have hN0_7 := closed_false hN0_5 h3 (k := 7) rfl (by decide)
    have hN0_9 := closed_false h1 h3 (k := 9) rfl (by decide)
    try simp only [upd_same, updD_same, upd_ne, updD_ne, ne_eq, Nat.reduceEqDiff, not_false_eq_true, stg_t, stg_f, vAd_s, vCap_s, blk_p, List.cons_append, List.nil_append, b2n_t, b2n_f, hN0_5, hN0_7, hN0_9]
    exact goW
  · intro ξ v; rfl
  · intro ξ k v S h3 hn hk
    first
    | rfl
  apply YSeq.w (by intro _ _ _; rfl)
  · intro ξ S h1 h2 h3 h4
    have hN1_4 := closed_false h1 h3 (k := 4) rfl (by decide)
    have hN1_5 := closed_false hN1_4 h3 (k := 5) rfl (by decide)
    have hN1_7 := closed_false hN1_5 h3 (k := 7) rfl (by decide)
    have hN1_9 := closed_false h1 h3 (k := 9) rfl (by decide)
    try simp only [upd_same, updD_same, upd_ne, updD_ne, ne_eq, Nat.reduceEqDiff, not_false_eq_true, stg_t, stg_f, vAd_s, vCap_s, blk_p, List.cons_append, List.nil_append, b2n_t, b2n_f, hN1_5, hN1_7, hN1_9]
    exact goW
  · intro ξ v; rfl
  · intro ξ k v S h3 hn hk
    first
    | rfl
  apply YSeq.w (by intro _ _ _; rfl)
  · intro ξ S h1 h2 h3 h4
    have hN2_3 := closed_false h1 h3 (k := 3) rfl (by decide)
    have hN2_4 := closed_false hN2_3 h3 (k := 4) rfl (by decide)
    have hN2_5 := closed_false hN2_4 h3 (k := 5) rfl (by decide)
    have hN2_7 := closed_false hN2_3 h3 (k := 7) rfl (by decide)
    have hN2_9 := closed_false h1 h3 (k := 9) rfl (by decide)
    try simp only [upd_same, updD_same, upd_ne, updD_ne, ne_eq, Nat.reduceEqDiff, not_false_eq_true, stg_t, stg_f, vAd_s, vCap_s, blk_p, List.cons_append, List.nil_append, b2n_t, b2n_f, hN2_5, hN2_7, hN2_9]
    exact goW
  · intro ξ v; rfl
  · intro ξ k v S h3 hn hk
    first
    | rfl
  apply YSeq.callV (by intro _ _ _; rfl)
  · intro ξ S h1 h2 h3 h4
    have hN3_4 := closed_false h1 h3 (k := 4) rfl (by decide)
    have hN3_5 := closed_false hN3_4 h3 (k := 5) rfl (by decide)
    have hN3_7 := closed_false h1 h3 (k := 7) rfl (by decide)
    have hN3_9 := closed_false h1 h3 (k := 9) rfl (by decide)
    try simp only [upd_same, updD_same, upd_ne, updD_ne, ne_eq, Nat.reduceEqDiff, not_false_eq_true, stg_t, stg_f, vAd_s, vCap_s, blk_p, List.cons_append, List.nil_append, b2n_t, b2n_f, hN3_5, hN3_7, hN3_9]
    exact ⟨_, (Evs.cons rfl Evs.nil), k3⟩
  · intro ξ v; rfl
  · intro ξ k v S h3 hn hk
    first
    | rfl
  apply YSeq.w (by intro _ _ _; rfl)
  · intro ξ S h1 h2 h3 h4
    have hN4_5 := closed_false h1 h3 (k := 5) rfl (by decide)
    have hN4_7 := closed_false hN4_5 h3 (k := 7) rfl (by decide)
    have hN4_9 := closed_false h1 h3 (k := 9) rfl (by decide)
    try simp only [upd_same, updD_same, upd_ne, updD_ne, ne_eq, Nat.reduceEqDiff, not_false_eq_true, stg_t, stg_f, vAd_s, vCap_s, blk_p, List.cons_append, List.nil_append, b2n_t, b2n_f, hN4_5, hN4_7, hN4_9]
    exact goW
  · intro ξ v; rfl
  · intro ξ k v S h3 hn hk
    first
    | rfl
  apply YSeq.lit
  · intro ξ S h1 h2 h3 h4
    have hN5_7 := closed_false h1 h3 (k := 7) rfl (by decide)
    have hN5_9 := closed_false h1 h3 (k := 9) rfl (by decide)
    refine ⟨_, _, (by first | exact (by exact Parts.cons rfl rfl rfl (by exact Parts.nil)) | exact (by exact Parts.cons rfl rfl rfl (by exact Parts.cons rfl rfl rfl (by exact Parts.nil))) | exact (by exact Parts.cons rfl rfl rfl (by exact Parts.cons rfl rfl rfl (by exact Parts.cons rfl rfl rfl (by exact Parts.nil)))) | exact (by exact Parts.cons rfl rfl rfl (by exact Parts.cons rfl rfl rfl (by exact Parts.cons rfl rfl rfl (by exact Parts.cons rfl rfl rfl (by exact Parts.nil))))) | exact (by exact Parts.cons rfl rfl rfl (by exact Parts.cons rfl rfl rfl (by exact Parts.cons rfl rfl rfl (by exact Parts.cons rfl rfl rfl (by exact Parts.cons rfl rfl rfl (by exact Parts.nil))))))), goNt, rfl, fun ad cap => ?_⟩
    simp only [upd_same, updD_same, upd_ne, updD_ne, ne_eq, Nat.reduceEqDiff, not_false_eq_true, stg_t, stg_f, vAd_s, vCap_s, blk_p, List.cons_append, List.nil_append, b2n_t, b2n_f, h1, hN5_7, hN5_9]
    exact goXm
  apply YSeq.w (by intro _ _ _; rfl)
  · intro ξ S h1 h2 h3 h4
    have hN6_7 := closed_false h1 h3 (k := 7) rfl (by decide)
    have hN6_9 := closed_false h1 h3 (k := 9) rfl (by decide)
    try simp only [upd_same, updD_same, upd_ne, updD_ne, ne_eq, Nat.reduceEqDiff, not_false_eq_true, stg_t, stg_f, vAd_s, vCap_s, blk_p, List.cons_append, List.nil_append, b2n_t, b2n_f, hN6_7, hN6_9]
    exact goW
  · intro ξ v; rfl
  · intro ξ k v S h3 hn hk
    first
    | rfl
  apply YSeq.append ((l.length + 1))
  · intro ξ S h1 h2 h3 h4
    have hY7_5 : S 5 = true := h2 5 (by decide)
    have hN7_9 := closed_false h1 h3 (k := 9) rfl (by decide)
    simp only [upd_same, updD_same, upd_ne, updD_ne, ne_eq, Nat.reduceEqDiff, not_false_eq_true, stg_t, stg_f, vAd_s, vCap_s, blk_p, List.cons_append, List.nil_append, b2n_t, b2n_f, hY7_5, h1, hN7_9]
    refine ⟨_, _, _, _, _, _, rfl, rfl, goXp, (by first | rfl | (simp; done) | omega), (by first | rfl | omega | (simp; done) | (simp; omega)), (by first | omega | (simp; done) | (simp; omega)), (by first | omega | (simp; done) | (simp; omega)), fun ad' cap' => ?_⟩
    exact goXm
  apply YSeq.alloc
  · intro ξ S b h1 h3
    have hN8_9 := closed_false h1 h3 (k := 9) rfl (by decide)
    simp only [upd_same, updD_same, upd_ne, updD_ne, ne_eq, Nat.reduceEqDiff, not_false_eq_true, stg_t, stg_f, vAd_s, vCap_s, blk_p, List.cons_append, List.nil_append, b2n_t, b2n_f, h1, hN8_9]
    exact goXm
  apply YSeq.store
  · intro ξ S h1 h2 h3 h4
    have hY9_5 : S 5 = true := h2 5 (by decide)
    have hY9_7 : S 7 = true := h2 7 (by decide)
    have hY9_8 : S 8 = true := h2 8 (by decide)
    simp only [upd_same, updD_same, upd_ne, updD_ne, ne_eq, Nat.reduceEqDiff, not_false_eq_true, stg_t, stg_f, vAd_s, vCap_s, blk_p, List.cons_append, List.nil_append, b2n_t, b2n_f, hY9_5, hY9_7, hY9_8, h1]
    refine ⟨_, _, _, _, _, _, _, rfl, rfl, inferInstance, goXp, rfl, Nat.le_of_ble_eq_true rfl, ?_⟩
    exact goXm
  refine YSeq.nil fun ξ hf => ?_
  refine ⟨[(1, _), (3, _), (4, _), (5, _), (6, _), (8, _), (9, _), (10, _), (12, _)], _, Ent.trans (Ent.eqc rfl (by first | (simp only [upd_same, updD_same, upd_ne, updD_ne, ne_eq, Nat.reduceEqDiff, not_false_eq_true, stg_t, stg_f, vAd_s, vCap_s, blk_p, List.cons_append, List.nil_append, b2n_t, b2n_f, ownV, slV, ptV] <;> rfl) | rfl)) (Ent.sub goSub), ?_⟩
  clear hf
  generalize vAd (ξ 5) = ad36
  generalize vCap (ξ 5) = cap36
  generalize vAd (ξ 7) = ad38
  generalize vCap (ξ 7) = cap38
  generalize blk (ξ 8) = b12
  refine Then.norm ?_
  rw [intRows_one]
  rw [hoR]
  by_cases hm : m < 0
  all_goals
    repeat' (first | refine goH ?_ | (refine Ops.k_makeFunc ?_; first | (refine Ops.makeFunc (vs := [_, _, _, _, _, _, _, _]) rfl rfl ?_)) | ((fail_if_success refine Ops.k_c_call ?_); refine goV ?_) | ((fail_if_success refine Ops.k_c_call ?_); refine goB (fun b => ?_)) | ((fail_if_success refine Ops.k_c_call ?_); refine goC (fun ad cap => ?_)) | refine goG ?_ | (refine Ops.k_guard ?_; first | (refine Ops.guard_dec rfl rfl (fun hc => ?_) (fun hc => ?_) <;> try (exfalso; omega)) | refine Ops.guard_split rfl rfl (fun hc => ?_) (fun hc => ?_)) | refine goI ?_ | (refine Cw.k_cond ?_; first | (refine Cw.cond_dec rfl (fun hc => ?_) (fun hc => ?_) <;> try (exfalso; omega)) | refine Cw.cond_bool rfl (fun hc => ?_) (fun hc => ?_)) | refine goR ?_ | refine goP ?_ | apply PSeq.cons | apply PSeq.yes rfl rfl rfl | exact goW | fail)
    rename_i bx bn bb bl
    rw [hoR, Int.toNat_natCast]
    erw [strRows_rep]
    refine Ops.k_calla ?_
    refine Ops.call_fn (caps := tcCaps bl bx b4 b5 bn bb b12 b) (args := [.int ((0 : Nat) : Int), .int 0]) rfl (kT bl bx b4 b5 bn bb b12 b _ _ _ _) (Evs.cons rfl (Evs.cons rfl Evs.nil)) goPm rfl ?_
    rintro y cs' ⟨rfl, N', _, _, _, rfl⟩
    clear kT
  · rw [if_pos hm, if_pos hm, if_pos hm]
    repeat' (first | refine goH ?_ | (refine Ops.k_b_eql ?_; first | (refine Ops.eql_nilR rfl rfl ?_)) | refine goV ?_ | refine goB (fun b => ?_) | refine goC (fun ad cap => ?_) | refine goG ?_ | (refine Ops.k_guard ?_; first | (refine Ops.guard_dec rfl rfl (fun hc => ?_) (fun hc => ?_) <;> try (exfalso; omega)) | refine Ops.guard_split rfl rfl (fun hc => ?_) (fun hc => ?_)) | refine goI ?_ | (refine Cw.k_cond ?_; first | (refine Cw.cond_dec rfl (fun hc => ?_) (fun hc => ?_) <;> try (exfalso; omega)) | refine Cw.cond_bool rfl (fun hc => ?_) (fun hc => ?_)) | refine goR ?_ | refine goP ?_ | apply PSeq.cons | apply PSeq.yes rfl rfl rfl | exact goW | fail)
    refine Fin.ret (Ent.trans (Ent.nilsl 1 (s := 8) rfl) (Ent.take goTk)) (Outs.many rfl (OutL.cons goOe (OutL.cons goOe (OutL.cons goOe OutL.nil))) rfl) ⟨rfl, rfl⟩
  · rw [if_neg hm, if_neg hm, if_neg hm]
    have hBl := hlen (by omega)
    have hBR := (strRows_len B).trans hBl
    have hx1 : 1 ≤ xs.length := by omega
    have hne : strRows B ≠ [] := by
      intro h
      rw [h] at hBR
      simp at hBR
      omega
    repeat' (first | refine goH ?_ | (refine Ops.k_b_eql ?_; first | (refine Ops.eql_nilS rfl rfl (fun bz hbz => ?_); obtain rfl : bz = false := (by cases bz; rfl; exact absurd (hbz rfl) hne))) | refine goV ?_ | refine goB (fun b => ?_) | refine goC (fun ad cap => ?_) | refine goG ?_ | (refine Ops.k_guard ?_; first | (refine Ops.guard_dec rfl rfl (fun hc => ?_) (fun hc => ?_) <;> try (exfalso; omega)) | refine Ops.guard_split rfl rfl (fun hc => ?_) (fun hc => ?_)) | refine goI ?_ | (refine Cw.k_cond ?_; first | (refine Cw.cond_dec rfl (fun hc => ?_) (fun hc => ?_) <;> try (exfalso; omega)) | refine Cw.cond_bool rfl (fun hc => ?_) (fun hc => ?_)) | refine goR ?_ | refine goP ?_ | apply PSeq.cons | apply PSeq.yes rfl rfl rfl | exact goW | fail)
    refine Fin.ret (Ent.take goTk) (Outs.many rfl (OutL.cons goOe (OutL.cons goOe (OutL.cons goOe OutL.nil))) rfl) ⟨rfl, rfl⟩
end Lg
