/- A part of the proof of a law of this seat: it adds no condition. By an AI agent. -/
import Derived.Test.YtoedknjnkeeohaaFrame
import Derived.Test.YtoedknjnkeeohaaLk7
section
set_option linter.all false
set_option maxRecDepth 100000
set_option maxHeartbeats 8000000
namespace Lg
open Go Go.Proofs

def joinU (c t f c2 t2 f2 : Int) (U O : List Rdg) : List Rdg := if (joinO c t f c2 t2 f2 U O).2 = 0 then U ++ O.filter (newR U) else U
theorem joinU_no {c t f c2 t2 f2 : Int} {S O : List Rdg} {x e : Int} (h : joinO c t f c2 t2 f2 S O = (x, e)) (he : e ≠ 0) : joinU c t f c2 t2 f2 S O = S := by
  unfold joinU
  rw [h]
  exact if_neg he
theorem joinU_ok {c t f c2 t2 f2 : Int} {S O : List Rdg} {x : Int} (h : joinO c t f c2 t2 f2 S O = (x, 0)) : joinU c t f c2 t2 f2 S O = S ++ O.filter (newR S) := by
  unfold joinU
  rw [h]
  exact if_pos rfl
theorem fdT_app {U A : List Rdg} {a : Int} (h : ∀ x ∈ A, x.t ≠ a) : fdT (U ++ A) a = fdT U a := by
  unfold fdT
  rw [List.find?_append, show A.find? (fun x => decide (x.t = a)) = none from List.find?_eq_none.2 (fun x hx => by simpa using h x hx)]
  cases U.find? (fun x => decide (x.t = a)) <;> rfl
attribute [local irreducible] intRows mtrE rdgE fdT
theorem joinY_fn {bx bo : Nat} {c t f c2 t2 f2 : Int} {ad ad2 : Option Addr} {cap cap2 n n2 : Nat} (U O : List Rdg) (hO : (O.map Rdg.t).Nodup) (hl : U.length ≤ 400) (hl2 : O.length ≤ 400) (hn : n = U.length) (hn2 : n2 = O.length) (ht : -1000000000000 ≤ t ∧ t ≤ 1000000000000) (hUv : ∀ x ∈ U, x.vs.length ≤ 1000) (hOv : ∀ x ∈ O, x.vs.length ≤ 1000) (hOe : c = c2 ∧ t = t2 ∧ f = f2 → ∀ r ∈ O, rdgE c t f r = 0) :
    Spec Try.prog 29 [.ptr bx, .ptr bo] [logY bx c t f ad n cap, ownR ad cap U, logY bo c2 t2 f2 ad2 n2 cap2, ownR ad2 cap2 O] (fun y cs => ∃ (ad' : Option Addr) (cap' : Nat), y = .tup [.int (joinO c t f c2 t2 f2 U O).1, .int (joinO c t f c2 t2 f2 U O).2] ∧ cs = [logY bx c t f ad' (joinU c t f c2 t2 f2 U O).length cap', ownR ad' cap' (joinU c t f c2 t2 f2 U O), logY bo c2 t2 f2 ad2 n2 cap2, ownR ad2 cap2 O]) := by
  have hUR : (U.map Rdg.row).length = n := by rw [List.length_map, hn]
  have hOR : (O.map Rdg.row).length = n2 := by rw [List.length_map, hn2]
  by_cases hne : c = c2 ∧ t = t2 ∧ f = f2
  rotate_left
  · have e1 := joinO_ne (S := U) (O := O) hne
    rw [joinU_no e1 (by decide), e1, ← hn]
    have hv : true = !decide (c = c2 ∧ t = t2 ∧ f = f2) := by simp [hne]
    clear e1
    refine Spec.body Try.func29 rfl rfl (Try.ntmps29) rfl fun w0 own0 M => ?_
    repeat' (first | refine goH ?_ | refine goV ?_ | refine goB (fun b => ?_) | refine goG ?_ | (refine Ops.k_guard ?_; first | (refine Ops.guard_dec rfl rfl (fun hc => ?_) (fun hc => ?_) <;> try (exfalso; omega)) | refine Ops.guard_split rfl rfl (fun hc => ?_) (fun hc => ?_)) | refine goI ?_ | (refine Cw.k_cond ?_; first | (refine Cw.cond_dec rfl (fun hc => ?_) (fun hc => ?_) <;> try (exfalso; omega)) | refine Cw.cond_bool rfl (fun hc => ?_) (fun hc => ?_)) | (apply OpV.w; apply OpV.k_b_neq; exact OpV.mtr_ne (v := true) rfl rfl hv) | refine goR ?_ | refine goP ?_ | apply PSeq.cons | apply PSeq.yes rfl rfl rfl | exact goW | fail)
    exact Fin.ret (Ent.take (Take.cons goPk (Take.cons goPk (Take.cons goPk (Take.cons goPk Take.nil))))) (Outs.two rfl rfl rfl) ⟨_, _, rfl, rfl⟩
  have hOe2 := hOe hne
  clear hOe
  obtain ⟨rfl, rfl, rfl⟩ := hne
  have hv : false = !decide (c = c ∧ t = t ∧ f = f) := by simp
  have hbad : O.any (badR U) = true → joinO c t f c t f U O = (0, 13) := joinO_bad
  have hok : O.any (badR U) = false → joinO c t f c t f U O = ((((O.filter (newR U)).length : Nat) : Int), 0) := joinO_ok
  have kC := cloneOO_rdg (ad := ad) (cap := cap) (U.map Rdg.row) hUR.symm (by omega)
  refine Spec.body Try.func29 rfl rfl (Try.ntmps29) rfl fun w0 own0 M => ?_
  repeat' (first | refine goH ?_ | refine goV ?_ | refine goB (fun b => ?_) | refine goG ?_ | (refine Ops.k_guard ?_; first | (refine Ops.guard_dec rfl rfl (fun hc => ?_) (fun hc => ?_) <;> try (exfalso; omega)) | refine Ops.guard_split rfl rfl (fun hc => ?_) (fun hc => ?_)) | refine goI ?_ | (refine Cw.k_cond ?_; first | (refine Cw.cond_dec rfl (fun hc => ?_) (fun hc => ?_) <;> try (exfalso; omega)) | refine Cw.cond_bool rfl (fun hc => ?_) (fun hc => ?_)) | fail)
  refine goR ?_
  repeat' (first | refine goH ?_ | refine goV ?_ | refine goB (fun b => ?_) | refine goG ?_ | (refine Ops.k_guard ?_; first | (refine Ops.guard_dec rfl rfl (fun hc => ?_) (fun hc => ?_) <;> try (exfalso; omega)) | refine Ops.guard_split rfl rfl (fun hc => ?_) (fun hc => ?_)) | refine goI ?_ | (refine Cw.k_cond ?_; first | (refine Cw.cond_dec rfl (fun hc => ?_) (fun hc => ?_) <;> try (exfalso; omega)) | refine Cw.cond_bool rfl (fun hc => ?_) (fun hc => ?_)) | (apply OpV.w; apply OpV.k_b_neq; exact OpV.mtr_ne (v := false) rfl rfl hv) | refine goP ?_ | apply PSeq.cons | apply PSeq.yes rfl rfl rfl | exact goW | fail)
  first | refine Cw.region_YP (fun ξ S => logY bx c t f ad n cap :: ownR ad cap U :: logY bo c t f ad2 n2 cap2 :: ownR ad2 cap2 O :: (stg (S 8) [] [ownV (ξ 8) 2 30 (U.map Rdg.row)] ++ (stg (S 10) [] [Chunk.box (blk (ξ 10)) 86 [.int c, .int t, .int f, slV (ξ 8) n]] ++ []))) rfl (by decide +kernel) rfl ((fun (ξ : Nat → Value) (S : Nat → Bool) => logY bx c t f ad n cap :: ownR ad cap U :: logY bo c t f ad2 n2 cap2 :: ownR ad2 cap2 O :: (stg (S 8) [] [ownV (ξ 8) 2 30 (U.map Rdg.row)] ++ (stg (S 10) [] [Chunk.box (blk (ξ 10)) 86 [.int c, .int t, .int f, slV (ξ 8) n]] ++ []))) (fun _ => undef) (fun _ => false)) (by simp only [upd_same, updD_same, upd_ne, updD_ne, ne_eq, Nat.reduceEqDiff, not_false_eq_true, stg_t, stg_f, vAd_s, vCap_s, blk_p, List.cons_append, List.nil_append, b2n_t, b2n_f]; exact goXm) (fun _ => rfl) ?_ | fail
  apply YSeq.w (by intro _ _ _; rfl)
  · intro ξ S h1 h2 h3 h4
    have hN0_1 := closed_false h1 h3 (k := 1) rfl (by decide)
    have hN0_2 := closed_false hN0_1 h3 (k := 2) rfl (by decide)
    have hN0_3 := closed_false hN0_2 h3 (k := 3) rfl (by decide)
    have hN0_9 := closed_false hN0_3 h3 (k := 9) rfl (by decide)
    have hN0_10 := closed_false hN0_9 h3 (k := 10) rfl (by decide)
    try simp only [upd_same, updD_same, upd_ne, updD_ne, ne_eq, Nat.reduceEqDiff, not_false_eq_true, stg_t, stg_f, vAd_s, vCap_s, blk_p, List.cons_append, List.nil_append, b2n_t, b2n_f, hN0_10]
    exact goW
  · intro ξ v; rfl
  · intro ξ k v S h3 hn hk
    first
    | rfl
  apply YSeq.w (by intro _ _ _; rfl)
  · intro ξ S h1 h2 h3 h4
    have hN1_2 := closed_false h1 h3 (k := 2) rfl (by decide)
    have hN1_3 := closed_false hN1_2 h3 (k := 3) rfl (by decide)
    have hN1_9 := closed_false hN1_3 h3 (k := 9) rfl (by decide)
    have hN1_10 := closed_false hN1_9 h3 (k := 10) rfl (by decide)
    try simp only [upd_same, updD_same, upd_ne, updD_ne, ne_eq, Nat.reduceEqDiff, not_false_eq_true, stg_t, stg_f, vAd_s, vCap_s, blk_p, List.cons_append, List.nil_append, b2n_t, b2n_f, hN1_10]
    exact goW
  · intro ξ v; rfl
  · intro ξ k v S h3 hn hk
    first
    | rfl
  apply YSeq.w (by intro _ _ _; rfl)
  · intro ξ S h1 h2 h3 h4
    have hN2_3 := closed_false h1 h3 (k := 3) rfl (by decide)
    have hN2_9 := closed_false hN2_3 h3 (k := 9) rfl (by decide)
    have hN2_10 := closed_false hN2_9 h3 (k := 10) rfl (by decide)
    try simp only [upd_same, updD_same, upd_ne, updD_ne, ne_eq, Nat.reduceEqDiff, not_false_eq_true, stg_t, stg_f, vAd_s, vCap_s, blk_p, List.cons_append, List.nil_append, b2n_t, b2n_f, hN2_10]
    exact goW
  · intro ξ v; rfl
  · intro ξ k v S h3 hn hk
    first
    | rfl
  apply YSeq.w (by intro _ _ _; rfl)
  · intro ξ S h1 h2 h3 h4
    have hN3_9 := closed_false h1 h3 (k := 9) rfl (by decide)
    have hN3_10 := closed_false hN3_9 h3 (k := 10) rfl (by decide)
    try simp only [upd_same, updD_same, upd_ne, updD_ne, ne_eq, Nat.reduceEqDiff, not_false_eq_true, stg_t, stg_f, vAd_s, vCap_s, blk_p, List.cons_append, List.nil_append, b2n_t, b2n_f, hN3_10]
    exact goW
  · intro ξ v; rfl
  · intro ξ k v S h3 hn hk
    first
    | rfl
  apply YSeq.w (by intro _ _ _; rfl)
  · intro ξ S h1 h2 h3 h4
    have hN4_5 := closed_false h1 h3 (k := 5) rfl (by decide)
    have hN4_6 := closed_false hN4_5 h3 (k := 6) rfl (by decide)
    have hN4_7 := closed_false hN4_6 h3 (k := 7) rfl (by decide)
    have hN4_8 := closed_false hN4_7 h3 (k := 8) rfl (by decide)
    have hN4_9 := closed_false hN4_8 h3 (k := 9) rfl (by decide)
    have hN4_10 := closed_false hN4_9 h3 (k := 10) rfl (by decide)
    try simp only [upd_same, updD_same, upd_ne, updD_ne, ne_eq, Nat.reduceEqDiff, not_false_eq_true, stg_t, stg_f, vAd_s, vCap_s, blk_p, List.cons_append, List.nil_append, b2n_t, b2n_f, hN4_8, hN4_10]
    exact goW
  · intro ξ v; rfl
  · intro ξ k v S h3 hn hk
    first
    | rfl
  apply YSeq.w (by intro _ _ _; rfl)
  · intro ξ S h1 h2 h3 h4
    have hN5_6 := closed_false h1 h3 (k := 6) rfl (by decide)
    have hN5_7 := closed_false hN5_6 h3 (k := 7) rfl (by decide)
    have hN5_8 := closed_false hN5_7 h3 (k := 8) rfl (by decide)
    have hN5_9 := closed_false hN5_8 h3 (k := 9) rfl (by decide)
    have hN5_10 := closed_false hN5_9 h3 (k := 10) rfl (by decide)
    try simp only [upd_same, updD_same, upd_ne, updD_ne, ne_eq, Nat.reduceEqDiff, not_false_eq_true, stg_t, stg_f, vAd_s, vCap_s, blk_p, List.cons_append, List.nil_append, b2n_t, b2n_f, hN5_8, hN5_10]
    exact goW
  · intro ξ v; rfl
  · intro ξ k v S h3 hn hk
    first
    | rfl
  apply YSeq.w (by intro _ _ _; rfl)
  · intro ξ S h1 h2 h3 h4
    have hN6_7 := closed_false h1 h3 (k := 7) rfl (by decide)
    have hN6_8 := closed_false hN6_7 h3 (k := 8) rfl (by decide)
    have hN6_9 := closed_false hN6_8 h3 (k := 9) rfl (by decide)
    have hN6_10 := closed_false hN6_9 h3 (k := 10) rfl (by decide)
    try simp only [upd_same, updD_same, upd_ne, updD_ne, ne_eq, Nat.reduceEqDiff, not_false_eq_true, stg_t, stg_f, vAd_s, vCap_s, blk_p, List.cons_append, List.nil_append, b2n_t, b2n_f, hN6_8, hN6_10]
    exact goW
  · intro ξ v; rfl
  · intro ξ k v S h3 hn hk
    first
    | rfl
  apply YSeq.w (by intro _ _ _; rfl)
  · intro ξ S h1 h2 h3 h4
    have hN7_8 := closed_false h1 h3 (k := 8) rfl (by decide)
    have hN7_9 := closed_false hN7_8 h3 (k := 9) rfl (by decide)
    have hN7_10 := closed_false hN7_9 h3 (k := 10) rfl (by decide)
    try simp only [upd_same, updD_same, upd_ne, updD_ne, ne_eq, Nat.reduceEqDiff, not_false_eq_true, stg_t, stg_f, vAd_s, vCap_s, blk_p, List.cons_append, List.nil_append, b2n_t, b2n_f, hN7_8, hN7_10]
    exact goW
  · intro ξ v; rfl
  · intro ξ k v S h3 hn hk
    first
    | rfl
  apply YSeq.callM (n)
  · intro ξ S h1 h2 h3 h4
    have hN8_9 := closed_false h1 h3 (k := 9) rfl (by decide)
    have hN8_10 := closed_false hN8_9 h3 (k := 10) rfl (by decide)
    simp only [upd_same, updD_same, upd_ne, updD_ne, ne_eq, Nat.reduceEqDiff, not_false_eq_true, stg_t, stg_f, vAd_s, vCap_s, blk_p, List.cons_append, List.nil_append, b2n_t, b2n_f, h1, hN8_10]
    refine ⟨_, _, _, _, _, kC, (Evs.cons rfl Evs.nil), goXp, fun ad' cap' => ?_⟩
    try simp only [upd_same, updD_same, upd_ne, updD_ne, ne_eq, Nat.reduceEqDiff, not_false_eq_true, stg_t, stg_f, vAd_s, vCap_s, blk_p, List.cons_append, List.nil_append, b2n_t, b2n_f, h1, hN8_10]
    exact goXm
  apply YSeq.w (by intro _ _ _; rfl)
  · intro ξ S h1 h2 h3 h4
    have hY9_8 : S 8 = true := h2 8 (by decide)
    have hN9_10 := closed_false h1 h3 (k := 10) rfl (by decide)
    try simp only [upd_same, updD_same, upd_ne, updD_ne, ne_eq, Nat.reduceEqDiff, not_false_eq_true, stg_t, stg_f, vAd_s, vCap_s, blk_p, List.cons_append, List.nil_append, b2n_t, b2n_f, hY9_8, hN9_10]
    exact goW
  · intro ξ v; rfl
  · intro ξ k v S h3 hn hk
    first
    | rfl
    | skip
      have hY9_8 : S 8 = true := h3 9 _ rfl hn 8 (by decide)
      simp only [upd_S hY9_8 hk]
  apply YSeq.box
  · intro ξ S h1 h2 h3 h4
    have hY10_9 : S 9 = true := h2 9 (by decide)
    have hY10_8 : S 8 = true := h3 9 _ rfl hY10_9 8 (by decide)
    simp only [upd_same, updD_same, upd_ne, updD_ne, ne_eq, Nat.reduceEqDiff, not_false_eq_true, stg_t, stg_f, vAd_s, vCap_s, blk_p, List.cons_append, List.nil_append, b2n_t, b2n_f, hY10_8, h1]
    refine ⟨_, _, rfl, inferInstance, fun b => ?_⟩
    try simp only [upd_same, updD_same, upd_ne, updD_ne, ne_eq, Nat.reduceEqDiff, not_false_eq_true, stg_t, stg_f, vAd_s, vCap_s, blk_p, List.cons_append, List.nil_append, b2n_t, b2n_f, hY10_8, h1]
    exact goXm
  apply YSeq.w (by intro _ _ _; rfl)
  · intro ξ S h1 h2 h3 h4
    have hY11_8 : S 8 = true := h2 8 (by decide)
    have hY11_10 : S 10 = true := h2 10 (by decide)
    try simp only [upd_same, updD_same, upd_ne, updD_ne, ne_eq, Nat.reduceEqDiff, not_false_eq_true, stg_t, stg_f, vAd_s, vCap_s, blk_p, List.cons_append, List.nil_append, b2n_t, b2n_f, hY11_8, hY11_10]
    exact goW
  · intro ξ v; rfl
  · intro ξ k v S h3 hn hk
    first
    | rfl
    | skip
      have hY11_8 : S 8 = true := h3 11 _ rfl hn 8 (by decide)
      have hY11_10 : S 10 = true := h3 11 _ rfl hn 10 (by decide)
      simp only [upd_S hY11_8 hk, upd_S hY11_10 hk]
  refine YSeq.nil fun ξ hf => ?_
  refine ⟨[(0, _), (1, _), (6, _)], _, Ent.trans (Ent.eqc rfl (by simp only [upd_same, updD_same, upd_ne, updD_ne, ne_eq, Nat.reduceEqDiff, not_false_eq_true, stg_t, stg_f, vAd_s, vCap_s, blk_p, List.cons_append, List.nil_append, b2n_t, b2n_f, ownV, slV, ptV] <;> rfl)) (Ent.sub goSub), ?_⟩
  clear hf
  generalize vAd (ξ 8) = ad31
  generalize vCap (ξ 8) = cap31
  generalize blk (ξ 10) = b33
  refine Then.norm ?_
  repeat' (first | refine goH ?_ | refine goV ?_ | refine goB (fun b => ?_) | refine goG ?_ | (refine Ops.k_guard ?_; first | (refine Ops.guard_dec rfl rfl (fun hc => ?_) (fun hc => ?_) <;> try (exfalso; omega)) | refine Ops.guard_split rfl rfl (fun hc => ?_) (fun hc => ?_)) | refine goI ?_ | (refine Cw.k_cond ?_; first | (refine Cw.cond_dec rfl (fun hc => ?_) (fun hc => ?_) <;> try (exfalso; omega)) | refine Cw.cond_bool rfl (fun hc => ?_) (fun hc => ?_)) | refine goR ?_ | refine goP ?_ | apply PSeq.cons | apply PSeq.yes rfl rfl rfl | exact goW | fail)
  refine Cw.loopI [(0, _), (6, _), (37, _), (38, _)] _ (fun q e cc => ∃ (k m : Nat) (Y : List Rdg) (cf : Bool) (ad3 : Option Addr) (cap3 N : Nat), q = n2 - k ∧ (k ≤ n2 ∧ Y = U ++ (O.take k).filter (newR U) ∧ m = ((O.take k).filter (newR U)).length ∧ cf = (O.take k).any (badR U) ∧ N = Y.length ∧ m ≤ k ∧ ∀ x ∈ Y, x.vs.length ≤ 1000) ∧ e = [(7, .int m), (8, .bool cf), (9, .bool false), (39, .int k)] ∧ cc = [logY b33 c t f ad3 N cap3, ownR ad3 cap3 Y])
    ⟨_, _, _, (Ent.mkP goSub goPm), 0, 0, U, false, ad31, cap31, n, rfl, ⟨by omega, by simp, rfl, rfl, hn, by omega, hUv⟩, rfl, rfl⟩ ?_
  rintro _ _ _ ⟨k, m, Y, cf, ad3, cap3, N, rfl, ⟨hk, hY, hm, hcf, hN, hmk, hYv⟩, rfl, rfl⟩
  have hYl : Y.length ≤ 800 := by rw [hY, List.length_append, ← hm]; omega
  by_cases hkn : k < n2
  · obtain ⟨r, hr⟩ := at_lt (l := O) (k := k) (by omega)
    have r1 : (O.map Rdg.row)[k]? = some [.int r.t, .ints r.vs] := rows_at hr
    have hrv := hOv r (List.mem_of_getElem? hr)
    have hA := any_take2 (p := badR U) hr
    have hF := fil_take (p := newR U) hr
    rw [← hcf] at hA
    have hnk : ((O.take (k + 1)).map Rdg.t).Nodup := hO.sublist ((List.take_sublist _ _).map _)
    rw [take_at hr, List.map_append, List.nodup_append] at hnk
    have hfd : fdT Y r.t = fdT U r.t := by
      rw [hY]
      exact fdT_app fun x hx e => hnk.2.2 x.t (List.mem_map_of_mem (List.mem_filter.1 hx).1) r.t (by simp) e
    have k2 := putY_fn (bx := b33) (c := c) (t := t) (f := f) (ad := ad3) (cap := cap3) Y r (by omega) hN ht (by omega) hYv
    rw [hOe2 r (List.mem_of_getElem? hr)] at k2
    cases hfo : fdT U r.t with
    | none =>
      obtain ⟨e1, e2⟩ := badR_none hfo
      have e3 := putO_none (hfd.trans hfo)
      rw [putU_yes e3, e3] at k2
      rw [e1, Bool.or_false] at hA
      rw [e2, if_pos rfl] at hF
      have hY2 : Y ++ [r] = U ++ (O.take (k + 1)).filter (newR U) := by rw [hF, ← List.append_assoc, ← hY]
      have hm2 : m + 1 = ((O.take (k + 1)).filter (newR U)).length := by rw [hF, List.length_append, ← hm]; rfl
      have hN2 : (Y ++ [r]).length = N + 1 := by rw [List.length_append, ← hN]; rfl
      have hYv2 : ∀ x ∈ Y ++ [r], x.vs.length ≤ 1000 := fun x hx => by
        rcases List.mem_append.1 hx with h | h
        · exact hYv x h
        · rw [List.mem_singleton.1 h]; omega
      rw [hN2] at k2
      clear hF hY hm hr hnk hfd hfo e1 e2 e3 hbad hok hcf
      cases cf
      all_goals
        repeat' (first | refine goH ?_ | refine goV ?_ | refine goB (fun b => ?_) | refine goG ?_ | (refine Ops.k_guard ?_; first | (refine Ops.guard_dec rfl rfl (fun hc => ?_) (fun hc => ?_) <;> try (exfalso; omega)) | refine Ops.guard_split rfl rfl (fun hc => ?_) (fun hc => ?_)) | refine goI ?_ | (refine Cw.k_cond ?_; first | (refine Cw.cond_dec rfl (fun hc => ?_) (fun hc => ?_) <;> try (exfalso; omega)) | refine Cw.cond_bool rfl (fun hc => ?_) (fun hc => ?_)) | (refine Ops.k_calla ?_; first | (refine Ops.k_callf 31 ?_; (refine Ops.call k2 (Evs.cons rfl (Evs.cons rfl Evs.nil)) goPm rfl ?_; rintro y cs' ⟨ad4, cap4, rfl, rfl⟩))) | refine goR ?_ | refine goP ?_ | apply PSeq.cons | apply PSeq.yes rfl rfl rfl | exact goW | fail)
        exact ⟨_, _, _, (Ent.mk goSub goTk), ⟨k + 1, m + 1, _, _, _, _, N + 1, rfl, ⟨by omega, hY2, hm2, hA.symm, hN2.symm, by omega, hYv2⟩, rfl, rfl⟩, by omega⟩
    | some o =>
      obtain ⟨e1, e2⟩ := badR_some hfo
      have e3 := putO_some (hfd.trans hfo)
      rw [putU_no e3, e3, ← hN] at k2
      rw [e1] at hA
      rw [e2, if_neg (by decide), List.append_nil] at hF
      rw [← hF] at hY hm
      by_cases hvs : o.vs = r.vs
      · rw [if_pos hvs] at k2
        rw [decide_eq_true hvs, Bool.not_true, Bool.or_false] at hA
        clear hF hr hnk hfd hfo e1 e2 e3 hbad hok hcf
        cases cf
        all_goals
          repeat' (first | refine goH ?_ | refine goV ?_ | refine goB (fun b => ?_) | refine goG ?_ | (refine Ops.k_guard ?_; first | (refine Ops.guard_dec rfl rfl (fun hc => ?_) (fun hc => ?_) <;> try (exfalso; omega)) | refine Ops.guard_split rfl rfl (fun hc => ?_) (fun hc => ?_)) | refine goI ?_ | (refine Cw.k_cond ?_; first | (refine Cw.cond_dec rfl (fun hc => ?_) (fun hc => ?_) <;> try (exfalso; omega)) | refine Cw.cond_bool rfl (fun hc => ?_) (fun hc => ?_)) | (refine Ops.k_calla ?_; first | (refine Ops.k_callf 31 ?_; (refine Ops.call k2 (Evs.cons rfl (Evs.cons rfl Evs.nil)) goPm rfl ?_; rintro y cs' ⟨ad4, cap4, rfl, rfl⟩))) | refine goR ?_ | refine goP ?_ | apply PSeq.cons | apply PSeq.yes rfl rfl rfl | exact goW | fail)
          exact ⟨_, _, _, (Ent.mk goSub goTk), ⟨k + 1, m, Y, _, _, _, N, rfl, ⟨by omega, hY, hm, hA.symm, hN, by omega, hYv⟩, rfl, rfl⟩, by omega⟩
      · rw [if_neg hvs] at k2
        rw [decide_eq_false hvs, Bool.not_false, Bool.or_true] at hA
        clear hF hr hnk hfd hfo e1 e2 e3 hbad hok hcf
        cases cf
        all_goals
          repeat' (first | refine goH ?_ | refine goV ?_ | refine goB (fun b => ?_) | refine goG ?_ | (refine Ops.k_guard ?_; first | (refine Ops.guard_dec rfl rfl (fun hc => ?_) (fun hc => ?_) <;> try (exfalso; omega)) | refine Ops.guard_split rfl rfl (fun hc => ?_) (fun hc => ?_)) | refine goI ?_ | (refine Cw.k_cond ?_; first | (refine Cw.cond_dec rfl (fun hc => ?_) (fun hc => ?_) <;> try (exfalso; omega)) | refine Cw.cond_bool rfl (fun hc => ?_) (fun hc => ?_)) | (refine Ops.k_calla ?_; first | (refine Ops.k_callf 31 ?_; (refine Ops.call k2 (Evs.cons rfl (Evs.cons rfl Evs.nil)) goPm rfl ?_; rintro y cs' ⟨ad4, cap4, rfl, rfl⟩))) | refine goR ?_ | refine goP ?_ | apply PSeq.cons | apply PSeq.yes rfl rfl rfl | exact goW | fail)
          exact ⟨_, _, _, (Ent.mk goSub goTk), ⟨k + 1, m, Y, _, _, _, N, rfl, ⟨by omega, hY, hm, hA.symm, hN, by omega, hYv⟩, rfl, rfl⟩, by omega⟩
  · rw [List.take_of_length_le (by omega)] at hY hm hcf
    cases cf
    · have e3 := hok hcf.symm
      rw [joinU_ok e3, e3, ← hm, ← hY, ← hN]
      clear hbad hok e3 hcf hY hm
      repeat' (first | refine goH ?_ | refine goV ?_ | refine goB (fun b => ?_) | refine goG ?_ | (refine Ops.k_guard ?_; first | (refine Ops.guard_dec rfl rfl (fun hc => ?_) (fun hc => ?_) <;> try (exfalso; omega)) | refine Ops.guard_split rfl rfl (fun hc => ?_) (fun hc => ?_)) | refine goI ?_ | (refine Cw.k_cond ?_; first | (refine Cw.cond_dec rfl (fun hc => ?_) (fun hc => ?_) <;> try (exfalso; omega)) | refine Cw.cond_bool rfl (fun hc => ?_) (fun hc => ?_)) | refine goR ?_ | refine goP ?_ | apply PSeq.cons | apply PSeq.yes rfl rfl rfl | exact goW | fail)
      exact Fin.ret (Ent.take (Take.cons goPk (Take.cons goPk (Take.cons goPk (Take.cons goPk Take.nil))))) (Outs.two rfl rfl rfl) ⟨_, _, rfl, rfl⟩
    · have e3 := hbad hcf.symm
      rw [joinU_no e3 (by decide), e3, ← hn]
      clear hbad hok e3 hcf hY hm
      repeat' (first | refine goH ?_ | refine goV ?_ | refine goB (fun b => ?_) | refine goG ?_ | (refine Ops.k_guard ?_; first | (refine Ops.guard_dec rfl rfl (fun hc => ?_) (fun hc => ?_) <;> try (exfalso; omega)) | refine Ops.guard_split rfl rfl (fun hc => ?_) (fun hc => ?_)) | refine goI ?_ | (refine Cw.k_cond ?_; first | (refine Cw.cond_dec rfl (fun hc => ?_) (fun hc => ?_) <;> try (exfalso; omega)) | refine Cw.cond_bool rfl (fun hc => ?_) (fun hc => ?_)) | refine goR ?_ | refine goP ?_ | apply PSeq.cons | apply PSeq.yes rfl rfl rfl | exact goW | fail)
      exact Fin.ret (Ent.take (Take.cons goPk (Take.cons goPk (Take.cons goPk (Take.cons goPk Take.nil))))) (Outs.two rfl rfl rfl) ⟨_, _, rfl, rfl⟩
end Lg
end
section
set_option linter.all false
set_option maxRecDepth 100000
set_option maxHeartbeats 8000000
namespace Lg
open Go Go.Proofs

/-! ### meter.Share of 3 among 1 and 2 -/
theorem sharedLt_fn (b3 b4 b5 : Nat) (a b : Int) (ha : a = 0 ∨ a = 1) (hb : b = 0 ∨ b = 1) : Spec Try.prog 83 ([.int a, .int b] ++ [Value.pointer (some ⟨b3, 0, none⟩), Value.pointer (some ⟨b4, 0, none⟩), Value.pointer (some ⟨b5, 0, none⟩)].map Tr.raw) [Chunk.box b3 3 [.int 3], Chunk.box b4 22 [.sl 1 [[Tr.int 1], [Tr.int 2]]], Chunk.box b5 3 [.int 3]] (fun r cs => r = .int 0 ∧ cs = [Chunk.box b3 3 [.int 3], Chunk.box b4 22 [.sl 1 [[Tr.int 1], [Tr.int 2]]], Chunk.box b5 3 [.int 3]]) := by
  have hc : PFn Try.prog 48 [.int 0, .int 0] (· = .int 0) := compare_fn 0 0
  have r0 : ([[Tr.int 1], [Tr.int 2]] : List (List Tr))[0]? = some [Tr.int 1] := rfl
  have r1 : ([[Tr.int 1], [Tr.int 2]] : List (List Tr))[1]? = some [Tr.int 2] := rfl
  refine Spec.body Try.func83 rfl rfl (Try.ntmps83) rfl fun w0 own0 M => ?_
  rcases ha with rfl | rfl <;> rcases hb with rfl | rfl
  all_goals
    repeat' (first | refine goH ?_ | refine goV ?_ | refine goI ?_ | (refine Cw.k_cond ?_; first | (refine Cw.cond_dec rfl (fun hc => ?_) (fun hc => ?_) <;> try (exfalso; omega)) | refine Cw.cond_bool rfl (fun hc => ?_) (fun hc => ?_)) | (refine Ops.k_calla ?_; first | (refine Ops.k_callf 48 ?_; refine Ops.callV hc (Evs.cons rfl (Evs.cons rfl Evs.nil)) rfl ?_)) | (apply OpW.k_call; first | (apply OpW.k_callf 48; exact OpW.callV hc (Evs.cons rfl (Evs.cons rfl Evs.nil)))) | refine goR ?_ | refine goP ?_ | apply PSeq.cons | apply PSeq.yes rfl rfl rfl | exact goW | fail)
    exact Fin.ret (Ent.take goTk) (Outs.one rfl rfl) ⟨rfl, rfl⟩
theorem shared12_fn : PFn Try.prog 66 [.int 3, .sl 1 [[Tr.int 1], [Tr.int 2]], .int 3] (· = .sl 1 [[Tr.int 1], [Tr.int 2]]) := by
  have kS : ∀ (b3 b4 b5 : Nat) (ad : Option Addr) (cap : Nat), Spec Try.prog 82 [Tr.raw (.slice ad 2 cap), Tr.raw (.func (.func 83) #[] [Value.pointer (some ⟨b3, 0, none⟩), Value.pointer (some ⟨b4, 0, none⟩), Value.pointer (some ⟨b5, 0, none⟩)].toArray)] [Chunk.own ad cap 1 3 [[.int 0], [.int 1]], Chunk.box b3 3 [.int 3], Chunk.box b4 22 [.sl 1 [[Tr.int 1], [Tr.int 2]]], Chunk.box b5 3 [.int 3]] (fun r cs => r = Tr.tup [] ∧ cs = [Chunk.own ad cap 1 3 [[.int 0], [.int 1]], Chunk.box b3 3 [.int 3], Chunk.box b4 22 [.sl 1 [[Tr.int 1], [Tr.int 2]]], Chunk.box b5 3 [.int 3]]) := fun b3 b4 b5 ad cap => sortStable_int (xs := [0, 1]) (lt := fun _ _ => false) (cf := fun _ _ => 0) (caps := [.pointer (some ⟨b3, 0, none⟩), .pointer (some ⟨b4, 0, none⟩), .pointer (some ⟨b5, 0, none⟩)]) (cin := [Chunk.box b3 3 [.int 3], Chunk.box b4 22 [.sl 1 [[Tr.int 1], [Tr.int 2]]], Chunk.box b5 3 [.int 3]]) (fun a b => rfl) (by simp) rfl (fun a b ha hb => sharedLt_fn b3 b4 b5 a b (by simpa using ha) (by simpa using hb))
  have r0 : ([[Tr.int 1], [Tr.int 2]] : List (List Tr))[0]? = some [Tr.int 1] := rfl
  have r1 : ([[Tr.int 1], [Tr.int 2]] : List (List Tr))[1]? = some [Tr.int 2] := rfl
  refine PFn.mk (Spec.body Try.func66 rfl rfl (Try.ntmps66) rfl fun w0 own0 M => ?_)
  have hL2 : ((([[Tr.int 1], [Tr.int 2]] : List (List Tr)).length : Nat) : Int) = 2 := rfl
  have hn2 : ((([[Tr.int 1], [Tr.int 2]] : List (List Tr)).length : Nat) : Int).toNat = 2 := rfl
  have hrep : List.replicate 2 (List.map Tr.raw [Value.int .i64 0]) = [[Tr.int 0], [Tr.int 0]] := rfl
  repeat' (first | refine goH ?_ | (refine Ops.k_makeSlice ?_; first | (refine Ops.makeSlice rfl rfl (by omega) (by omega) (by omega) rfl (fun ad cap => ?_); rw [hn2, hrep])) | refine goV ?_ | refine goB (fun b => ?_) | refine goC (fun ad cap => ?_) | refine goI ?_ | (refine Cw.k_cond ?_; first | (refine Cw.cond_dec rfl (fun hc => ?_) (fun hc => ?_) <;> try (exfalso; omega)) | refine Cw.cond_bool rfl (fun hc => ?_) (fun hc => ?_)) | fail)
  rename_i b3 b4 ad1 cap1
  rw [hL2]
  refine Cw.loopI [(3, _), (4, _), (5, _), (7, _), (8, _), (21, _), (22, _)] _ (fun q e cc => ∃ (k : Nat) (p0 p1 q1 z : Int), q = 2 - k ∧ ((k = 0 ∧ p0 = 0 ∧ p1 = 0 ∧ q1 = 0 ∧ z = 3) ∨ (k = 1 ∧ p0 = 1 ∧ p1 = 0 ∧ q1 = 0 ∧ z = 2) ∨ (k = 2 ∧ p0 = 1 ∧ p1 = 2 ∧ q1 = 1 ∧ z = 0)) ∧ e = [(9, .int z), (23, .int k)] ∧ cc = [Chunk.own ad1 cap1 1 3 [[.int p0], [.int p1]], Chunk.own ad cap 1 3 [[.int 0], [.int q1]]])
    ⟨_, _, _, (Ent.mkP goSub goPm), 0, 0, 0, 0, 3, rfl, .inl ⟨rfl, rfl, rfl, rfl, rfl⟩, rfl, rfl⟩ ?_
  rintro _ _ _ ⟨k, p0, p1, q1, z, rfl, ⟨rfl, rfl, rfl, rfl, rfl⟩ | ⟨rfl, rfl, rfl, rfl, rfl⟩ | ⟨rfl, rfl, rfl, rfl, rfl⟩, rfl, rfl⟩
  · repeat' (first | refine goH ?_ | refine goV ?_ | refine goB (fun b => ?_) | refine goC (fun ad cap => ?_) | refine goI ?_ | (refine Cw.k_cond ?_; first | (refine Cw.cond_dec rfl (fun hc => ?_) (fun hc => ?_) <;> try (exfalso; omega)) | refine Cw.cond_bool rfl (fun hc => ?_) (fun hc => ?_)) | fail)
    exact ⟨_, _, _, (Ent.mk goSub goTk), ⟨1, 1, 0, 0, 2, rfl, .inr (.inl ⟨rfl, rfl, rfl, rfl, rfl⟩), rfl, rfl⟩, by omega⟩
  · repeat' (first | refine goH ?_ | refine goV ?_ | refine goB (fun b => ?_) | refine goC (fun ad cap => ?_) | refine goI ?_ | (refine Cw.k_cond ?_; first | (refine Cw.cond_dec rfl (fun hc => ?_) (fun hc => ?_) <;> try (exfalso; omega)) | refine Cw.cond_bool rfl (fun hc => ?_) (fun hc => ?_)) | fail)
    exact ⟨_, _, _, (Ent.mk goSub goTk), ⟨2, 1, 2, 1, 0, rfl, .inr (.inr ⟨rfl, rfl, rfl, rfl, rfl⟩), rfl, rfl⟩, by omega⟩
  · repeat' (first | refine goH ?_ | refine goV ?_ | refine goB (fun b => ?_) | refine goC (fun ad cap => ?_) | refine goI ?_ | (refine Cw.k_cond ?_; first | (refine Cw.cond_dec rfl (fun hc => ?_) (fun hc => ?_) <;> try (exfalso; omega)) | refine Cw.cond_bool rfl (fun hc => ?_) (fun hc => ?_)) | (refine Ops.k_calla ?_; first | (refine Ops.k_callf 82 ?_; (refine Ops.call (kS _ _ _ _ _) (Evs.cons rfl (Evs.cons rfl Evs.nil)) goPm rfl ?_; rintro r cs' ⟨rfl, rfl⟩))) | fail)
    refine Cw.loopI [(7, _), (52, _), (53, _)] _ (fun q e cc => q = 0 ∧ e = [(54, .int 0)] ∧ cc = []) ⟨_, _, _, (Ent.mkP goSub goPm), rfl, rfl, rfl⟩ ?_
    rintro _ _ _ ⟨rfl, rfl, rfl⟩
    repeat' (first | refine goH ?_ | refine goV ?_ | refine goB (fun b => ?_) | refine goC (fun ad cap => ?_) | refine goI ?_ | (refine Cw.k_cond ?_; first | (refine Cw.cond_dec rfl (fun hc => ?_) (fun hc => ?_) <;> try (exfalso; omega)) | refine Cw.cond_bool rfl (fun hc => ?_) (fun hc => ?_)) | fail)
    refine Fin.ret (Ent.trans (Ent.settle (s := 6) rfl goPk rfl) (Ent.take goTk)) (Outs.sole rfl goOe) ⟨rfl, rfl⟩
theorem share12_fn : PFn Try.prog 53 [.int 3, .sl 1 [[Tr.int 1], [Tr.int 2]]] (· = .tup [.sl 1 [[Tr.int 1], [Tr.int 2]], .int 0]) := by
  have hL2 : ((([[Tr.int 1], [Tr.int 2]] : List (List Tr)).length : Nat) : Int) = 2 := rfl
  have k0 : PFn Try.prog 38 [.int 3, .int 0, .int 1000000000] (· = .bool false) := out_fn 3 0 1000000000
  have k1 : PFn Try.prog 38 [.int 1, .int 0, .int 1000000] (· = .bool false) := out_fn 1 0 1000000
  have k2 : PFn Try.prog 38 [.int 2, .int 0, .int 1000000] (· = .bool false) := out_fn 2 0 1000000
  have k3 := shared12_fn
  have r0 : ([[Tr.int 1], [Tr.int 2]] : List (List Tr))[0]? = some [Tr.int 1] := rfl
  have r1 : ([[Tr.int 1], [Tr.int 2]] : List (List Tr))[1]? = some [Tr.int 2] := rfl
  refine PFn.mk (Spec.body Try.func53 rfl rfl (Try.ntmps53) rfl fun w0 own0 M => ?_)
  repeat' (first | refine goH ?_ | refine goV ?_ | refine goI ?_ | (refine Cw.k_cond ?_; first | (refine Cw.cond_dec rfl (fun hc => ?_) (fun hc => ?_) <;> try (exfalso; omega)) | refine Cw.cond_bool rfl (fun hc => ?_) (fun hc => ?_)) | (refine Ops.k_calla ?_; first | (refine Ops.k_callf 38 ?_; refine Ops.callV k0 (Evs.cons rfl (Evs.cons rfl (Evs.cons rfl Evs.nil))) rfl ?_)) | fail)
  rw [hL2]
  refine Cw.loopI [(0, _), (1, _), (20, _), (21, _)] _ (fun q e cc => ∃ (k : Nat) (z : Int), q = 2 - k ∧ ((k = 0 ∧ z = 0) ∨ (k = 1 ∧ z = 1) ∨ (k = 2 ∧ z = 3)) ∧ e = [(6, .int z), (22, .int k)] ∧ cc = [])
    ⟨_, _, _, (Ent.mkP goSub goPm), 0, 0, rfl, .inl ⟨rfl, rfl⟩, rfl, rfl⟩ ?_
  rintro _ _ _ ⟨k, z, rfl, ⟨rfl, rfl⟩ | ⟨rfl, rfl⟩ | ⟨rfl, rfl⟩, rfl, rfl⟩
  · repeat' (first | refine goH ?_ | refine goV ?_ | refine goI ?_ | (refine Cw.k_cond ?_; first | (refine Cw.cond_dec rfl (fun hc => ?_) (fun hc => ?_) <;> try (exfalso; omega)) | refine Cw.cond_bool rfl (fun hc => ?_) (fun hc => ?_)) | (refine Ops.k_calla ?_; first | (refine Ops.k_callf 38 ?_; refine Ops.callV k1 (Evs.cons rfl (Evs.cons rfl (Evs.cons rfl Evs.nil))) rfl ?_)) | fail)
    exact ⟨_, _, _, (Ent.mk goSub goTk), ⟨1, 1, rfl, .inr (.inl ⟨rfl, rfl⟩), rfl, rfl⟩, by omega⟩
  · repeat' (first | refine goH ?_ | refine goV ?_ | refine goI ?_ | (refine Cw.k_cond ?_; first | (refine Cw.cond_dec rfl (fun hc => ?_) (fun hc => ?_) <;> try (exfalso; omega)) | refine Cw.cond_bool rfl (fun hc => ?_) (fun hc => ?_)) | (refine Ops.k_calla ?_; first | (refine Ops.k_callf 38 ?_; refine Ops.callV k2 (Evs.cons rfl (Evs.cons rfl (Evs.cons rfl Evs.nil))) rfl ?_)) | fail)
    exact ⟨_, _, _, (Ent.mk goSub goTk), ⟨2, 3, rfl, .inr (.inr ⟨rfl, rfl⟩), rfl, rfl⟩, by omega⟩
  · repeat' (first | refine goH ?_ | refine goV ?_ | refine goI ?_ | (refine Cw.k_cond ?_; first | (refine Cw.cond_dec rfl (fun hc => ?_) (fun hc => ?_) <;> try (exfalso; omega)) | refine Cw.cond_bool rfl (fun hc => ?_) (fun hc => ?_)) | (refine Ops.k_calla ?_; first | (refine Ops.k_callf 66 ?_; refine Ops.callV k3 (Evs.cons rfl (Evs.cons rfl (Evs.cons rfl Evs.nil))) rfl ?_)) | fail)
    exact Fin.ret (Ent.take goTk) (Outs.two rfl rfl rfl) ⟨rfl, rfl⟩
theorem meters_fn : PFn Try.prog 17 [] (· = .bool true) := by
  have k1 := share12_fn
  have k2 : PFn Try.prog 21 [.sl 1 [[Tr.int 1], [Tr.int 2]], .sl 1 [[Tr.int 1], [Tr.int 2]]] (· = .bool true) := equalInts_fn [1, 2] [1, 2] (by simp) (by simp)
  refine PFn.mk (Spec.body Try.func17 rfl rfl (Try.ntmps17) rfl fun w0 own0 M => ?_)
  repeat' (first | refine goH ?_ | refine goV ?_ | refine goG ?_ | (refine Ops.k_guard ?_; first | (refine Ops.guard_dec rfl rfl (fun hc => ?_) (fun hc => ?_) <;> try (exfalso; omega)) | refine Ops.guard_split rfl rfl (fun hc => ?_) (fun hc => ?_)) | refine goI ?_ | (refine Cw.k_cond ?_; first | (refine Cw.cond_dec rfl (fun hc => ?_) (fun hc => ?_) <;> try (exfalso; omega)) | refine Cw.cond_bool rfl (fun hc => ?_) (fun hc => ?_)) | (refine Ops.k_calla ?_; first | (refine Ops.k_callf 53 ?_; refine Ops.callV k1 (Evs.cons rfl (Evs.cons rfl Evs.nil)) rfl ?_) | (refine Ops.k_callf 21 ?_; refine Ops.callV k2 (Evs.cons rfl (Evs.cons rfl Evs.nil)) rfl ?_)) | fail)
  exact Fin.ret (Ent.take goTk) (Outs.one rfl rfl) ⟨rfl, rfl⟩
end Lg
end
section
set_option linter.all false
namespace Lg
open Go Go.Proofs

theorem Ops.shut0 {P : Program} {Γ : Ctx} {env : Env} {cs : List Chunk} {Q : Post} {R : Array Oper} {l : List Oper} {ty b : Nat} {cells : List Tr} {rows : List (List Tr)} (h : cells = [Tr.sl 1 rows, Tr.int ((0 : Nat) : Int)]) (k : Ops P Γ R l env (Chunk.strm ty b rows 0 :: cs) Q) : Ops P Γ R l env (Chunk.box b ty cells :: cs) Q := by
  subst h
  exact Ops.ent (Ent.shut_strm (m := 0) (Nat.le_refl 0)) k
end Lg
end
section
set_option linter.all false
set_option maxRecDepth 100000
set_option maxHeartbeats 8000000
namespace Lg
open Go Go.Proofs

/-! ### two logs that hold the same -/
structure Rl (c t f : Int) (S U : List Rdg) : Prop where
  srt : SrtL S
  nd : (U.map Rdg.t).Nodup
  mem : ∀ x, x ∈ S ↔ x ∈ U
  ok : ∀ x ∈ U, rdgE c t f x = 0 ∧ x.t ∈ atL ∧ x.vs.length ≤ 6
theorem nodup_inj {U : List Rdg} : (U.map Rdg.t).Nodup → ∀ x ∈ U, ∀ y ∈ U, x.t = y.t → x = y := by
  induction U with
  | nil => intro _ x hx; cases hx
  | cons z U ih =>
    intro h x hx y hy e
    rw [List.map_cons, List.nodup_cons] at h
    rcases List.mem_cons.1 hx with h1 | h1 <;> rcases List.mem_cons.1 hy with h2 | h2
    · rw [h1, h2]
    · subst h1
      exact absurd (by rw [e]; exact List.mem_map_of_mem h2) h.1
    · subst h2
      exact absurd (by rw [← e]; exact List.mem_map_of_mem h1) h.1
    · exact ih h.2 x h1 y h2 e
theorem fdT_mem {U : List Rdg} {a : Int} {o : Rdg} (h : fdT U a = some o) : o ∈ U ∧ o.t = a := by
  unfold fdT at h
  exact ⟨List.mem_of_find?_eq_some h, by have := List.find?_some h; simpa using this⟩
theorem fdT_same {S U : List Rdg} (hm : ∀ x, x ∈ S ↔ x ∈ U) (hn : (U.map Rdg.t).Nodup) (a : Int) : fdT S a = fdT U a := by
  cases h1 : fdT S a with
  | none =>
    cases h2 : fdT U a with
    | none => rfl
    | some o =>
      obtain ⟨h3, h4⟩ := fdT_mem h2
      exact absurd h4 (fdT_iff.1 h1 o ((hm o).2 h3))
  | some o =>
    obtain ⟨h3, h4⟩ := fdT_mem h1
    cases h2 : fdT U a with
    | none => exact absurd h4 (fdT_iff.1 h2 o ((hm o).1 h3))
    | some o' =>
      obtain ⟨h5, h6⟩ := fdT_mem h2
      rw [nodup_inj hn o ((hm o).1 h3) o' h5 (by rw [h4, h6])]
theorem Rl.nil (c t f : Int) : Rl c t f [] [] := ⟨List.Pairwise.nil, List.nodup_nil, fun _ => Iff.rfl, by simp⟩
theorem Rl.fd {c t f : Int} {S U : List Rdg} (h : Rl c t f S U) (a : Int) : fdT S a = fdT U a := fdT_same h.mem h.nd a
theorem Rl.putO {c t f : Int} {S U : List Rdg} (h : Rl c t f S U) (e : Int) (r : Rdg) : putO e S r = putO e U r := by
  unfold Lg.putO
  rw [h.fd]
theorem Rl.put {c t f : Int} {S U : List Rdg} (h : Rl c t f S U) {r : Rdg} (ha : r.t ∈ atL) (hv : r.vs.length ≤ 6) : Rl c t f (putS (rdgE c t f r) S r) (putU (rdgE c t f r) U r) := by
  unfold putS putU
  rw [h.putO]
  by_cases hp : (Lg.putO (rdgE c t f r) U r).1 = true
  · rw [if_pos hp, if_pos hp]
    have he : rdgE c t f r = 0 := by
      by_cases h0 : rdgE c t f r ≠ 0
      · rw [putO_bad h0] at hp; cases hp
      · omega
    have hU : fdT U r.t = none := by
      rw [he] at hp
      cases hf : fdT U r.t with
      | none => rfl
      | some o => rw [putO_some hf] at hp; cases hp
    have hS : fdT S r.t = none := by rw [h.fd]; exact hU
    refine ⟨srt_ins h.srt, ?_, fun x => ?_, ?_⟩
    · rw [List.map_append, List.nodup_append]
      refine ⟨h.nd, by simp, ?_⟩
      intro a h1 b h2 e
      obtain ⟨x, hx, rfl⟩ := List.mem_map.1 h1
      simp at h2
      exact fdT_iff.1 hU x hx (e.trans h2)
    · rw [mem_ins hS, h.mem]
      simp
    · intro x hx
      rcases List.mem_append.1 hx with h1 | h1
      · exact h.ok x h1
      · rw [List.mem_singleton.1 h1]; exact ⟨he, ha, hv⟩
  · rw [if_neg hp, if_neg hp]
    exact h
theorem nodup_len : ∀ {l m : List Int}, l.Nodup → (∀ x ∈ l, x ∈ m) → l.length ≤ m.length
  | [], m, _, _ => Nat.zero_le _
  | x :: l, m, hn, hs => by
    rw [List.nodup_cons] at hn
    have hx := hs x (by simp)
    have := nodup_len (l := l) (m := m.erase x) hn.2 (fun y hy => (List.mem_erase_of_ne (fun e => hn.1 (by rw [← e]; exact hy))).2 (hs y (by simp [hy])))
    rw [List.length_erase_of_mem hx] at this
    have := List.length_pos_of_mem hx
    simp
    omega
theorem srt_nd {S : List Rdg} (h : SrtL S) : (S.map Rdg.t).Nodup := by
  unfold List.Nodup
  rw [List.pairwise_map]
  exact h.imp fun {a b} hab e => by omega
theorem Rl.len {c t f : Int} {S U : List Rdg} (h : Rl c t f S U) : S.length ≤ 10 ∧ U.length ≤ 10 := by
  have h1 := nodup_len (l := S.map Rdg.t) (m := atL) (srt_nd h.srt) (fun x hx => by
    obtain ⟨y, hy, rfl⟩ := List.mem_map.1 hx
    exact (h.ok y ((h.mem y).1 hy)).2.1)
  have h2 := nodup_len (l := U.map Rdg.t) (m := atL) h.nd (fun x hx => by
    obtain ⟨y, hy, rfl⟩ := List.mem_map.1 hx
    exact (h.ok y hy).2.1)
  rw [List.length_map] at h1 h2
  exact ⟨h1, h2⟩
theorem Rl.vs {c t f : Int} {S U : List Rdg} (h : Rl c t f S U) : (∀ x ∈ S, x.vs.length ≤ 1000) ∧ ∀ x ∈ U, x.vs.length ≤ 1000 :=
  ⟨fun x hx => by have := (h.ok x ((h.mem x).1 hx)).2.2; omega, fun x hx => by have := (h.ok x hx).2.2; omega⟩
theorem any_same {A B : List Rdg} {p : Rdg → Bool} (h : ∀ x, x ∈ A ↔ x ∈ B) : A.any p = B.any p := by
  rw [Bool.eq_iff_iff, List.any_eq_true, List.any_eq_true]
  exact ⟨fun ⟨x, h1, h2⟩ => ⟨x, (h x).1 h1, h2⟩, fun ⟨x, h1, h2⟩ => ⟨x, (h x).2 h1, h2⟩⟩
theorem nd_of_t {U : List Rdg} (h : (U.map Rdg.t).Nodup) : U.Nodup := by
  unfold List.Nodup at h ⊢
  rw [List.pairwise_map] at h
  exact h.imp fun {a b} hab e => hab (by rw [e])
theorem Rl.perm {c t f : Int} {S U : List Rdg} (h : Rl c t f S U) : S.Perm U :=
  (List.perm_ext_iff_of_nodup (nd_of_t (srt_nd h.srt)) (nd_of_t h.nd)).2 h.mem
theorem Rl.joinO {c t f c2 t2 f2 : Int} {S U SO UO : List Rdg} (h : Rl c t f S U) (h2 : Rl c2 t2 f2 SO UO) : joinO c t f c2 t2 f2 S SO = joinO c t f c2 t2 f2 U UO := by
  have e1 : badR S = badR U := by funext r; unfold badR; rw [h.fd]
  have e2 : newR S = newR U := by funext r; unfold newR; rw [h.fd]
  unfold Lg.joinO
  rw [e1, e2, any_same h2.mem, (h2.perm.filter _).length_eq]
theorem Rl.join {c t f c2 t2 f2 : Int} {S U SO UO : List Rdg} (h : Rl c t f S U) (h2 : Rl c2 t2 f2 SO UO) : Rl c t f (joinS c t f c2 t2 f2 S SO) (joinU c t f c2 t2 f2 U UO) := by
  unfold joinS joinU
  rw [h.joinO h2]
  by_cases hj : (Lg.joinO c t f c2 t2 f2 U UO).2 = 0
  · rw [if_pos hj, if_pos hj]
    have hce : c = c2 ∧ t = t2 ∧ f = f2 := by
      by_cases hne : c = c2 ∧ t = t2 ∧ f = f2
      · exact hne
      · rw [joinO_ne hne] at hj; cases hj
    obtain ⟨rfl, rfl, rfl⟩ := hce
    have e2 : newR S = newR U := by funext r; unfold newR; rw [h.fd]
    have hnew : ∀ x ∈ UO.filter (newR U), fdT U x.t = none := by
      intro x hx
      have := (List.mem_filter.1 hx).2
      cases hf : fdT U x.t with
      | none => rfl
      | some o => rw [(badR_some hf).2] at this; cases this
    have hnd := (srt_nd h2.srt).sublist ((List.filter_sublist (p := newR S)).map Rdg.t)
    obtain ⟨hI, hM⟩ := addS_inv h.srt (SO.filter (newR S)) hnd (fun r hr => by
      rw [h.fd]
      refine hnew r (List.mem_filter.2 ⟨(h2.mem r).1 (List.mem_filter.1 hr).1, ?_⟩)
      rw [← e2]
      exact (List.mem_filter.1 hr).2)
    refine ⟨hI, ?_, fun x => ?_, ?_⟩
    · rw [List.map_append, List.nodup_append]
      refine ⟨h.nd, h2.nd.sublist (List.filter_sublist.map _), ?_⟩
      intro a h1 b h3 e
      obtain ⟨x, hx, rfl⟩ := List.mem_map.1 h1
      obtain ⟨y, hy, rfl⟩ := List.mem_map.1 h3
      exact fdT_iff.1 (hnew y hy) x hx e
    · rw [hM, h.mem, List.mem_append, List.mem_filter, List.mem_filter, h2.mem, e2]
    · intro x hx
      rcases List.mem_append.1 hx with h1 | h1
      · exact h.ok x h1
      · exact h2.ok x (List.mem_filter.1 h1).1
  · rw [if_neg hj, if_neg hj]
    exact h
theorem Rl.srt0 {c t f : Int} {S U : List Rdg} (h : Rl c t f S U) (hm : mtrE c t f = 0) : srtO c t f U = .tup [.sl 2 (S.map Rdg.row), .int 0] := by
  have hl := h.len
  refine srtO_yes ?_ ?_
  · unfold rdsE
    rw [if_neg (by omega), if_neg (by omega)]
    refine firstE_drop fun j _ hj => ?_
    unfold rdgAt
    cases hu : U[j]? with
    | none => rfl
    | some r => exact (h.ok r (List.mem_of_getElem? hu)).1
  · have hs : (isort rlt U).Pairwise (fun a b => a.t ≤ b.t) := isort_key_sorted Rdg.t U
    have hA := dedA_spec (isort rlt U) [] (by intro x hx; cases hx) List.Pairwise.nil (by simpa using hs)
    simp only [List.nil_append] at hA
    have hp := isort_perm rlt U
    cases hd : dedA [] (isort rlt U) with
    | none =>
      refine absurd ?_ (hA.2 hd)
      intro x hx y hy e
      exact nodup_inj h.nd x (hp.mem_iff.1 hx) y (hp.mem_iff.1 hy) e
    | some D =>
      obtain ⟨_, h2, h3⟩ := hA.1 D hd
      have : D = S := strict_ext Rdg.t h2 h.srt fun x => by rw [h3, hp.mem_iff, h.mem]
      rw [this]
theorem Ops.neqB_f {P : Program} {Γ : Ctx} {env : Env} {cs : List Chunk} {Q : Post} {R : Array Oper} {i : Tmp} {ty : TypeId} {pos : String} {af : Array Edge} {rest : List Oper} {x y : Operand} {T T2 : TypeId} {p q : Bool}
    (hT : P.underlying T = some .bool) (hx : ev env x = some (.bool p)) (hy : ev env y = some (.bool q)) (h : p = q) (hi : Nat.blt i Γ.n = true)
    (kk : Ops P Γ R rest ((i, .bool false) :: env) cs Q) : Ops P Γ R (⟨some i, .binOp .neq T x y T2, ty, pos, af, none⟩ :: rest) env cs Q := by
  subst h
  refine Ops.neqB hT hx hy hi ?_
  have : (!(p == p)) = false := by cases p <;> rfl
  rw [this]
  exact kk
end Lg
end
section
set_option linter.all false
set_option maxRecDepth 100000
set_option maxHeartbeats 8000000
namespace Lg
open Go Go.Proofs

attribute [local irreducible] intRows mtrE rdgE fdT isort putO joinO putS putU joinS joinU
theorem logsKept_law (xs : List Int) : Spec Try.prog 4 [Tr.ints xs] [] (fun r _ => r = Tr.bool true) := by
  refine Spec.body Try.func4 rfl rfl (Try.ntmps4) rfl fun w0 own0 M => ?_
  have k0 := meters_fn
  repeat' (first | refine goH ?_ | refine goV ?_ | refine goB (fun b => ?_) | refine goG ?_ | (refine Ops.k_guard ?_; first | (refine Ops.guard_dec rfl rfl (fun hc => ?_) (fun hc => ?_) <;> try (exfalso; omega)) | refine Ops.guard_split rfl rfl (fun hc => ?_) (fun hc => ?_)) | refine goI ?_ | (refine Cw.k_cond ?_; first | (refine Cw.cond_dec rfl (fun hc => ?_) (fun hc => ?_) <;> try (exfalso; omega)) | refine Cw.cond_bool rfl (fun hc => ?_) (fun hc => ?_)) | refine Ops.shut0 (ty := 25) rfl ?_ | (refine Ops.k_calla ?_; first | (refine Ops.k_callf 5 ?_; (refine Ops.callG meter_gen (Evs.cons rfl Evs.nil) goPk (by omega) rfl ?_; rintro x ⟨c, t, f, rfl, ht, hc, hf⟩))) | refine goR ?_ | refine goP ?_ | apply PSeq.cons | apply PSeq.yes rfl rfl rfl | exact goW | fail)
  rename_i bs
  rename Nat => b4
  have k2 := meterFault_fn c t f
  by_cases hm : mtrE c t f ≠ 0
  · have k1 := newLogX_bad c t f hm
    generalize mtrE c t f = e at *
    repeat' (first | refine goH ?_ | refine goV ?_ | refine goB (fun b => ?_) | refine goG ?_ | (refine Ops.k_guard ?_; first | (refine Ops.guard_dec rfl rfl (fun hc => ?_) (fun hc => ?_) <;> try (exfalso; omega)) | refine Ops.guard_split rfl rfl (fun hc => ?_) (fun hc => ?_)) | refine goI ?_ | (refine Cw.k_cond ?_; first | (refine Cw.cond_dec rfl (fun hc => ?_) (fun hc => ?_) <;> try (exfalso; omega)) | refine Cw.cond_bool rfl (fun hc => ?_) (fun hc => ?_)) | (refine Ops.k_calla ?_; first | (refine Ops.k_callf 24 ?_; refine Ops.callV k1 (Evs.cons rfl Evs.nil) rfl ?_) | (refine Ops.k_callf 9 ?_; refine Ops.callV k2 (Evs.cons rfl Evs.nil) rfl ?_) | (refine Ops.k_callf 17 ?_; refine Ops.callV k0 Evs.nil rfl ?_)) | (apply OpW.k_call; first | (apply OpW.k_callf 24; exact OpW.callV k1 (Evs.cons rfl Evs.nil)) | (apply OpW.k_callf 9; exact OpW.callV k2 (Evs.cons rfl Evs.nil)) | (apply OpW.k_callf 17; exact OpW.callV k0 Evs.nil)) | refine goR ?_ | refine goP ?_ | apply PSeq.cons | apply PSeq.yes rfl rfl rfl | exact goW | fail)
    all_goals exact Fin.ret Ent.refl (Outs.one rfl rfl) (congrArg Tr.bool (decide_eq_true rfl))
  have hm0 : mtrE c t f = 0 := by omega
  have hmo := mtrE_ok hm0
  have k1 := newLogX_fn c t f hm0
  rw [hm0] at k2
  refine Ops.k_calla ?_
  refine Ops.call k1 (Evs.cons rfl Evs.nil) goPm rfl ?_
  rintro x cs' ⟨b5, rfl, rfl⟩
  clear k1
  repeat' (first | refine goH ?_ | refine goV ?_ | refine goB (fun b => ?_) | refine goG ?_ | (refine Ops.k_guard ?_; first | (refine Ops.guard_dec rfl rfl (fun hc => ?_) (fun hc => ?_) <;> try (exfalso; omega)) | refine Ops.guard_split rfl rfl (fun hc => ?_) (fun hc => ?_)) | refine goI ?_ | (refine Cw.k_cond ?_; first | (refine Cw.cond_dec rfl (fun hc => ?_) (fun hc => ?_) <;> try (exfalso; omega)) | refine Cw.cond_bool rfl (fun hc => ?_) (fun hc => ?_)) | (refine Ops.k_calla ?_; first | (refine Ops.k_callf 9 ?_; refine Ops.callV k2 (Evs.cons rfl Evs.nil) rfl ?_) | (refine Ops.k_callf 25 ?_; (refine Ops.callG (flip_gen _ (by omega)) (Evs.cons rfl (Evs.cons rfl Evs.nil)) goPk (by omega) rfl ?_; rintro x ⟨u, rfl⟩))) | (apply OpW.k_call; first | (apply OpW.k_callf 9; exact OpW.callV k2 (Evs.cons rfl Evs.nil))) | refine goR ?_ | refine goP ?_ | apply PSeq.cons | apply PSeq.yes rfl rfl rfl | exact goW | fail)
  all_goals rename Nat => b8
  · have k3 := meterFault_fn c t (f+1)
    by_cases hm2 : mtrE c t (f+1) ≠ 0
    · have k4 := newLogX_bad c t (f+1) hm2
      generalize mtrE c t (f+1) = e at *
      repeat' (first | refine goH ?_ | refine goV ?_ | refine goB (fun b => ?_) | refine goG ?_ | (refine Ops.k_guard ?_; first | (refine Ops.guard_dec rfl rfl (fun hc => ?_) (fun hc => ?_) <;> try (exfalso; omega)) | refine Ops.guard_split rfl rfl (fun hc => ?_) (fun hc => ?_)) | refine goI ?_ | (refine Cw.k_cond ?_; first | (refine Cw.cond_dec rfl (fun hc => ?_) (fun hc => ?_) <;> try (exfalso; omega)) | refine Cw.cond_bool rfl (fun hc => ?_) (fun hc => ?_)) | (refine Ops.k_calla ?_; first | (refine Ops.k_callf 24 ?_; refine Ops.callV k4 (Evs.cons rfl Evs.nil) rfl ?_) | (refine Ops.k_callf 9 ?_; refine Ops.callV k3 (Evs.cons rfl Evs.nil) rfl ?_) | (refine Ops.k_callf 17 ?_; refine Ops.callV k0 Evs.nil rfl ?_)) | (apply OpW.k_call; first | (apply OpW.k_callf 24; exact OpW.callV k4 (Evs.cons rfl Evs.nil)) | (apply OpW.k_callf 9; exact OpW.callV k3 (Evs.cons rfl Evs.nil)) | (apply OpW.k_callf 17; exact OpW.callV k0 Evs.nil)) | refine goR ?_ | refine goP ?_ | apply PSeq.cons | apply PSeq.yes rfl rfl rfl | exact goW | fail)
      all_goals first | exact Fin.ret Ent.refl (Outs.one rfl rfl) (congrArg Tr.bool (decide_eq_true rfl)) | exact Fin.ret Ent.refl (Outs.one rfl rfl) rfl
    have hm20 : mtrE c t (f+1) = 0 := by omega
    have k4 := newLogX_fn c t (f+1) hm20
    rw [hm20] at k3
    refine Ops.k_calla ?_
    refine Ops.call k4 (Evs.cons rfl Evs.nil) goPm rfl ?_
    rintro x cs' ⟨b9, rfl, rfl⟩
    clear k4 hm2 k2
    repeat' (first | refine goH ?_ | refine goV ?_ | refine goB (fun b => ?_) | refine goG ?_ | (refine Ops.k_guard ?_; first | (refine Ops.guard_dec rfl rfl (fun hc => ?_) (fun hc => ?_) <;> try (exfalso; omega)) | refine Ops.guard_split rfl rfl (fun hc => ?_) (fun hc => ?_)) | refine goI ?_ | (refine Cw.k_cond ?_; first | (refine Cw.cond_dec rfl (fun hc => ?_) (fun hc => ?_) <;> try (exfalso; omega)) | refine Cw.cond_bool rfl (fun hc => ?_) (fun hc => ?_)) | (refine Ops.k_calla ?_; first | (refine Ops.k_callf 9 ?_; refine Ops.callV k3 (Evs.cons rfl Evs.nil) rfl ?_)) | (apply OpW.k_call; first | (apply OpW.k_callf 9; exact OpW.callV k3 (Evs.cons rfl Evs.nil))) | fail)
    first | refine Cw.region_YP (fun ξ S => Chunk.strm 25 bs (intRows xs) 11 :: Chunk.box b4 27 [.int c, .int t, .int f] :: Chunk.box b8 27 [.int c, .int t, .int (f+1)] :: logX b5 c t f none 0 0 :: logX b9 c t (f+1) none 0 0 :: (stg (S 1) [] [logY (blk (ξ 1)) c t f none 0 0] ++ (stg (S 3) [] [logY (blk (ξ 3)) c t (f+1) none 0 0] ++ []))) rfl (by decide +kernel) rfl ((fun (ξ : Nat → Value) (S : Nat → Bool) => Chunk.strm 25 bs (intRows xs) 11 :: Chunk.box b4 27 [.int c, .int t, .int f] :: Chunk.box b8 27 [.int c, .int t, .int (f+1)] :: logX b5 c t f none 0 0 :: logX b9 c t (f+1) none 0 0 :: (stg (S 1) [] [logY (blk (ξ 1)) c t f none 0 0] ++ (stg (S 3) [] [logY (blk (ξ 3)) c t (f+1) none 0 0] ++ []))) (fun _ => undef) (fun _ => false)) (by simp only [upd_same, updD_same, upd_ne, updD_ne, ne_eq, Nat.reduceEqDiff, not_false_eq_true, stg_t, stg_f, vAd_s, vCap_s, blk_p, List.cons_append, List.nil_append, b2n_t, b2n_f]; exact goXm) (fun _ => rfl) ?_ | fail
    apply YSeq.w (by intro _ _ _; rfl)
    · intro ξ S h1 h2 h3 h4
      have hN0_1 := closed_false h1 h3 (k := 1) rfl (by decide)
      have hN0_3 := closed_false hN0_1 h3 (k := 3) rfl (by decide)
      try simp only [upd_same, updD_same, upd_ne, updD_ne, ne_eq, Nat.reduceEqDiff, not_false_eq_true, stg_t, stg_f, vAd_s, vCap_s, blk_p, List.cons_append, List.nil_append, b2n_t, b2n_f, hN0_1, hN0_3]
      exact goW
    · intro ξ v; rfl
    · intro ξ k v S h3 hn hk
      first
      | rfl
    apply YSeq.callP (fun b => logY b c t f none 0 0)
    · intro ξ S h1 h2 h3 h4
      have hN1_3 := closed_false h1 h3 (k := 3) rfl (by decide)
      simp only [upd_same, updD_same, upd_ne, updD_ne, ne_eq, Nat.reduceEqDiff, not_false_eq_true, stg_t, stg_f, vAd_s, vCap_s, blk_p, List.cons_append, List.nil_append, b2n_t, b2n_f, h1, hN1_3]
      refine ⟨_, (newLogY_fn c t f), (Evs.cons rfl Evs.nil), fun b => ?_⟩
      try simp only [upd_same, updD_same, upd_ne, updD_ne, ne_eq, Nat.reduceEqDiff, not_false_eq_true, stg_t, stg_f, vAd_s, vCap_s, blk_p, List.cons_append, List.nil_append, b2n_t, b2n_f, h1, hN1_3]
      exact goXm
    apply YSeq.w (by intro _ _ _; rfl)
    · intro ξ S h1 h2 h3 h4
      have hN2_3 := closed_false h1 h3 (k := 3) rfl (by decide)
      try simp only [upd_same, updD_same, upd_ne, updD_ne, ne_eq, Nat.reduceEqDiff, not_false_eq_true, stg_t, stg_f, vAd_s, vCap_s, blk_p, List.cons_append, List.nil_append, b2n_t, b2n_f, hN2_3]
      exact goW
    · intro ξ v; rfl
    · intro ξ k v S h3 hn hk
      first
      | rfl
    apply YSeq.callP (fun b => logY b c t (f+1) none 0 0)
    · intro ξ S h1 h2 h3 h4
      have hY3_1 : S 1 = true := h2 1 (by decide)
      simp only [upd_same, updD_same, upd_ne, updD_ne, ne_eq, Nat.reduceEqDiff, not_false_eq_true, stg_t, stg_f, vAd_s, vCap_s, blk_p, List.cons_append, List.nil_append, b2n_t, b2n_f, hY3_1, h1]
      refine ⟨_, (newLogY_fn c t (f+1)), (Evs.cons rfl Evs.nil), fun b => ?_⟩
      try simp only [upd_same, updD_same, upd_ne, updD_ne, ne_eq, Nat.reduceEqDiff, not_false_eq_true, stg_t, stg_f, vAd_s, vCap_s, blk_p, List.cons_append, List.nil_append, b2n_t, b2n_f, hY3_1, h1]
      exact goXm
    apply YSeq.w (by intro _ _ _; rfl)
    · intro ξ S h1 h2 h3 h4
      have hY4_1 : S 1 = true := h2 1 (by decide)
      have hY4_3 : S 3 = true := h2 3 (by decide)
      try simp only [upd_same, updD_same, upd_ne, updD_ne, ne_eq, Nat.reduceEqDiff, not_false_eq_true, stg_t, stg_f, vAd_s, vCap_s, blk_p, List.cons_append, List.nil_append, b2n_t, b2n_f, hY4_1, hY4_3]
      exact goW
    · intro ξ v; rfl
    · intro ξ k v S h3 hn hk
      first
      | rfl
      | skip
        have hY4_1 : S 1 = true := h3 4 _ rfl hn 1 (by decide)
        have hY4_3 : S 3 = true := h3 4 _ rfl hn 3 (by decide)
        simp only [upd_S hY4_1 hk, upd_S hY4_3 hk]
    apply YSeq.w (by intro _ _ _; rfl)
    · intro ξ S h1 h2 h3 h4
      have hY5_1 : S 1 = true := h2 1 (by decide)
      have hY5_3 : S 3 = true := h2 3 (by decide)
      try simp only [upd_same, updD_same, upd_ne, updD_ne, ne_eq, Nat.reduceEqDiff, not_false_eq_true, stg_t, stg_f, vAd_s, vCap_s, blk_p, List.cons_append, List.nil_append, b2n_t, b2n_f, hY5_1, hY5_3]
      exact goW
    · intro ξ v; rfl
    · intro ξ k v S h3 hn hk
      first
      | rfl
      | skip
        have hY5_1 : S 1 = true := h3 5 _ rfl hn 1 (by decide)
        have hY5_3 : S 3 = true := h3 5 _ rfl hn 3 (by decide)
        simp only [upd_S hY5_1 hk, upd_S hY5_3 hk]
    refine YSeq.nil fun ξ hf => ?_
    refine ⟨[(3, _), (4, _), (5, _), (9, _), (12, _), (13, _)], _, Ent.trans (Ent.eqc rfl (by simp only [upd_same, updD_same, upd_ne, updD_ne, ne_eq, Nat.reduceEqDiff, not_false_eq_true, stg_t, stg_f, vAd_s, vCap_s, blk_p, List.cons_append, List.nil_append, b2n_t, b2n_f, ownV, slV, ptV] <;> rfl)) (Ent.sub goSub), ?_⟩
    clear hf
    generalize blk (ξ 1) = b75
    generalize blk (ξ 3) = b77
    refine Then.norm ?_
    repeat' (first | refine goH ?_ | refine goV ?_ | refine goB (fun b => ?_) | refine goG ?_ | (refine Ops.k_guard ?_; first | (refine Ops.guard_dec rfl rfl (fun hc => ?_) (fun hc => ?_) <;> try (exfalso; omega)) | refine Ops.guard_split rfl rfl (fun hc => ?_) (fun hc => ?_)) | refine goI ?_ | (refine Cw.k_cond ?_; first | (refine Cw.cond_dec rfl (fun hc => ?_) (fun hc => ?_) <;> try (exfalso; omega)) | refine Cw.cond_bool rfl (fun hc => ?_) (fun hc => ?_)) | (refine Ops.k_calla ?_; first | (refine Ops.k_callf 27 ?_; (refine Ops.callG (next_gen _ (by omega)) (Evs.cons rfl (Evs.cons rfl Evs.nil)) goPk (by omega) rfl ?_; rintro r ⟨a, rfl, hva⟩; unfold InRange at hva))) | refine goR ?_ | refine goP ?_ | apply PSeq.cons | apply PSeq.yes rfl rfl rfl | exact goW | fail)
    refine Cw.loopI [(3, _), (4, _), (5, _), (9, _), (12, _), (13, _), (79, _)] _ (fun q e cc => ∃ (k m : Nat) (S U SO UO : List Rdg) (ad1 ad2 ad3 ad4 : Option Addr) (c1 c2 c3 c4 : Nat), q = 14 - k ∧ (k ≤ 14 ∧ m ≤ 12 + 20 * k ∧ Rl c t f S U ∧ Rl c t (f+1) SO UO) ∧ e = [(80, .int k)] ∧ cc = [logX b5 c t f ad1 S.length c1, ownR ad1 c1 S, logX b9 c t (f+1) ad2 SO.length c2, ownR ad2 c2 SO, logY b75 c t f ad3 U.length c3, ownR ad3 c3 U, logY b77 c t (f+1) ad4 UO.length c4, ownR ad4 c4 UO, Chunk.strm 25 bs (intRows xs) m])
      ⟨_, _, _, Ent.trans (Ent.nil 2 30) (Ent.trans (Ent.nil 2 30) (Ent.trans (Ent.nil 2 30) (Ent.trans (Ent.nil 2 30) (Ent.mkP goSub goPm)))), 0, 12, [], [], [], [], none, none, none, none, 0, 0, 0, 0, rfl, ⟨by omega, by omega, Rl.nil c t f, Rl.nil c t (f+1)⟩, rfl, rfl⟩ ?_
    rintro _ _ _ ⟨k, m, S, U, SO, UO, ad1, ad2, ad3, ad4, c1, c2, c3, c4, rfl, ⟨hk, hmm, hR, hRO⟩, rfl, rfl⟩
    by_cases hka : (k : Int) < a
    rotate_left
    · repeat' (first | refine goH ?_ | refine goV ?_ | refine goB (fun b => ?_) | refine goG ?_ | (refine Ops.k_guard ?_; first | (refine Ops.guard_dec rfl rfl (fun hc => ?_) (fun hc => ?_) <;> try (exfalso; omega)) | refine Ops.guard_split rfl rfl (fun hc => ?_) (fun hc => ?_)) | refine goI ?_ | (refine Cw.k_cond ?_; first | (refine Cw.cond_dec rfl (fun hc => ?_) (fun hc => ?_) <;> try (exfalso; omega)) | refine Cw.cond_bool rfl (fun hc => ?_) (fun hc => ?_)) | (refine Ops.k_calla ?_; first | (refine Ops.k_callf 17 ?_; refine Ops.callV k0 Evs.nil rfl ?_)) | (apply OpW.k_call; first | (apply OpW.k_callf 17; exact OpW.callV k0 Evs.nil)) | refine goR ?_ | refine goP ?_ | apply PSeq.cons | apply PSeq.yes rfl rfl rfl | exact goW | fail)
      exact Fin.ret Ent.refl (Outs.one rfl rfl) rfl
    repeat' (first | refine goH ?_ | refine goV ?_ | refine goB (fun b => ?_) | refine goG ?_ | (refine Ops.k_guard ?_; first | (refine Ops.guard_dec rfl rfl (fun hc => ?_) (fun hc => ?_) <;> try (exfalso; omega)) | refine Ops.guard_split rfl rfl (fun hc => ?_) (fun hc => ?_)) | refine goI ?_ | (refine Cw.k_cond ?_; first | (refine Cw.cond_dec rfl (fun hc => ?_) (fun hc => ?_) <;> try (exfalso; omega)) | refine Cw.cond_bool rfl (fun hc => ?_) (fun hc => ?_)) | (refine Ops.k_calla ?_; first | (refine Ops.k_callf 6 ?_; (refine Ops.callG (reading_gen2 c t f ht) (Evs.cons rfl (Evs.cons rfl Evs.nil)) goPk (by omega) rfl ?_; rintro x ⟨r, rfl, hrv, hrt⟩)) | (refine Ops.k_callf 27 ?_; (refine Ops.callG (next_gen _ (by omega)) (Evs.cons rfl (Evs.cons rfl Evs.nil)) goPk (by omega) rfl ?_; rintro x ⟨v, rfl, hv⟩; unfold InRange at hv))) | refine goR ?_ | refine goP ?_ | apply PSeq.cons | apply PSeq.yes rfl rfl rfl | exact goW | fail)
    all_goals
      obtain ⟨hl1, hl2⟩ := hR.len
      obtain ⟨hl3, hl4⟩ := hRO.len
      obtain ⟨hv1, hv2⟩ := hR.vs
      obtain ⟨hv3, hv4⟩ := hRO.vs
    · have q1 := joinX_fn (bx := b5) (bo := b9) (c := c) (t := t) (f := f) (c2 := c) (t2 := t) (f2 := (f+1)) (ad := ad1) (ad2 := ad2) (cap := c1) (cap2 := c2) S SO hR.srt (srt_nd hRO.srt) (by omega) (by omega) rfl rfl hv1 hv3
      have q2 := joinY_fn (bx := b75) (bo := b77) (c := c) (t := t) (f := f) (c2 := c) (t2 := t) (f2 := (f+1)) (ad := ad3) (ad2 := ad4) (cap := c3) (cap2 := c4) U UO hRO.nd (by omega) (by omega) rfl rfl ht hv2 hv4 (fun he r hr => by have := (hRO.ok r hr).1; rw [← he.2.2] at this; exact this)
      have hX := hR.join hRO
      rw [hR.joinO hRO] at q1
      generalize joinO c t f c t (f+1) U UO = jo at *
      generalize joinS c t f c t (f+1) S SO = S2 at *
      generalize joinU c t f c t (f+1) U UO = U2 at *
      have hl5 := hX.len
      have hv := hX.vs
      have k5 := fun (ad : Option Addr) (cap : Nat) => readingsX_fn (bx := b5) (c := c) (t := t) (f := f) (ad := ad) (cap := cap) S2 (by omega) rfl hv.1
      have k6 := fun (ad : Option Addr) (cap : Nat) => readingsY_fn (bx := b75) (c := c) (t := t) (f := f) (ad := ad) (cap := cap) U2 (D := S2) (by omega) rfl hv.2 ht (hX.srt0 hm0)
      have k7 := sameReadings_fn S2 (by omega) hv.1
      clear hv1 hv2 hv3 hv4 hl1 hl2 hl3 hl4 hR
      repeat' (first | refine goH ?_ | refine goV ?_ | refine goB (fun b => ?_) | (refine Ops.k_b_neq ?_; first | refine Ops.neqB_f Try.underlying4 rfl rfl rfl rfl ?_) | refine goG ?_ | (refine Ops.k_guard ?_; first | (refine Ops.guard_dec rfl rfl (fun hc => ?_) (fun hc => ?_) <;> try (exfalso; omega)) | refine Ops.guard_split rfl rfl (fun hc => ?_) (fun hc => ?_)) | refine goI ?_ | (refine Cw.k_cond ?_; first | (refine Cw.cond_dec rfl (fun hc => ?_) (fun hc => ?_) <;> try (exfalso; omega)) | refine Cw.cond_bool rfl (fun hc => ?_) (fun hc => ?_)) | (refine Ops.k_calla ?_; first | (refine Ops.k_callf 28 ?_; (refine Ops.call q1 (Evs.cons rfl (Evs.cons rfl Evs.nil)) goPm rfl ?_; rintro y cs' ⟨ad5, cap5, rfl, rfl⟩)) | (refine Ops.k_callf 29 ?_; (refine Ops.call q2 (Evs.cons rfl (Evs.cons rfl Evs.nil)) goPm rfl ?_; rintro y cs' ⟨ad6, cap6, rfl, rfl⟩)) | (refine Ops.k_callf 32 ?_; (refine Ops.call (k5 _ _) (Evs.cons rfl Evs.nil) goPm rfl ?_; rintro y cs' ⟨rfl, rfl⟩)) | (refine Ops.k_callf 33 ?_; (refine Ops.call (k6 _ _) (Evs.cons rfl Evs.nil) goPm rfl ?_; rintro y cs' ⟨rfl, rfl⟩)) | (refine Ops.k_callf 18 ?_; refine Ops.callV k7 (Evs.cons rfl (Evs.cons rfl Evs.nil)) rfl ?_)) | (apply OpW.k_call; first | (apply OpW.k_callf 18; exact OpW.callV k7 (Evs.cons rfl (Evs.cons rfl Evs.nil)))) | refine goR ?_ | refine goP ?_ | apply PSeq.cons | apply PSeq.yes rfl rfl rfl | exact goW | fail)
      exact ⟨_, _, _, (Ent.mk goSub goTk), ⟨k + 1, _, S2, U2, SO, UO, _, _, _, _, _, _, _, _, rfl, ⟨by omega, by omega, hX, hRO⟩, rfl, rfl⟩, by omega⟩
    · have q1 := putX_fn (bx := b9) (c := c) (t := t) (f := (f+1)) (ad := ad2) (cap := c2) SO r hRO.srt (by omega) rfl ht (by omega) hv3
      have q2 := putY_fn (bx := b77) (c := c) (t := t) (f := (f+1)) (ad := ad4) (cap := c4) UO r (by omega) rfl ht (by omega) hv4
      have hXO := hRO.put hrt hrv
      have hX := hR
      rw [hRO.putO] at q1
      generalize putS (rdgE c t (f+1) r) SO r = S2 at *
      generalize putU (rdgE c t (f+1) r) UO r = U2 at *
      generalize putO (rdgE c t (f+1) r) UO r = po at *
      have hl5 := hX.len
      have hv := hX.vs
      have k5 := fun (ad : Option Addr) (cap : Nat) => readingsX_fn (bx := b5) (c := c) (t := t) (f := f) (ad := ad) (cap := cap) S (by omega) rfl hv.1
      have k6 := fun (ad : Option Addr) (cap : Nat) => readingsY_fn (bx := b75) (c := c) (t := t) (f := f) (ad := ad) (cap := cap) U (D := S) (by omega) rfl hv.2 ht (hX.srt0 hm0)
      have k7 := sameReadings_fn S (by omega) hv.1
      clear hv1 hv2 hv3 hv4 hl1 hl2 hl3 hl4 hR hRO
      repeat' (first | refine goH ?_ | refine goV ?_ | refine goB (fun b => ?_) | (refine Ops.k_b_neq ?_; first | refine Ops.neqB_f Try.underlying4 rfl rfl rfl rfl ?_) | refine goG ?_ | (refine Ops.k_guard ?_; first | (refine Ops.guard_dec rfl rfl (fun hc => ?_) (fun hc => ?_) <;> try (exfalso; omega)) | refine Ops.guard_split rfl rfl (fun hc => ?_) (fun hc => ?_)) | refine goI ?_ | (refine Cw.k_cond ?_; first | (refine Cw.cond_dec rfl (fun hc => ?_) (fun hc => ?_) <;> try (exfalso; omega)) | refine Cw.cond_bool rfl (fun hc => ?_) (fun hc => ?_)) | (refine Ops.k_calla ?_; first | (refine Ops.k_callf 30 ?_; (refine Ops.call q1 (Evs.cons rfl (Evs.cons rfl Evs.nil)) goPm rfl ?_; rintro y cs' ⟨ad5, cap5, rfl, rfl⟩)) | (refine Ops.k_callf 31 ?_; (refine Ops.call q2 (Evs.cons rfl (Evs.cons rfl Evs.nil)) goPm rfl ?_; rintro y cs' ⟨ad6, cap6, rfl, rfl⟩)) | (refine Ops.k_callf 32 ?_; (refine Ops.call (k5 _ _) (Evs.cons rfl Evs.nil) goPm rfl ?_; rintro y cs' ⟨rfl, rfl⟩)) | (refine Ops.k_callf 33 ?_; (refine Ops.call (k6 _ _) (Evs.cons rfl Evs.nil) goPm rfl ?_; rintro y cs' ⟨rfl, rfl⟩)) | (refine Ops.k_callf 18 ?_; refine Ops.callV k7 (Evs.cons rfl (Evs.cons rfl Evs.nil)) rfl ?_)) | (apply OpW.k_call; first | (apply OpW.k_callf 18; exact OpW.callV k7 (Evs.cons rfl (Evs.cons rfl Evs.nil)))) | refine goR ?_ | refine goP ?_ | apply PSeq.cons | apply PSeq.yes rfl rfl rfl | exact goW | fail)
      exact ⟨_, _, _, (Ent.mk goSub goTk), ⟨k + 1, _, S, U, S2, U2, _, _, _, _, _, _, _, _, rfl, ⟨by omega, by omega, hX, hXO⟩, rfl, rfl⟩, by omega⟩
    · have q1 := putX_fn (bx := b5) (c := c) (t := t) (f := f) (ad := ad1) (cap := c1) S r hR.srt (by omega) rfl ht (by omega) hv1
      have q2 := putY_fn (bx := b75) (c := c) (t := t) (f := f) (ad := ad3) (cap := c3) U r (by omega) rfl ht (by omega) hv2
      have hX := hR.put hrt hrv
      rw [hR.putO] at q1
      generalize putS (rdgE c t f r) S r = S2 at *
      generalize putU (rdgE c t f r) U r = U2 at *
      generalize putO (rdgE c t f r) U r = po at *
      have hl5 := hX.len
      have hv := hX.vs
      have k5 := fun (ad : Option Addr) (cap : Nat) => readingsX_fn (bx := b5) (c := c) (t := t) (f := f) (ad := ad) (cap := cap) S2 (by omega) rfl hv.1
      have k6 := fun (ad : Option Addr) (cap : Nat) => readingsY_fn (bx := b75) (c := c) (t := t) (f := f) (ad := ad) (cap := cap) U2 (D := S2) (by omega) rfl hv.2 ht (hX.srt0 hm0)
      have k7 := sameReadings_fn S2 (by omega) hv.1
      clear hv1 hv2 hv3 hv4 hl1 hl2 hl3 hl4 hR
      repeat' (first | refine goH ?_ | refine goV ?_ | refine goB (fun b => ?_) | (refine Ops.k_b_neq ?_; first | refine Ops.neqB_f Try.underlying4 rfl rfl rfl rfl ?_) | refine goG ?_ | (refine Ops.k_guard ?_; first | (refine Ops.guard_dec rfl rfl (fun hc => ?_) (fun hc => ?_) <;> try (exfalso; omega)) | refine Ops.guard_split rfl rfl (fun hc => ?_) (fun hc => ?_)) | refine goI ?_ | (refine Cw.k_cond ?_; first | (refine Cw.cond_dec rfl (fun hc => ?_) (fun hc => ?_) <;> try (exfalso; omega)) | refine Cw.cond_bool rfl (fun hc => ?_) (fun hc => ?_)) | (refine Ops.k_calla ?_; first | (refine Ops.k_callf 30 ?_; (refine Ops.call q1 (Evs.cons rfl (Evs.cons rfl Evs.nil)) goPm rfl ?_; rintro y cs' ⟨ad5, cap5, rfl, rfl⟩)) | (refine Ops.k_callf 31 ?_; (refine Ops.call q2 (Evs.cons rfl (Evs.cons rfl Evs.nil)) goPm rfl ?_; rintro y cs' ⟨ad6, cap6, rfl, rfl⟩)) | (refine Ops.k_callf 32 ?_; (refine Ops.call (k5 _ _) (Evs.cons rfl Evs.nil) goPm rfl ?_; rintro y cs' ⟨rfl, rfl⟩)) | (refine Ops.k_callf 33 ?_; (refine Ops.call (k6 _ _) (Evs.cons rfl Evs.nil) goPm rfl ?_; rintro y cs' ⟨rfl, rfl⟩)) | (refine Ops.k_callf 18 ?_; refine Ops.callV k7 (Evs.cons rfl (Evs.cons rfl Evs.nil)) rfl ?_)) | (apply OpW.k_call; first | (apply OpW.k_callf 18; exact OpW.callV k7 (Evs.cons rfl (Evs.cons rfl Evs.nil)))) | refine goR ?_ | refine goP ?_ | apply PSeq.cons | apply PSeq.yes rfl rfl rfl | exact goW | fail)
      exact ⟨_, _, _, (Ent.mk goSub goTk), ⟨k + 1, _, S2, U2, SO, UO, _, _, _, _, _, _, _, _, rfl, ⟨by omega, by omega, hX, hRO⟩, rfl, rfl⟩, by omega⟩
  · have k3 := meterFault_fn c t f
    by_cases hm2 : mtrE c t f ≠ 0
    · have k4 := newLogX_bad c t f hm2
      generalize mtrE c t f = e at *
      repeat' (first | refine goH ?_ | refine goV ?_ | refine goB (fun b => ?_) | refine goG ?_ | (refine Ops.k_guard ?_; first | (refine Ops.guard_dec rfl rfl (fun hc => ?_) (fun hc => ?_) <;> try (exfalso; omega)) | refine Ops.guard_split rfl rfl (fun hc => ?_) (fun hc => ?_)) | refine goI ?_ | (refine Cw.k_cond ?_; first | (refine Cw.cond_dec rfl (fun hc => ?_) (fun hc => ?_) <;> try (exfalso; omega)) | refine Cw.cond_bool rfl (fun hc => ?_) (fun hc => ?_)) | (refine Ops.k_calla ?_; first | (refine Ops.k_callf 24 ?_; refine Ops.callV k4 (Evs.cons rfl Evs.nil) rfl ?_) | (refine Ops.k_callf 9 ?_; refine Ops.callV k3 (Evs.cons rfl Evs.nil) rfl ?_) | (refine Ops.k_callf 17 ?_; refine Ops.callV k0 Evs.nil rfl ?_)) | (apply OpW.k_call; first | (apply OpW.k_callf 24; exact OpW.callV k4 (Evs.cons rfl Evs.nil)) | (apply OpW.k_callf 9; exact OpW.callV k3 (Evs.cons rfl Evs.nil)) | (apply OpW.k_callf 17; exact OpW.callV k0 Evs.nil)) | refine goR ?_ | refine goP ?_ | apply PSeq.cons | apply PSeq.yes rfl rfl rfl | exact goW | fail)
      all_goals first | exact Fin.ret Ent.refl (Outs.one rfl rfl) (congrArg Tr.bool (decide_eq_true rfl)) | exact Fin.ret Ent.refl (Outs.one rfl rfl) rfl
    have hm20 : mtrE c t f = 0 := by omega
    have k4 := newLogX_fn c t f hm20
    rw [hm20] at k3
    refine Ops.k_calla ?_
    refine Ops.call k4 (Evs.cons rfl Evs.nil) goPm rfl ?_
    rintro x cs' ⟨b9, rfl, rfl⟩
    clear k4 hm2 k2
    repeat' (first | refine goH ?_ | refine goV ?_ | refine goB (fun b => ?_) | refine goG ?_ | (refine Ops.k_guard ?_; first | (refine Ops.guard_dec rfl rfl (fun hc => ?_) (fun hc => ?_) <;> try (exfalso; omega)) | refine Ops.guard_split rfl rfl (fun hc => ?_) (fun hc => ?_)) | refine goI ?_ | (refine Cw.k_cond ?_; first | (refine Cw.cond_dec rfl (fun hc => ?_) (fun hc => ?_) <;> try (exfalso; omega)) | refine Cw.cond_bool rfl (fun hc => ?_) (fun hc => ?_)) | (refine Ops.k_calla ?_; first | (refine Ops.k_callf 9 ?_; refine Ops.callV k3 (Evs.cons rfl Evs.nil) rfl ?_)) | (apply OpW.k_call; first | (apply OpW.k_callf 9; exact OpW.callV k3 (Evs.cons rfl Evs.nil))) | fail)
    first | refine Cw.region_YP (fun ξ S => Chunk.strm 25 bs (intRows xs) 11 :: Chunk.box b4 27 [.int c, .int t, .int f] :: Chunk.box b8 27 [.int c, .int t, .int f] :: logX b5 c t f none 0 0 :: logX b9 c t f none 0 0 :: (stg (S 1) [] [logY (blk (ξ 1)) c t f none 0 0] ++ (stg (S 3) [] [logY (blk (ξ 3)) c t f none 0 0] ++ []))) rfl (by decide +kernel) rfl ((fun (ξ : Nat → Value) (S : Nat → Bool) => Chunk.strm 25 bs (intRows xs) 11 :: Chunk.box b4 27 [.int c, .int t, .int f] :: Chunk.box b8 27 [.int c, .int t, .int f] :: logX b5 c t f none 0 0 :: logX b9 c t f none 0 0 :: (stg (S 1) [] [logY (blk (ξ 1)) c t f none 0 0] ++ (stg (S 3) [] [logY (blk (ξ 3)) c t f none 0 0] ++ []))) (fun _ => undef) (fun _ => false)) (by simp only [upd_same, updD_same, upd_ne, updD_ne, ne_eq, Nat.reduceEqDiff, not_false_eq_true, stg_t, stg_f, vAd_s, vCap_s, blk_p, List.cons_append, List.nil_append, b2n_t, b2n_f]; exact goXm) (fun _ => rfl) ?_ | fail
    apply YSeq.w (by intro _ _ _; rfl)
    · intro ξ S h1 h2 h3 h4
      have hN0_1 := closed_false h1 h3 (k := 1) rfl (by decide)
      have hN0_3 := closed_false hN0_1 h3 (k := 3) rfl (by decide)
      try simp only [upd_same, updD_same, upd_ne, updD_ne, ne_eq, Nat.reduceEqDiff, not_false_eq_true, stg_t, stg_f, vAd_s, vCap_s, blk_p, List.cons_append, List.nil_append, b2n_t, b2n_f, hN0_1, hN0_3]
      exact goW
    · intro ξ v; rfl
    · intro ξ k v S h3 hn hk
      first
      | rfl
    apply YSeq.callP (fun b => logY b c t f none 0 0)
    · intro ξ S h1 h2 h3 h4
      have hN1_3 := closed_false h1 h3 (k := 3) rfl (by decide)
      simp only [upd_same, updD_same, upd_ne, updD_ne, ne_eq, Nat.reduceEqDiff, not_false_eq_true, stg_t, stg_f, vAd_s, vCap_s, blk_p, List.cons_append, List.nil_append, b2n_t, b2n_f, h1, hN1_3]
      refine ⟨_, (newLogY_fn c t f), (Evs.cons rfl Evs.nil), fun b => ?_⟩
      try simp only [upd_same, updD_same, upd_ne, updD_ne, ne_eq, Nat.reduceEqDiff, not_false_eq_true, stg_t, stg_f, vAd_s, vCap_s, blk_p, List.cons_append, List.nil_append, b2n_t, b2n_f, h1, hN1_3]
      exact goXm
    apply YSeq.w (by intro _ _ _; rfl)
    · intro ξ S h1 h2 h3 h4
      have hN2_3 := closed_false h1 h3 (k := 3) rfl (by decide)
      try simp only [upd_same, updD_same, upd_ne, updD_ne, ne_eq, Nat.reduceEqDiff, not_false_eq_true, stg_t, stg_f, vAd_s, vCap_s, blk_p, List.cons_append, List.nil_append, b2n_t, b2n_f, hN2_3]
      exact goW
    · intro ξ v; rfl
    · intro ξ k v S h3 hn hk
      first
      | rfl
    apply YSeq.callP (fun b => logY b c t f none 0 0)
    · intro ξ S h1 h2 h3 h4
      have hY3_1 : S 1 = true := h2 1 (by decide)
      simp only [upd_same, updD_same, upd_ne, updD_ne, ne_eq, Nat.reduceEqDiff, not_false_eq_true, stg_t, stg_f, vAd_s, vCap_s, blk_p, List.cons_append, List.nil_append, b2n_t, b2n_f, hY3_1, h1]
      refine ⟨_, (newLogY_fn c t f), (Evs.cons rfl Evs.nil), fun b => ?_⟩
      try simp only [upd_same, updD_same, upd_ne, updD_ne, ne_eq, Nat.reduceEqDiff, not_false_eq_true, stg_t, stg_f, vAd_s, vCap_s, blk_p, List.cons_append, List.nil_append, b2n_t, b2n_f, hY3_1, h1]
      exact goXm
    apply YSeq.w (by intro _ _ _; rfl)
    · intro ξ S h1 h2 h3 h4
      have hY4_1 : S 1 = true := h2 1 (by decide)
      have hY4_3 : S 3 = true := h2 3 (by decide)
      try simp only [upd_same, updD_same, upd_ne, updD_ne, ne_eq, Nat.reduceEqDiff, not_false_eq_true, stg_t, stg_f, vAd_s, vCap_s, blk_p, List.cons_append, List.nil_append, b2n_t, b2n_f, hY4_1, hY4_3]
      exact goW
    · intro ξ v; rfl
    · intro ξ k v S h3 hn hk
      first
      | rfl
      | skip
        have hY4_1 : S 1 = true := h3 4 _ rfl hn 1 (by decide)
        have hY4_3 : S 3 = true := h3 4 _ rfl hn 3 (by decide)
        simp only [upd_S hY4_1 hk, upd_S hY4_3 hk]
    apply YSeq.w (by intro _ _ _; rfl)
    · intro ξ S h1 h2 h3 h4
      have hY5_1 : S 1 = true := h2 1 (by decide)
      have hY5_3 : S 3 = true := h2 3 (by decide)
      try simp only [upd_same, updD_same, upd_ne, updD_ne, ne_eq, Nat.reduceEqDiff, not_false_eq_true, stg_t, stg_f, vAd_s, vCap_s, blk_p, List.cons_append, List.nil_append, b2n_t, b2n_f, hY5_1, hY5_3]
      exact goW
    · intro ξ v; rfl
    · intro ξ k v S h3 hn hk
      first
      | rfl
      | skip
        have hY5_1 : S 1 = true := h3 5 _ rfl hn 1 (by decide)
        have hY5_3 : S 3 = true := h3 5 _ rfl hn 3 (by decide)
        simp only [upd_S hY5_1 hk, upd_S hY5_3 hk]
    refine YSeq.nil fun ξ hf => ?_
    refine ⟨[(3, _), (4, _), (5, _), (9, _), (12, _), (13, _)], _, Ent.trans (Ent.eqc rfl (by simp only [upd_same, updD_same, upd_ne, updD_ne, ne_eq, Nat.reduceEqDiff, not_false_eq_true, stg_t, stg_f, vAd_s, vCap_s, blk_p, List.cons_append, List.nil_append, b2n_t, b2n_f, ownV, slV, ptV] <;> rfl)) (Ent.sub goSub), ?_⟩
    clear hf
    generalize blk (ξ 1) = b75
    generalize blk (ξ 3) = b77
    refine Then.norm ?_
    repeat' (first | refine goH ?_ | refine goV ?_ | refine goB (fun b => ?_) | refine goG ?_ | (refine Ops.k_guard ?_; first | (refine Ops.guard_dec rfl rfl (fun hc => ?_) (fun hc => ?_) <;> try (exfalso; omega)) | refine Ops.guard_split rfl rfl (fun hc => ?_) (fun hc => ?_)) | refine goI ?_ | (refine Cw.k_cond ?_; first | (refine Cw.cond_dec rfl (fun hc => ?_) (fun hc => ?_) <;> try (exfalso; omega)) | refine Cw.cond_bool rfl (fun hc => ?_) (fun hc => ?_)) | (refine Ops.k_calla ?_; first | (refine Ops.k_callf 27 ?_; (refine Ops.callG (next_gen _ (by omega)) (Evs.cons rfl (Evs.cons rfl Evs.nil)) goPk (by omega) rfl ?_; rintro r ⟨a, rfl, hva⟩; unfold InRange at hva))) | refine goR ?_ | refine goP ?_ | apply PSeq.cons | apply PSeq.yes rfl rfl rfl | exact goW | fail)
    refine Cw.loopI [(3, _), (4, _), (5, _), (9, _), (12, _), (13, _), (79, _)] _ (fun q e cc => ∃ (k m : Nat) (S U SO UO : List Rdg) (ad1 ad2 ad3 ad4 : Option Addr) (c1 c2 c3 c4 : Nat), q = 14 - k ∧ (k ≤ 14 ∧ m ≤ 12 + 20 * k ∧ Rl c t f S U ∧ Rl c t f SO UO) ∧ e = [(80, .int k)] ∧ cc = [logX b5 c t f ad1 S.length c1, ownR ad1 c1 S, logX b9 c t f ad2 SO.length c2, ownR ad2 c2 SO, logY b75 c t f ad3 U.length c3, ownR ad3 c3 U, logY b77 c t f ad4 UO.length c4, ownR ad4 c4 UO, Chunk.strm 25 bs (intRows xs) m])
      ⟨_, _, _, Ent.trans (Ent.nil 2 30) (Ent.trans (Ent.nil 2 30) (Ent.trans (Ent.nil 2 30) (Ent.trans (Ent.nil 2 30) (Ent.mkP goSub goPm)))), 0, 12, [], [], [], [], none, none, none, none, 0, 0, 0, 0, rfl, ⟨by omega, by omega, Rl.nil c t f, Rl.nil c t f⟩, rfl, rfl⟩ ?_
    rintro _ _ _ ⟨k, m, S, U, SO, UO, ad1, ad2, ad3, ad4, c1, c2, c3, c4, rfl, ⟨hk, hmm, hR, hRO⟩, rfl, rfl⟩
    by_cases hka : (k : Int) < a
    rotate_left
    · repeat' (first | refine goH ?_ | refine goV ?_ | refine goB (fun b => ?_) | refine goG ?_ | (refine Ops.k_guard ?_; first | (refine Ops.guard_dec rfl rfl (fun hc => ?_) (fun hc => ?_) <;> try (exfalso; omega)) | refine Ops.guard_split rfl rfl (fun hc => ?_) (fun hc => ?_)) | refine goI ?_ | (refine Cw.k_cond ?_; first | (refine Cw.cond_dec rfl (fun hc => ?_) (fun hc => ?_) <;> try (exfalso; omega)) | refine Cw.cond_bool rfl (fun hc => ?_) (fun hc => ?_)) | (refine Ops.k_calla ?_; first | (refine Ops.k_callf 17 ?_; refine Ops.callV k0 Evs.nil rfl ?_)) | (apply OpW.k_call; first | (apply OpW.k_callf 17; exact OpW.callV k0 Evs.nil)) | refine goR ?_ | refine goP ?_ | apply PSeq.cons | apply PSeq.yes rfl rfl rfl | exact goW | fail)
      exact Fin.ret Ent.refl (Outs.one rfl rfl) rfl
    repeat' (first | refine goH ?_ | refine goV ?_ | refine goB (fun b => ?_) | refine goG ?_ | (refine Ops.k_guard ?_; first | (refine Ops.guard_dec rfl rfl (fun hc => ?_) (fun hc => ?_) <;> try (exfalso; omega)) | refine Ops.guard_split rfl rfl (fun hc => ?_) (fun hc => ?_)) | refine goI ?_ | (refine Cw.k_cond ?_; first | (refine Cw.cond_dec rfl (fun hc => ?_) (fun hc => ?_) <;> try (exfalso; omega)) | refine Cw.cond_bool rfl (fun hc => ?_) (fun hc => ?_)) | (refine Ops.k_calla ?_; first | (refine Ops.k_callf 6 ?_; (refine Ops.callG (reading_gen2 c t f ht) (Evs.cons rfl (Evs.cons rfl Evs.nil)) goPk (by omega) rfl ?_; rintro x ⟨r, rfl, hrv, hrt⟩)) | (refine Ops.k_callf 27 ?_; (refine Ops.callG (next_gen _ (by omega)) (Evs.cons rfl (Evs.cons rfl Evs.nil)) goPk (by omega) rfl ?_; rintro x ⟨v, rfl, hv⟩; unfold InRange at hv))) | refine goR ?_ | refine goP ?_ | apply PSeq.cons | apply PSeq.yes rfl rfl rfl | exact goW | fail)
    all_goals
      obtain ⟨hl1, hl2⟩ := hR.len
      obtain ⟨hl3, hl4⟩ := hRO.len
      obtain ⟨hv1, hv2⟩ := hR.vs
      obtain ⟨hv3, hv4⟩ := hRO.vs
    · have q1 := joinX_fn (bx := b5) (bo := b9) (c := c) (t := t) (f := f) (c2 := c) (t2 := t) (f2 := f) (ad := ad1) (ad2 := ad2) (cap := c1) (cap2 := c2) S SO hR.srt (srt_nd hRO.srt) (by omega) (by omega) rfl rfl hv1 hv3
      have q2 := joinY_fn (bx := b75) (bo := b77) (c := c) (t := t) (f := f) (c2 := c) (t2 := t) (f2 := f) (ad := ad3) (ad2 := ad4) (cap := c3) (cap2 := c4) U UO hRO.nd (by omega) (by omega) rfl rfl ht hv2 hv4 (fun he r hr => by have := (hRO.ok r hr).1; rw [← he.2.2] at this; exact this)
      have hX := hR.join hRO
      rw [hR.joinO hRO] at q1
      generalize joinO c t f c t f U UO = jo at *
      generalize joinS c t f c t f S SO = S2 at *
      generalize joinU c t f c t f U UO = U2 at *
      have hl5 := hX.len
      have hv := hX.vs
      have k5 := fun (ad : Option Addr) (cap : Nat) => readingsX_fn (bx := b5) (c := c) (t := t) (f := f) (ad := ad) (cap := cap) S2 (by omega) rfl hv.1
      have k6 := fun (ad : Option Addr) (cap : Nat) => readingsY_fn (bx := b75) (c := c) (t := t) (f := f) (ad := ad) (cap := cap) U2 (D := S2) (by omega) rfl hv.2 ht (hX.srt0 hm0)
      have k7 := sameReadings_fn S2 (by omega) hv.1
      clear hv1 hv2 hv3 hv4 hl1 hl2 hl3 hl4 hR
      repeat' (first | refine goH ?_ | refine goV ?_ | refine goB (fun b => ?_) | (refine Ops.k_b_neq ?_; first | refine Ops.neqB_f Try.underlying4 rfl rfl rfl rfl ?_) | refine goG ?_ | (refine Ops.k_guard ?_; first | (refine Ops.guard_dec rfl rfl (fun hc => ?_) (fun hc => ?_) <;> try (exfalso; omega)) | refine Ops.guard_split rfl rfl (fun hc => ?_) (fun hc => ?_)) | refine goI ?_ | (refine Cw.k_cond ?_; first | (refine Cw.cond_dec rfl (fun hc => ?_) (fun hc => ?_) <;> try (exfalso; omega)) | refine Cw.cond_bool rfl (fun hc => ?_) (fun hc => ?_)) | (refine Ops.k_calla ?_; first | (refine Ops.k_callf 28 ?_; (refine Ops.call q1 (Evs.cons rfl (Evs.cons rfl Evs.nil)) goPm rfl ?_; rintro y cs' ⟨ad5, cap5, rfl, rfl⟩)) | (refine Ops.k_callf 29 ?_; (refine Ops.call q2 (Evs.cons rfl (Evs.cons rfl Evs.nil)) goPm rfl ?_; rintro y cs' ⟨ad6, cap6, rfl, rfl⟩)) | (refine Ops.k_callf 32 ?_; (refine Ops.call (k5 _ _) (Evs.cons rfl Evs.nil) goPm rfl ?_; rintro y cs' ⟨rfl, rfl⟩)) | (refine Ops.k_callf 33 ?_; (refine Ops.call (k6 _ _) (Evs.cons rfl Evs.nil) goPm rfl ?_; rintro y cs' ⟨rfl, rfl⟩)) | (refine Ops.k_callf 18 ?_; refine Ops.callV k7 (Evs.cons rfl (Evs.cons rfl Evs.nil)) rfl ?_)) | (apply OpW.k_call; first | (apply OpW.k_callf 18; exact OpW.callV k7 (Evs.cons rfl (Evs.cons rfl Evs.nil)))) | refine goR ?_ | refine goP ?_ | apply PSeq.cons | apply PSeq.yes rfl rfl rfl | exact goW | fail)
      exact ⟨_, _, _, (Ent.mk goSub goTk), ⟨k + 1, _, S2, U2, SO, UO, _, _, _, _, _, _, _, _, rfl, ⟨by omega, by omega, hX, hRO⟩, rfl, rfl⟩, by omega⟩
    · have q1 := putX_fn (bx := b9) (c := c) (t := t) (f := f) (ad := ad2) (cap := c2) SO r hRO.srt (by omega) rfl ht (by omega) hv3
      have q2 := putY_fn (bx := b77) (c := c) (t := t) (f := f) (ad := ad4) (cap := c4) UO r (by omega) rfl ht (by omega) hv4
      have hXO := hRO.put hrt hrv
      have hX := hR
      rw [hRO.putO] at q1
      generalize putS (rdgE c t f r) SO r = S2 at *
      generalize putU (rdgE c t f r) UO r = U2 at *
      generalize putO (rdgE c t f r) UO r = po at *
      have hl5 := hX.len
      have hv := hX.vs
      have k5 := fun (ad : Option Addr) (cap : Nat) => readingsX_fn (bx := b5) (c := c) (t := t) (f := f) (ad := ad) (cap := cap) S (by omega) rfl hv.1
      have k6 := fun (ad : Option Addr) (cap : Nat) => readingsY_fn (bx := b75) (c := c) (t := t) (f := f) (ad := ad) (cap := cap) U (D := S) (by omega) rfl hv.2 ht (hX.srt0 hm0)
      have k7 := sameReadings_fn S (by omega) hv.1
      clear hv1 hv2 hv3 hv4 hl1 hl2 hl3 hl4 hR hRO
      repeat' (first | refine goH ?_ | refine goV ?_ | refine goB (fun b => ?_) | (refine Ops.k_b_neq ?_; first | refine Ops.neqB_f Try.underlying4 rfl rfl rfl rfl ?_) | refine goG ?_ | (refine Ops.k_guard ?_; first | (refine Ops.guard_dec rfl rfl (fun hc => ?_) (fun hc => ?_) <;> try (exfalso; omega)) | refine Ops.guard_split rfl rfl (fun hc => ?_) (fun hc => ?_)) | refine goI ?_ | (refine Cw.k_cond ?_; first | (refine Cw.cond_dec rfl (fun hc => ?_) (fun hc => ?_) <;> try (exfalso; omega)) | refine Cw.cond_bool rfl (fun hc => ?_) (fun hc => ?_)) | (refine Ops.k_calla ?_; first | (refine Ops.k_callf 30 ?_; (refine Ops.call q1 (Evs.cons rfl (Evs.cons rfl Evs.nil)) goPm rfl ?_; rintro y cs' ⟨ad5, cap5, rfl, rfl⟩)) | (refine Ops.k_callf 31 ?_; (refine Ops.call q2 (Evs.cons rfl (Evs.cons rfl Evs.nil)) goPm rfl ?_; rintro y cs' ⟨ad6, cap6, rfl, rfl⟩)) | (refine Ops.k_callf 32 ?_; (refine Ops.call (k5 _ _) (Evs.cons rfl Evs.nil) goPm rfl ?_; rintro y cs' ⟨rfl, rfl⟩)) | (refine Ops.k_callf 33 ?_; (refine Ops.call (k6 _ _) (Evs.cons rfl Evs.nil) goPm rfl ?_; rintro y cs' ⟨rfl, rfl⟩)) | (refine Ops.k_callf 18 ?_; refine Ops.callV k7 (Evs.cons rfl (Evs.cons rfl Evs.nil)) rfl ?_)) | (apply OpW.k_call; first | (apply OpW.k_callf 18; exact OpW.callV k7 (Evs.cons rfl (Evs.cons rfl Evs.nil)))) | refine goR ?_ | refine goP ?_ | apply PSeq.cons | apply PSeq.yes rfl rfl rfl | exact goW | fail)
      exact ⟨_, _, _, (Ent.mk goSub goTk), ⟨k + 1, _, S, U, S2, U2, _, _, _, _, _, _, _, _, rfl, ⟨by omega, by omega, hX, hXO⟩, rfl, rfl⟩, by omega⟩
    · have q1 := putX_fn (bx := b5) (c := c) (t := t) (f := f) (ad := ad1) (cap := c1) S r hR.srt (by omega) rfl ht (by omega) hv1
      have q2 := putY_fn (bx := b75) (c := c) (t := t) (f := f) (ad := ad3) (cap := c3) U r (by omega) rfl ht (by omega) hv2
      have hX := hR.put hrt hrv
      rw [hR.putO] at q1
      generalize putS (rdgE c t f r) S r = S2 at *
      generalize putU (rdgE c t f r) U r = U2 at *
      generalize putO (rdgE c t f r) U r = po at *
      have hl5 := hX.len
      have hv := hX.vs
      have k5 := fun (ad : Option Addr) (cap : Nat) => readingsX_fn (bx := b5) (c := c) (t := t) (f := f) (ad := ad) (cap := cap) S2 (by omega) rfl hv.1
      have k6 := fun (ad : Option Addr) (cap : Nat) => readingsY_fn (bx := b75) (c := c) (t := t) (f := f) (ad := ad) (cap := cap) U2 (D := S2) (by omega) rfl hv.2 ht (hX.srt0 hm0)
      have k7 := sameReadings_fn S2 (by omega) hv.1
      clear hv1 hv2 hv3 hv4 hl1 hl2 hl3 hl4 hR
      repeat' (first | refine goH ?_ | refine goV ?_ | refine goB (fun b => ?_) | (refine Ops.k_b_neq ?_; first | refine Ops.neqB_f Try.underlying4 rfl rfl rfl rfl ?_) | refine goG ?_ | (refine Ops.k_guard ?_; first | (refine Ops.guard_dec rfl rfl (fun hc => ?_) (fun hc => ?_) <;> try (exfalso; omega)) | refine Ops.guard_split rfl rfl (fun hc => ?_) (fun hc => ?_)) | refine goI ?_ | (refine Cw.k_cond ?_; first | (refine Cw.cond_dec rfl (fun hc => ?_) (fun hc => ?_) <;> try (exfalso; omega)) | refine Cw.cond_bool rfl (fun hc => ?_) (fun hc => ?_)) | (refine Ops.k_calla ?_; first | (refine Ops.k_callf 30 ?_; (refine Ops.call q1 (Evs.cons rfl (Evs.cons rfl Evs.nil)) goPm rfl ?_; rintro y cs' ⟨ad5, cap5, rfl, rfl⟩)) | (refine Ops.k_callf 31 ?_; (refine Ops.call q2 (Evs.cons rfl (Evs.cons rfl Evs.nil)) goPm rfl ?_; rintro y cs' ⟨ad6, cap6, rfl, rfl⟩)) | (refine Ops.k_callf 32 ?_; (refine Ops.call (k5 _ _) (Evs.cons rfl Evs.nil) goPm rfl ?_; rintro y cs' ⟨rfl, rfl⟩)) | (refine Ops.k_callf 33 ?_; (refine Ops.call (k6 _ _) (Evs.cons rfl Evs.nil) goPm rfl ?_; rintro y cs' ⟨rfl, rfl⟩)) | (refine Ops.k_callf 18 ?_; refine Ops.callV k7 (Evs.cons rfl (Evs.cons rfl Evs.nil)) rfl ?_)) | (apply OpW.k_call; first | (apply OpW.k_callf 18; exact OpW.callV k7 (Evs.cons rfl (Evs.cons rfl Evs.nil)))) | refine goR ?_ | refine goP ?_ | apply PSeq.cons | apply PSeq.yes rfl rfl rfl | exact goW | fail)
      exact ⟨_, _, _, (Ent.mk goSub goTk), ⟨k + 1, _, S2, U2, SO, UO, _, _, _, _, _, _, _, _, rfl, ⟨by omega, by omega, hX, hRO⟩, rfl, rfl⟩, by omega⟩
end Lg
end
