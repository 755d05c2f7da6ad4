/- A part of the proof of a law of this seat: it adds no condition. By an AI agent. -/
import Derived.Test.YtoedknjnkeeohaaRd8
section
set_option linter.all false
set_option maxRecDepth 100000
set_option maxHeartbeats 8000000
namespace Lg
open Go Go.Proofs

def stsO (t f : Int) (D : List Rdg) (e : Int) : Tr := if e = 0 then .tup [.sl 4 ((stpsOf t f D).map Stp.row), .int 0] else .tup [.sl 4 [], .int e]
theorem Stp.eta (s : Stp) : s.row = [.int s.a, .int s.b, .bool s.r, .ints s.s] := rfl
attribute [local irreducible] intRows limE difE difL stpsOf stpOf srtO
theorem steps_fn (c t f : Int) (l : List Rdg) (hl : l.length ≤ 12) (hv : ∀ r ∈ l, r.vs.length ≤ 1000) (ht : -1000000000000 ≤ t ∧ t ≤ 1000000000000) {D : List Rdg} {e : Int} (hs : srtO c t f l = .tup [.sl 2 (D.map Rdg.row), .int e]) (h0 : e = 0 → mtrE c t f = 0 ∧ (∀ r ∈ D, ROk c t r) ∧ D.length ≤ l.length) : PFn Try.prog 14 [.mtr c t f, .sl 2 (l.map Rdg.row)] (· = stsO t f D e) := by
  have k1 := sort_fn c t f l hl hv ht
  rw [hs] at k1
  clear hs
  unfold stsO
  refine PFn.mk (Spec.body Try.func14 rfl rfl (Try.ntmps14) rfl fun w0 own0 M => ?_)
  by_cases he : e = 0
  rotate_left
  · rw [if_neg he]
    repeat' (first | refine goH ?_ | refine goV ?_ | refine goB (fun b => ?_) | refine goC (fun ad cap => ?_) | refine goI ?_ | (refine Cw.k_cond ?_; first | (refine Cw.cond_dec rfl (fun hc => ?_) (fun hc => ?_) <;> try (exfalso; omega)) | refine Cw.cond_bool rfl (fun hc => ?_) (fun hc => ?_)) | (refine Ops.k_calla ?_; first | (refine Ops.k_callf 13 ?_; refine Ops.callV k1 (Evs.cons rfl (Evs.cons rfl Evs.nil)) rfl ?_)) | (apply OpW.k_call; first | (apply OpW.k_callf 13; exact OpW.callV k1 (Evs.cons rfl (Evs.cons rfl Evs.nil)))) | refine goR ?_ | refine goP ?_ | apply PSeq.cons | apply PSeq.yes rfl rfl rfl | exact goW | fail)
    refine Fin.ret (Ent.trans (Ent.nilsl 4 (s := 4) rfl) (Ent.take goTk)) (Outs.many rfl (OutL.cons goOe (OutL.cons goOe OutL.nil)) rfl) ⟨rfl, rfl⟩
  rw [if_pos he]
  obtain ⟨hm, hD, hDl⟩ := h0 he
  subst he
  have hDL : (D.map Rdg.row).length = D.length := List.length_map _
  have hsl := stpsOf_len t f D
  obtain ⟨S, hS⟩ : ∃ S, S = stpsOf t f D := ⟨_, rfl⟩
  rw [← hS] at hsl ⊢
  repeat' (first | refine goH ?_ | refine goV ?_ | refine goB (fun b => ?_) | refine goC (fun ad cap => ?_) | refine goI ?_ | (refine Cw.k_cond ?_; first | (refine Cw.cond_dec rfl (fun hc => ?_) (fun hc => ?_) <;> try (exfalso; omega)) | refine Cw.cond_bool rfl (fun hc => ?_) (fun hc => ?_)) | (refine Ops.k_calla ?_; first | (refine Ops.k_callf 13 ?_; refine Ops.callV k1 (Evs.cons rfl (Evs.cons rfl Evs.nil)) rfl ?_)) | (apply OpW.k_call; first | (apply OpW.k_callf 13; exact OpW.callV k1 (Evs.cons rfl (Evs.cons rfl Evs.nil)))) | refine goR ?_ | refine goP ?_ | apply PSeq.cons | apply PSeq.yes rfl rfl rfl | exact goW | fail)
  rename Nat => b2
  refine Cw.loopI [(2, _), (6, _)] _ (fun q e cc => ∃ (i : Nat) (rows : List (List Tr)) (ad : Option Addr) (cap : Nat) (n5 : Nat), q = D.length - i ∧ (1 ≤ i ∧ (i ≤ D.length ∨ i = 1) ∧ n5 = i - 1 ∧ rows = (S.take n5).map Stp.row ∧ rows.length = n5) ∧ e = [(8, Tr.raw (.slice ad n5 cap)), (9, .int i)] ∧ cc = [Chunk.own ad cap 4 76 rows])
    ⟨_, _, _, Ent.trans (Ent.nil 4 76) (Ent.mkP goSub goPm), 1, [], none, 0, 0, rfl, ⟨by omega, .inr rfl, rfl, rfl, rfl⟩, rfl, rfl⟩ ?_
  rintro _ _ _ ⟨i, rows, ad, cap, n5, rfl, ⟨hi1, hi2, hn5, hrs, hrl⟩, rfl, rfl⟩
  by_cases hil : i < D.length
  rotate_left
  · have hfin : rows = S.map Stp.row := by rw [hrs, List.take_of_length_le (by omega)]
    rw [← hfin]
    subst hrl
    clear hrs hfin
    repeat' (first | refine goH ?_ | refine goV ?_ | refine goB (fun b => ?_) | refine goC (fun ad cap => ?_) | refine goI ?_ | (refine Cw.k_cond ?_; first | (refine Cw.cond_dec rfl (fun hc => ?_) (fun hc => ?_) <;> try (exfalso; omega)) | refine Cw.cond_bool rfl (fun hc => ?_) (fun hc => ?_)) | refine goR ?_ | refine goP ?_ | apply PSeq.cons | apply PSeq.yes rfl rfl rfl | exact goW | fail)
    refine Fin.ret (Ent.trans (Ent.settle (s := 4) rfl goPk rfl) (Ent.take goTk)) (Outs.many rfl (OutL.cons goOe (OutL.cons goOe OutL.nil)) rfl) ⟨rfl, rfl⟩
  obtain ⟨A, hA⟩ := at_lt (l := D) (k := i - 1) (by omega)
  obtain ⟨B, hB⟩ := at_lt hil
  have ha := hD A (List.mem_of_getElem? hA)
  have hb := hD B (List.mem_of_getElem? hB)
  have hSk := stpsOf_at t f hA (by rw [show i - 1 + 1 = i by omega]; exact hB)
  rw [← hS, ← hn5] at hSk
  have rA : (D.map Rdg.row)[((i : Int) - 1).toNat]? = some [.int A.t, .ints A.vs] := rows_at (by rw [show ((i : Int) - 1).toNat = i - 1 by omega]; exact hA)
  have rB : (D.map Rdg.row)[((i : Nat) : Int).toNat]? = some [.int B.t, .ints B.vs] := rows_at (by rw [Int.toNat_natCast]; exact hB)
  have kS := step_fn c t f hm A B ha hb
  obtain ⟨s, hs⟩ : ∃ s, s = stpOf t f A B := ⟨_, rfl⟩
  rw [← hs] at kS hSk
  rw [Stp.eta] at kS
  have hq : rows ++ [[Tr.int s.a, Tr.int s.b, Tr.bool s.r, Tr.ints s.s]] = (S.take (n5 + 1)).map Stp.row := by
    rw [take_at hSk, List.map_append, ← hrs]
    rfl
  have hq2 : (rows ++ [[Tr.int s.a, Tr.int s.b, Tr.bool s.r, Tr.ints s.s]]).length = n5 + 1 := by rw [List.length_append, hrl]; rfl
  clear hrs hSk hS hs
  repeat' (first | refine goH ?_ | refine goV ?_ | refine goB (fun b => ?_) | refine goC (fun ad cap => ?_) | refine goI ?_ | (refine Cw.k_cond ?_; first | (refine Cw.cond_dec rfl (fun hc => ?_) (fun hc => ?_) <;> try (exfalso; omega)) | refine Cw.cond_bool rfl (fun hc => ?_) (fun hc => ?_)) | fail)
  first | refine Cw.region_YP (fun ξ S => stg (S 13) (Chunk.own ad cap 4 76 rows) (ownV (ξ 13) 4 76 (rows ++ [[Tr.int s.a, Tr.int s.b, Tr.bool s.r, Tr.ints s.s]])) :: Chunk.box b2 27 [.int c, .int t, .int f] :: []) rfl (by decide +kernel) rfl ((fun (ξ : Nat → Value) (S : Nat → Bool) => stg (S 13) (Chunk.own ad cap 4 76 rows) (ownV (ξ 13) 4 76 (rows ++ [[Tr.int s.a, Tr.int s.b, Tr.bool s.r, Tr.ints s.s]])) :: Chunk.box b2 27 [.int c, .int t, .int f] :: []) (fun _ => undef) (fun _ => false)) (by simp only [upd_same, updD_same, upd_ne, updD_ne, ne_eq, Nat.reduceEqDiff, not_false_eq_true, stg_t, stg_f, vAd_s, vCap_s, blk_p, List.cons_append, List.nil_append, b2n_t, b2n_f]; exact goXm) (fun _ => rfl) ?_ | fail
  apply YSeq.w (by intro _ _ _; rfl)
  · intro ξ S h1 h2 h3 h4
    have hN0_13 := closed_false h1 h3 (k := 13) rfl (by decide)
    try simp only [upd_same, updD_same, upd_ne, updD_ne, ne_eq, Nat.reduceEqDiff, not_false_eq_true, stg_t, stg_f, vAd_s, vCap_s, blk_p, List.cons_append, List.nil_append, b2n_t, b2n_f, hN0_13]
    exact goW
  · intro ξ v; rfl
  · intro ξ k v S h3 hn hk
    first
    | rfl
  apply YSeq.w (by intro _ _ _; rfl)
  · intro ξ S h1 h2 h3 h4
    have hN1_11 := closed_false h1 h3 (k := 11) rfl (by decide)
    have hN1_13 := closed_false hN1_11 h3 (k := 13) rfl (by decide)
    try simp only [upd_same, updD_same, upd_ne, updD_ne, ne_eq, Nat.reduceEqDiff, not_false_eq_true, stg_t, stg_f, vAd_s, vCap_s, blk_p, List.cons_append, List.nil_append, b2n_t, b2n_f, hN1_13]
    exact goW
  · intro ξ v; rfl
  · intro ξ k v S h3 hn hk
    first
    | rfl
  apply YSeq.w (by intro _ _ _; rfl)
  · intro ξ S h1 h2 h3 h4
    have hN2_5 := closed_false h1 h3 (k := 5) rfl (by decide)
    have hN2_6 := closed_false hN2_5 h3 (k := 6) rfl (by decide)
    have hN2_11 := closed_false hN2_6 h3 (k := 11) rfl (by decide)
    have hN2_13 := closed_false hN2_11 h3 (k := 13) rfl (by decide)
    try simp only [upd_same, updD_same, upd_ne, updD_ne, ne_eq, Nat.reduceEqDiff, not_false_eq_true, stg_t, stg_f, vAd_s, vCap_s, blk_p, List.cons_append, List.nil_append, b2n_t, b2n_f, hN2_13]
    exact goW
  · intro ξ v; rfl
  · intro ξ k v S h3 hn hk
    first
    | rfl
  apply YSeq.w (by intro _ _ _; rfl)
  · intro ξ S h1 h2 h3 h4
    have hN3_4 := closed_false h1 h3 (k := 4) rfl (by decide)
    have hN3_5 := closed_false hN3_4 h3 (k := 5) rfl (by decide)
    have hN3_6 := closed_false hN3_5 h3 (k := 6) rfl (by decide)
    have hN3_11 := closed_false hN3_6 h3 (k := 11) rfl (by decide)
    have hN3_13 := closed_false hN3_11 h3 (k := 13) rfl (by decide)
    try simp only [upd_same, updD_same, upd_ne, updD_ne, ne_eq, Nat.reduceEqDiff, not_false_eq_true, stg_t, stg_f, vAd_s, vCap_s, blk_p, List.cons_append, List.nil_append, b2n_t, b2n_f, hN3_13]
    exact goW
  · intro ξ v; rfl
  · intro ξ k v S h3 hn hk
    first
    | rfl
  apply YSeq.w (by intro _ _ _; rfl)
  · intro ξ S h1 h2 h3 h4
    have hN4_5 := closed_false h1 h3 (k := 5) rfl (by decide)
    have hN4_6 := closed_false hN4_5 h3 (k := 6) rfl (by decide)
    have hN4_11 := closed_false hN4_6 h3 (k := 11) rfl (by decide)
    have hN4_13 := closed_false hN4_11 h3 (k := 13) rfl (by decide)
    try simp only [upd_same, updD_same, upd_ne, updD_ne, ne_eq, Nat.reduceEqDiff, not_false_eq_true, stg_t, stg_f, vAd_s, vCap_s, blk_p, List.cons_append, List.nil_append, b2n_t, b2n_f, hN4_13]
    exact goW
  · intro ξ v; rfl
  · intro ξ k v S h3 hn hk
    first
    | rfl
  apply YSeq.w (by intro _ _ _; rfl)
  · intro ξ S h1 h2 h3 h4
    have hN5_6 := closed_false h1 h3 (k := 6) rfl (by decide)
    have hN5_11 := closed_false hN5_6 h3 (k := 11) rfl (by decide)
    have hN5_13 := closed_false hN5_11 h3 (k := 13) rfl (by decide)
    try simp only [upd_same, updD_same, upd_ne, updD_ne, ne_eq, Nat.reduceEqDiff, not_false_eq_true, stg_t, stg_f, vAd_s, vCap_s, blk_p, List.cons_append, List.nil_append, b2n_t, b2n_f, hN5_13]
    exact goW
  · intro ξ v; rfl
  · intro ξ k v S h3 hn hk
    first
    | rfl
  apply YSeq.w (by intro _ _ _; rfl)
  · intro ξ S h1 h2 h3 h4
    have hN6_11 := closed_false h1 h3 (k := 11) rfl (by decide)
    have hN6_13 := closed_false hN6_11 h3 (k := 13) rfl (by decide)
    try simp only [upd_same, updD_same, upd_ne, updD_ne, ne_eq, Nat.reduceEqDiff, not_false_eq_true, stg_t, stg_f, vAd_s, vCap_s, blk_p, List.cons_append, List.nil_append, b2n_t, b2n_f, hN6_13]
    exact goW
  · intro ξ v; rfl
  · intro ξ k v S h3 hn hk
    first
    | rfl
  apply YSeq.w (by intro _ _ _; rfl)
  · intro ξ S h1 h2 h3 h4
    have hN7_9 := closed_false h1 h3 (k := 9) rfl (by decide)
    have hN7_10 := closed_false hN7_9 h3 (k := 10) rfl (by decide)
    have hN7_11 := closed_false hN7_10 h3 (k := 11) rfl (by decide)
    have hN7_13 := closed_false hN7_11 h3 (k := 13) rfl (by decide)
    try simp only [upd_same, updD_same, upd_ne, updD_ne, ne_eq, Nat.reduceEqDiff, not_false_eq_true, stg_t, stg_f, vAd_s, vCap_s, blk_p, List.cons_append, List.nil_append, b2n_t, b2n_f, hN7_13]
    exact goW
  · intro ξ v; rfl
  · intro ξ k v S h3 hn hk
    first
    | rfl
  apply YSeq.w (by intro _ _ _; rfl)
  · intro ξ S h1 h2 h3 h4
    have hN8_9 := closed_false h1 h3 (k := 9) rfl (by decide)
    have hN8_10 := closed_false hN8_9 h3 (k := 10) rfl (by decide)
    have hN8_11 := closed_false hN8_10 h3 (k := 11) rfl (by decide)
    have hN8_13 := closed_false hN8_11 h3 (k := 13) rfl (by decide)
    try simp only [upd_same, updD_same, upd_ne, updD_ne, ne_eq, Nat.reduceEqDiff, not_false_eq_true, stg_t, stg_f, vAd_s, vCap_s, blk_p, List.cons_append, List.nil_append, b2n_t, b2n_f, hN8_13]
    exact goW
  · intro ξ v; rfl
  · intro ξ k v S h3 hn hk
    first
    | rfl
  apply YSeq.w (by intro _ _ _; rfl)
  · intro ξ S h1 h2 h3 h4
    have hN9_10 := closed_false h1 h3 (k := 10) rfl (by decide)
    have hN9_11 := closed_false hN9_10 h3 (k := 11) rfl (by decide)
    have hN9_13 := closed_false hN9_11 h3 (k := 13) rfl (by decide)
    try simp only [upd_same, updD_same, upd_ne, updD_ne, ne_eq, Nat.reduceEqDiff, not_false_eq_true, stg_t, stg_f, vAd_s, vCap_s, blk_p, List.cons_append, List.nil_append, b2n_t, b2n_f, hN9_13]
    exact goW
  · intro ξ v; rfl
  · intro ξ k v S h3 hn hk
    first
    | rfl
  apply YSeq.w (by intro _ _ _; rfl)
  · intro ξ S h1 h2 h3 h4
    have hN10_11 := closed_false h1 h3 (k := 11) rfl (by decide)
    have hN10_13 := closed_false hN10_11 h3 (k := 13) rfl (by decide)
    try simp only [upd_same, updD_same, upd_ne, updD_ne, ne_eq, Nat.reduceEqDiff, not_false_eq_true, stg_t, stg_f, vAd_s, vCap_s, blk_p, List.cons_append, List.nil_append, b2n_t, b2n_f, hN10_13]
    exact goW
  · intro ξ v; rfl
  · intro ξ k v S h3 hn hk
    first
    | rfl
  apply YSeq.callV (by intro _ _ _; rfl)
  · intro ξ S h1 h2 h3 h4
    have hN11_13 := closed_false h1 h3 (k := 13) rfl (by decide)
    try simp only [upd_same, updD_same, upd_ne, updD_ne, ne_eq, Nat.reduceEqDiff, not_false_eq_true, stg_t, stg_f, vAd_s, vCap_s, blk_p, List.cons_append, List.nil_append, b2n_t, b2n_f, hN11_13]
    exact ⟨_, (Evs.cons rfl (Evs.cons rfl (Evs.cons rfl Evs.nil))), kS⟩
  · intro ξ v; rfl
  · intro ξ k v S h3 hn hk
    first
    | rfl
  apply YSeq.w (by intro _ _ _; rfl)
  · intro ξ S h1 h2 h3 h4
    have hN12_13 := closed_false h1 h3 (k := 13) rfl (by decide)
    try simp only [upd_same, updD_same, upd_ne, updD_ne, ne_eq, Nat.reduceEqDiff, not_false_eq_true, stg_t, stg_f, vAd_s, vCap_s, blk_p, List.cons_append, List.nil_append, b2n_t, b2n_f, hN12_13]
    exact goW
  · intro ξ v; rfl
  · intro ξ k v S h3 hn hk
    first
    | rfl
  apply YSeq.append (n5 + 1)
  · intro ξ S h1 h2 h3 h4
    simp only [upd_same, updD_same, upd_ne, updD_ne, ne_eq, Nat.reduceEqDiff, not_false_eq_true, stg_t, stg_f, vAd_s, vCap_s, blk_p, List.cons_append, List.nil_append, b2n_t, b2n_f, h1]
    refine ⟨_, _, _, _, _, _, rfl, rfl, goXp, (by first | rfl | (simp; done) | omega), (by first | rfl | omega | (simp; done) | (simp; omega)), (by first | omega | (simp; done) | (simp; omega)), (by first | omega | (simp; done) | (simp; omega)), fun ad' cap' => ?_⟩
    exact goXm
  apply YSeq.w (by intro _ _ _; rfl)
  · intro ξ S h1 h2 h3 h4
    have hY14_13 : S 13 = true := h2 13 (by decide)
    try simp only [upd_same, updD_same, upd_ne, updD_ne, ne_eq, Nat.reduceEqDiff, not_false_eq_true, stg_t, stg_f, vAd_s, vCap_s, blk_p, List.cons_append, List.nil_append, b2n_t, b2n_f, hY14_13]
    exact goW
  · intro ξ v; rfl
  · intro ξ k v S h3 hn hk
    first
    | rfl
    | skip
      have hY14_13 : S 13 = true := h3 14 _ rfl hn 13 (by decide)
      simp only [upd_S hY14_13 hk]
  refine YSeq.nil fun ξ hf => ?_
  refine ⟨[(2, _), (6, _), (8, _), (9, _)], _, Ent.trans (Ent.eqc rfl (by simp only [upd_same, updD_same, upd_ne, updD_ne, ne_eq, Nat.reduceEqDiff, not_false_eq_true, stg_t, stg_f, vAd_s, vCap_s, blk_p, List.cons_append, List.nil_append, b2n_t, b2n_f, ownV, slV, ptV] <;> rfl)) (Ent.sub goSub), ?_⟩
  clear hf
  generalize vAd (ξ 13) = ad38
  generalize vCap (ξ 13) = cap38
  repeat' (first | refine goH ?_ | refine goV ?_ | refine goB (fun b => ?_) | refine goC (fun ad cap => ?_) | refine goI ?_ | (refine Cw.k_cond ?_; first | (refine Cw.cond_dec rfl (fun hc => ?_) (fun hc => ?_) <;> try (exfalso; omega)) | refine Cw.cond_bool rfl (fun hc => ?_) (fun hc => ?_)) | refine goR ?_ | refine goP ?_ | apply PSeq.cons | apply PSeq.yes rfl rfl rfl | exact goW | fail)
  exact ⟨_, _, _, (Ent.mk goSub goTk), ⟨i + 1, _, _, _, n5 + 1, rfl, ⟨by omega, by omega, by omega, hq, hq2⟩, rfl, rfl⟩, by omega⟩
end Lg
end
section
set_option linter.all false
set_option maxRecDepth 100000
set_option maxHeartbeats 8000000
namespace Lg
open Go Go.Proofs

theorem difL_bd {t : Int} : ∀ {x y : List Int}, (∀ a ∈ x, 0 ≤ a ∧ a < t) → (∀ a ∈ y, 0 ≤ a ∧ a < t) → ∀ a ∈ difL t x y, 0 ≤ a ∧ a < t
  | [], _, _, _, a, h => by rw [difL] at h; cases h; simp
  | _ :: _, [], _, _, a, h => by rw [difL] at h; cases h; simp
  | p :: x, q :: y, h1, h2, a, h => by
    rw [difL] at h
    rcases List.mem_cons.1 h with rfl | h
    · exact difE_bd (h1 p (by simp)) (h2 q (by simp))
    · exact difL_bd (fun a ha => h1 a (by simp [ha])) (fun a ha => h2 a (by simp [ha])) a h
structure SOk (n : Nat) (s : Stp) : Prop where
  n : s.s.length = n
  v : ∀ x ∈ s.s, 0 ≤ x ∧ x ≤ 1000000
  ab : (0 ≤ s.a ∧ s.a < 5761440) ∧ 0 ≤ s.b ∧ s.b < 5761440
theorem stpOf_ok {c t f : Int} {A B : Rdg} (hm : mtrE c t f = 0) (ha : ROk c t A) (hb : ROk c t B) : SOk c.toNat (stpOf t f A B) := by
  obtain ⟨_, h2, _⟩ := mtrE_ok hm
  have h3 := ha.n
  have h4 := hb.n
  unfold stpOf
  split
  · exact ⟨by show B.vs.length = _; omega, fun x hx => by have := hb.v x hx; omega, ha.t0, hb.t0⟩
  · refine ⟨?_, fun x hx => ?_, ha.t0, hb.t0⟩
    · show (difL t A.vs B.vs).length = _
      rw [difL_len t (by omega)]
      omega
    · have := difL_bd ha.v hb.v x hx
      omega
theorem stpsOf_ok {c t f : Int} (hm : mtrE c t f = 0) : ∀ {D : List Rdg}, (∀ r ∈ D, ROk c t r) → ∀ s ∈ stpsOf t f D, SOk c.toNat s
  | [], _, s, h => by simp [stpsOf] at h
  | [_], _, s, h => by simp [stpsOf] at h
  | A :: B :: l, hD, s, h => by
    rw [stpsOf] at h
    rcases List.mem_cons.1 h with rfl | h
    · exact stpOf_ok hm (hD A (by simp)) (hD B (by simp))
    · exact stpsOf_ok hm (fun r hr => hD r (by simp at hr ⊢; exact .inr hr)) s h
theorem addL_len {x y : List Int} {n : Nat} (h1 : x.length = n) (h2 : y.length = n) : (addL x y).length = n := by unfold addL; rw [List.length_zipWith]; omega
theorem addL_at {x y : List Int} {k : Nat} {a b : Int} (h1 : x[k]? = some a) (h2 : y[k]? = some b) : (addL x y)[k]? = some (a + b) := by
  unfold addL
  rw [List.getElem?_zipWith, h1, h2]
/-- halfway through the addition of y to x -/
def addH (x y : List Int) (k : Nat) : List Int := (addL x y).take k ++ x.drop k
theorem addH_zero (x y : List Int) : addH x y 0 = x := rfl
theorem addH_end {x y : List Int} {n : Nat} (h1 : x.length = n) (h2 : y.length = n) : addH x y n = addL x y := by
  unfold addH
  rw [List.take_of_length_le (by rw [addL_len h1 h2]; exact Nat.le_refl _), List.drop_of_length_le (by omega), List.append_nil]
theorem addH_len {x y : List Int} {n k : Nat} (h1 : x.length = n) (h2 : y.length = n) (hk : k ≤ n) : (addH x y k).length = n := by
  unfold addH
  rw [List.length_append, List.length_take, List.length_drop, addL_len h1 h2]
  omega
theorem addH_at {x y : List Int} {n k : Nat} (h1 : x.length = n) (h2 : y.length = n) (hk : k < n) {a : Int} (ha : x[k]? = some a) : (addH x y k)[k]? = some a := by
  unfold addH
  rw [List.getElem?_append_right (by rw [List.length_take]; omega), List.length_take, addL_len h1 h2, show k - min k n = 0 by omega, List.getElem?_drop]
  exact ha
theorem addH_set {x y : List Int} {n k : Nat} (h1 : x.length = n) (h2 : y.length = n) (hk : k < n) {a b : Int} (ha : x[k]? = some a) (hb : y[k]? = some b) : (addH x y k).set k (a + b) = addH x y (k + 1) := by
  have hl : ((addL x y).take k).length = k := by rw [List.length_take, addL_len h1 h2]; omega
  unfold addH
  rw [drop_at ha, List.set_append_right _ _ (by omega), hl, Nat.sub_self, List.set_cons_zero, take_at (addL_at ha hb), List.append_assoc]
  rfl
theorem addL_bd {x y : List Int} {m : Int} (hx : ∀ a ∈ x, 0 ≤ a ∧ a ≤ m) (hy : ∀ a ∈ y, 0 ≤ a ∧ a ≤ 1000000) : ∀ a ∈ addL x y, 0 ≤ a ∧ a ≤ m + 1000000 := by
  intro a ha
  unfold addL at ha
  obtain ⟨i, hi⟩ := List.mem_iff_getElem?.1 ha
  rw [List.getElem?_zipWith] at hi
  cases h1 : x[i]? with
  | none => rw [h1] at hi; cases hi
  | some p =>
    cases h2 : y[i]? with
    | none => rw [h1, h2] at hi; cases hi
    | some q =>
      rw [h1, h2] at hi
      injection hi with hi
      have := hx p (List.mem_of_getElem? h1)
      have := hy q (List.mem_of_getElem? h2)
      omega
theorem soldF_drop {acc : List Int} {S : List Stp} {k : Nat} {s : Stp} (h : S[k]? = some s) : soldF acc (S.drop k) = soldF (addL acc s.s) (S.drop (k + 1)) := by rw [drop_at h, soldF]
theorem soldF_end {acc : List Int} {S : List Stp} {k : Nat} (h : S.length ≤ k) : soldF acc (S.drop k) = acc := by rw [List.drop_of_length_le h, soldF]
theorem intRows_set (l : List Int) (i : Nat) (v : Int) : (intRows l).set i [Tr.int v] = intRows (l.set i v) := by
  unfold intRows
  rw [List.map_set]
theorem intRows_rep (n : Nat) : List.replicate n [Tr.int 0] = intRows (List.replicate n 0) := by
  unfold intRows
  rw [List.map_replicate]
def soldL (c t f : Int) (D : List Rdg) : List Int := soldF (List.replicate c.toNat 0) (stpsOf t f D)
def sldO (c t f : Int) (D : List Rdg) (e : Int) : Tr := if e = 0 then .tup [.ints (soldL c t f D), .int 0] else .tup [.sl 1 [], .int e]
end Lg
end
section
set_option linter.all false
set_option maxRecDepth 100000
set_option maxHeartbeats 8000000
namespace Lg
open Go Go.Proofs

attribute [local irreducible] intRows limE difE difL stpsOf stpOf srtO soldF addL addH
theorem sold_fn (c t f : Int) (l : List Rdg) (hl : l.length ≤ 12) (hv : ∀ r ∈ l, r.vs.length ≤ 1000) (ht : -1000000000000 ≤ t ∧ t ≤ 1000000000000) {D : List Rdg} {e : Int} (hs : srtO c t f l = .tup [.sl 2 (D.map Rdg.row), .int e]) (h0 : e = 0 → mtrE c t f = 0 ∧ (∀ r ∈ D, ROk c t r) ∧ D.length ≤ l.length) : PFn Try.prog 15 [.mtr c t f, .sl 2 (l.map Rdg.row)] (· = sldO c t f D e) := by
  have k1 := steps_fn c t f l hl hv ht hs h0
  clear hs
  unfold stsO at k1
  unfold sldO
  refine PFn.mk (Spec.body Try.func15 rfl rfl (Try.ntmps15) rfl fun w0 own0 M => ?_)
  by_cases he : e = 0
  rotate_left
  · rw [if_neg he] at k1 ⊢
    repeat' (first | refine goH ?_ | refine goV ?_ | refine goB (fun b => ?_) | refine goC (fun ad cap => ?_) | refine goI ?_ | (refine Cw.k_cond ?_; first | (refine Cw.cond_dec rfl (fun hc => ?_) (fun hc => ?_) <;> try (exfalso; omega)) | refine Cw.cond_bool rfl (fun hc => ?_) (fun hc => ?_)) | (refine Ops.k_calla ?_; first | (refine Ops.k_callf 14 ?_; refine Ops.callV k1 (Evs.cons rfl (Evs.cons rfl Evs.nil)) rfl ?_)) | fail)
    refine Fin.ret (Ent.trans (Ent.nilsl 1 (s := 4) rfl) (Ent.take goTk)) (Outs.many rfl (OutL.cons goOe (OutL.cons goOe OutL.nil)) rfl) ⟨rfl, rfl⟩
  rw [if_pos he] at k1 ⊢
  obtain ⟨hm, hD, hDl⟩ := h0 he
  obtain ⟨⟨hc1, hc2⟩, _⟩ := mtrE_ok hm
  have hSok := stpsOf_ok hm hD
  have hsl := stpsOf_len t f D
  unfold soldL
  obtain ⟨S, hS⟩ : ∃ S, S = stpsOf t f D := ⟨_, rfl⟩
  rw [← hS] at hsl hSok k1 ⊢
  have hSL : (S.map Stp.row).length = S.length := List.length_map _
  obtain ⟨n, hn⟩ : ∃ n : Nat, c.toNat = n := ⟨_, rfl⟩
  have hcn : c = n := by omega
  rw [hn] at hSok ⊢
  clear hn
  subst hcn
  repeat' (first | refine goH ?_ | refine goV ?_ | refine goB (fun b => ?_) | refine goC (fun ad cap => ?_) | refine goI ?_ | (refine Cw.k_cond ?_; first | (refine Cw.cond_dec rfl (fun hc => ?_) (fun hc => ?_) <;> try (exfalso; omega)) | refine Cw.cond_bool rfl (fun hc => ?_) (fun hc => ?_)) | (refine Ops.k_calla ?_; first | (refine Ops.k_callf 14 ?_; refine Ops.callV k1 (Evs.cons rfl (Evs.cons rfl Evs.nil)) rfl ?_)) | fail)
  rw [show List.map Tr.raw [Value.int .i64 0] = [Tr.int 0] from rfl, intRows_rep]

  refine Cw.loopI [(8, _), (25, _), (26, _)] _ (fun q e cc => ∃ (k : Nat) (acc : List Int), q = S.length - k ∧ (k ≤ S.length ∧ acc.length = n ∧ soldF (List.replicate n 0) S = soldF acc (S.drop k) ∧ ∀ x ∈ acc, 0 ≤ x ∧ x ≤ k * 1000000) ∧ e = [(27, .int k)] ∧ cc = [Chunk.own ad cap 1 3 (intRows acc)])
    ⟨_, _, _, (Ent.mkP goSub goPm), 0, List.replicate n 0, rfl, ⟨by omega, List.length_replicate, rfl, by intro x hx; rw [List.eq_of_mem_replicate hx]; omega⟩, rfl, rfl⟩ ?_
  rintro _ _ _ ⟨k, acc, rfl, ⟨hk, hal, hV, hab⟩, rfl, rfl⟩
  by_cases hkl : k < S.length
  rotate_left
  · rw [soldF_end (by omega)] at hV
    rw [hV]
    have hrl := (intRows_len acc).trans hal
    clear hV
    subst hrl
    repeat' (first | refine goH ?_ | refine goV ?_ | refine goB (fun b => ?_) | refine goC (fun ad cap => ?_) | refine goI ?_ | (refine Cw.k_cond ?_; first | (refine Cw.cond_dec rfl (fun hc => ?_) (fun hc => ?_) <;> try (exfalso; omega)) | refine Cw.cond_bool rfl (fun hc => ?_) (fun hc => ?_)) | fail)
    refine Fin.ret (Ent.trans (Ent.settle (s := 4) rfl goPk rfl) (Ent.take goTk)) (Outs.many rfl (OutL.cons goOe (OutL.cons goOe OutL.nil)) rfl) ⟨rfl, rfl⟩
  obtain ⟨s, hs⟩ := at_lt hkl
  have hrow : (S.map Stp.row)[k]? = some [.int s.a, .int s.b, .bool s.r, .ints s.s] := rows_at hs
  rw [soldF_drop hs] at hV
  obtain ⟨hsn, hsv, _⟩ := hSok s (List.mem_of_getElem? hs)
  have hsl : (intRows s.s).length = n := (intRows_len s.s).trans hsn
  have hkl8 : k ≤ 12 := by omega
  repeat' (first | refine goH ?_ | refine goV ?_ | refine goB (fun b => ?_) | refine goC (fun ad cap => ?_) | refine goI ?_ | (refine Cw.k_cond ?_; first | (refine Cw.cond_dec rfl (fun hc => ?_) (fun hc => ?_) <;> try (exfalso; omega)) | refine Cw.cond_bool rfl (fun hc => ?_) (fun hc => ?_)) | fail)
  rename Nat => b10
  refine Cw.loopI [(8, _), (25, _), (26, _), (27, _), (10, _), (32, _), (33, _)] _ (fun q e cc => ∃ (j : Nat) (cur : List Int), q = n - j ∧ (j ≤ n ∧ cur = addH acc s.s j ∧ (intRows cur).length = n) ∧ e = [(34, .int j)] ∧ cc = [Chunk.own ad cap 1 3 (intRows cur)])
    ⟨_, _, _, (Ent.mkP goSub goPm), 0, acc, rfl, ⟨by omega, (addH_zero _ _).symm, (intRows_len acc).trans hal⟩, rfl, rfl⟩ ?_
  rintro _ _ _ ⟨j, cur, rfl, ⟨hj, hcur, hcl⟩, rfl, rfl⟩
  by_cases hjn : j < n
  · obtain ⟨x, hx⟩ := at_lt (l := acc) (k := j) (by omega)
    obtain ⟨y, hy⟩ := at_lt (l := s.s) (k := j) (by omega)
    have hxb := hab x (List.mem_of_getElem? hx)
    have hyb := hsv y (List.mem_of_getElem? hy)
    have r1 : (intRows cur)[j]? = some [Tr.int x] := intRows_at (by rw [hcur]; exact addH_at hal hsn hjn hx)
    have r2 := intRows_at hy
    have hset : (intRows cur).set j [Tr.int (x + y)] = intRows (addH acc s.s (j + 1)) := by rw [intRows_set, hcur, addH_set hal hsn hjn hx hy]
    have hcl2 : (intRows (addH acc s.s (j + 1))).length = n := by rw [intRows_len]; exact addH_len hal hsn (by omega)
    clear hcur hV
    repeat' (first | refine goH ?_ | refine goV ?_ | refine goB (fun b => ?_) | refine goC (fun ad cap => ?_) | refine goI ?_ | (refine Cw.k_cond ?_; first | (refine Cw.cond_dec rfl (fun hc => ?_) (fun hc => ?_) <;> try (exfalso; omega)) | refine Cw.cond_bool rfl (fun hc => ?_) (fun hc => ?_)) | fail)
    erw [hset]
    exact ⟨_, _, _, (Ent.mk goSub goTk), ⟨j + 1, _, rfl, ⟨by omega, rfl, hcl2⟩, rfl, rfl⟩, by omega⟩
  · have hjn2 : j = n := by omega
    rw [hjn2, addH_end hal hsn] at hcur
    have hb2 := addL_bd hab hsv
    have hl2 := addL_len hal hsn
    rw [← hcur] at hb2 hl2 hV
    clear hcur
    repeat' (first | refine goH ?_ | refine goV ?_ | refine goB (fun b => ?_) | refine goC (fun ad cap => ?_) | refine goI ?_ | (refine Cw.k_cond ?_; first | (refine Cw.cond_dec rfl (fun hc => ?_) (fun hc => ?_) <;> try (exfalso; omega)) | refine Cw.cond_bool rfl (fun hc => ?_) (fun hc => ?_)) | fail)
    exact ⟨_, _, _, (Ent.mk goSub goTk), ⟨k + 1, cur, rfl, ⟨by omega, hl2, hV, fun x hx => by have := hb2 x hx; omega⟩, rfl, rfl⟩, by omega⟩
theorem soldOf_fn (c t f : Int) (hm : mtrE c t f = 0) (D : List Rdg) (hD : ∀ r ∈ D, ROk c t r) (hl : D.length ≤ 12) : PFn Try.prog 22 [.mtr c t f, .sl 2 (D.map Rdg.row)] (· = .ints (soldL c t f D)) := by
  have k1 := stepsOf_fn c t f hm D hD hl
  refine PFn.mk (Spec.body Try.func22 rfl rfl (Try.ntmps22) rfl fun w0 own0 M => ?_)
  obtain ⟨⟨hc1, hc2⟩, _⟩ := mtrE_ok hm
  have hSok := stpsOf_ok hm hD
  have hsl := stpsOf_len t f D
  unfold soldL
  obtain ⟨S, hS⟩ : ∃ S, S = stpsOf t f D := ⟨_, rfl⟩
  rw [← hS] at hsl hSok k1 ⊢
  have hSL : (S.map Stp.row).length = S.length := List.length_map _
  obtain ⟨n, hn⟩ : ∃ n : Nat, c.toNat = n := ⟨_, rfl⟩
  have hcn : c = n := by omega
  rw [hn] at hSok ⊢
  clear hn
  subst hcn
  repeat' (first | refine goH ?_ | refine goV ?_ | refine goB (fun b => ?_) | refine goC (fun ad cap => ?_) | refine goI ?_ | (refine Cw.k_cond ?_; first | (refine Cw.cond_dec rfl (fun hc => ?_) (fun hc => ?_) <;> try (exfalso; omega)) | refine Cw.cond_bool rfl (fun hc => ?_) (fun hc => ?_)) | (refine Ops.k_calla ?_; first | (refine Ops.k_callf 20 ?_; refine Ops.callV k1 (Evs.cons rfl (Evs.cons rfl Evs.nil)) rfl ?_)) | fail)
  rw [show List.map Tr.raw [Value.int .i64 0] = [Tr.int 0] from rfl, intRows_rep]

  refine Cw.loopI [(5, _), (15, _), (16, _)] _ (fun q e cc => ∃ (k : Nat) (acc : List Int), q = S.length - k ∧ (k ≤ S.length ∧ acc.length = n ∧ soldF (List.replicate n 0) S = soldF acc (S.drop k) ∧ ∀ x ∈ acc, 0 ≤ x ∧ x ≤ k * 1000000) ∧ e = [(17, .int k)] ∧ cc = [Chunk.own ad cap 1 3 (intRows acc)])
    ⟨_, _, _, (Ent.mkP goSub goPm), 0, List.replicate n 0, rfl, ⟨by omega, List.length_replicate, rfl, by intro x hx; rw [List.eq_of_mem_replicate hx]; omega⟩, rfl, rfl⟩ ?_
  rintro _ _ _ ⟨k, acc, rfl, ⟨hk, hal, hV, hab⟩, rfl, rfl⟩
  by_cases hkl : k < S.length
  rotate_left
  · rw [soldF_end (by omega)] at hV
    rw [hV]
    have hrl := (intRows_len acc).trans hal
    clear hV
    subst hrl
    repeat' (first | refine goH ?_ | refine goV ?_ | refine goB (fun b => ?_) | refine goC (fun ad cap => ?_) | refine goI ?_ | (refine Cw.k_cond ?_; first | (refine Cw.cond_dec rfl (fun hc => ?_) (fun hc => ?_) <;> try (exfalso; omega)) | refine Cw.cond_bool rfl (fun hc => ?_) (fun hc => ?_)) | fail)
    refine Fin.ret (Ent.trans (Ent.settle (s := 4) rfl goPk rfl) (Ent.take goTk)) (Outs.sole rfl goOe) ⟨rfl, rfl⟩
  obtain ⟨s, hs⟩ := at_lt hkl
  have hrow : (S.map Stp.row)[k]? = some [.int s.a, .int s.b, .bool s.r, .ints s.s] := rows_at hs
  rw [soldF_drop hs] at hV
  obtain ⟨hsn, hsv, _⟩ := hSok s (List.mem_of_getElem? hs)
  have hsl : (intRows s.s).length = n := (intRows_len s.s).trans hsn
  have hkl8 : k ≤ 12 := by omega
  repeat' (first | refine goH ?_ | refine goV ?_ | refine goB (fun b => ?_) | refine goC (fun ad cap => ?_) | refine goI ?_ | (refine Cw.k_cond ?_; first | (refine Cw.cond_dec rfl (fun hc => ?_) (fun hc => ?_) <;> try (exfalso; omega)) | refine Cw.cond_bool rfl (fun hc => ?_) (fun hc => ?_)) | fail)
  rename Nat => b10
  refine Cw.loopI [(5, _), (15, _), (16, _), (17, _), (7, _), (22, _), (23, _)] _ (fun q e cc => ∃ (j : Nat) (cur : List Int), q = n - j ∧ (j ≤ n ∧ cur = addH acc s.s j ∧ (intRows cur).length = n) ∧ e = [(24, .int j)] ∧ cc = [Chunk.own ad cap 1 3 (intRows cur)])
    ⟨_, _, _, (Ent.mkP goSub goPm), 0, acc, rfl, ⟨by omega, (addH_zero _ _).symm, (intRows_len acc).trans hal⟩, rfl, rfl⟩ ?_
  rintro _ _ _ ⟨j, cur, rfl, ⟨hj, hcur, hcl⟩, rfl, rfl⟩
  by_cases hjn : j < n
  · obtain ⟨x, hx⟩ := at_lt (l := acc) (k := j) (by omega)
    obtain ⟨y, hy⟩ := at_lt (l := s.s) (k := j) (by omega)
    have hxb := hab x (List.mem_of_getElem? hx)
    have hyb := hsv y (List.mem_of_getElem? hy)
    have r1 : (intRows cur)[j]? = some [Tr.int x] := intRows_at (by rw [hcur]; exact addH_at hal hsn hjn hx)
    have r2 := intRows_at hy
    have hset : (intRows cur).set j [Tr.int (x + y)] = intRows (addH acc s.s (j + 1)) := by rw [intRows_set, hcur, addH_set hal hsn hjn hx hy]
    have hcl2 : (intRows (addH acc s.s (j + 1))).length = n := by rw [intRows_len]; exact addH_len hal hsn (by omega)
    clear hcur hV
    repeat' (first | refine goH ?_ | refine goV ?_ | refine goB (fun b => ?_) | refine goC (fun ad cap => ?_) | refine goI ?_ | (refine Cw.k_cond ?_; first | (refine Cw.cond_dec rfl (fun hc => ?_) (fun hc => ?_) <;> try (exfalso; omega)) | refine Cw.cond_bool rfl (fun hc => ?_) (fun hc => ?_)) | fail)
    erw [hset]
    exact ⟨_, _, _, (Ent.mk goSub goTk), ⟨j + 1, _, rfl, ⟨by omega, rfl, hcl2⟩, rfl, rfl⟩, by omega⟩
  · have hjn2 : j = n := by omega
    rw [hjn2, addH_end hal hsn] at hcur
    have hb2 := addL_bd hab hsv
    have hl2 := addL_len hal hsn
    rw [← hcur] at hb2 hl2 hV
    clear hcur
    repeat' (first | refine goH ?_ | refine goV ?_ | refine goB (fun b => ?_) | refine goC (fun ad cap => ?_) | refine goI ?_ | (refine Cw.k_cond ?_; first | (refine Cw.cond_dec rfl (fun hc => ?_) (fun hc => ?_) <;> try (exfalso; omega)) | refine Cw.cond_bool rfl (fun hc => ?_) (fun hc => ?_)) | fail)
    exact ⟨_, _, _, (Ent.mk goSub goTk), ⟨k + 1, cur, rfl, ⟨by omega, hl2, hV, fun x hx => by have := hb2 x hx; omega⟩, rfl, rfl⟩, by omega⟩
end Lg
end
section
set_option linter.all false
set_option maxRecDepth 100000
set_option maxHeartbeats 8000000
namespace Lg
open Go Go.Proofs

def rstO (t f : Int) (D : List Rdg) (e : Int) : Tr := if e = 0 then .tup [.ints (rstF (stpsOf t f D)), .int 0] else .tup [.sl 1 [], .int e]
theorem rstF_app (l : List Stp) (s : Stp) : rstF (l ++ [s]) = if s.r = true then rstF l ++ [s.b] else rstF l := by
  unfold rstF
  rw [List.filter_append, List.map_append]
  cases h : s.r <;> simp [h]
attribute [local irreducible] intRows limE difE difL stpsOf stpOf srtO soldF addL addH rstF
theorem resets_fn (c t f : Int) (l : List Rdg) (hl : l.length ≤ 12) (hv : ∀ r ∈ l, r.vs.length ≤ 1000) (ht : -1000000000000 ≤ t ∧ t ≤ 1000000000000) {D : List Rdg} {e : Int} (hs : srtO c t f l = .tup [.sl 2 (D.map Rdg.row), .int e]) (h0 : e = 0 → mtrE c t f = 0 ∧ (∀ r ∈ D, ROk c t r) ∧ D.length ≤ l.length) : PFn Try.prog 16 [.mtr c t f, .sl 2 (l.map Rdg.row)] (· = rstO t f D e) := by
  have k1 := steps_fn c t f l hl hv ht hs h0
  clear hs
  unfold stsO at k1
  unfold rstO
  refine PFn.mk (Spec.body Try.func16 rfl rfl (Try.ntmps16) rfl fun w0 own0 M => ?_)
  by_cases he : e = 0
  rotate_left
  · rw [if_neg he] at k1 ⊢
    repeat' (first | refine goH ?_ | refine goV ?_ | refine goB (fun b => ?_) | refine goC (fun ad cap => ?_) | refine goI ?_ | (refine Cw.k_cond ?_; first | (refine Cw.cond_dec rfl (fun hc => ?_) (fun hc => ?_) <;> try (exfalso; omega)) | refine Cw.cond_bool rfl (fun hc => ?_) (fun hc => ?_)) | (refine Ops.k_calla ?_; first | (refine Ops.k_callf 14 ?_; refine Ops.callV k1 (Evs.cons rfl (Evs.cons rfl Evs.nil)) rfl ?_)) | fail)
    refine Fin.ret (Ent.trans (Ent.nilsl 1 (s := 4) rfl) (Ent.take goTk)) (Outs.many rfl (OutL.cons goOe (OutL.cons goOe OutL.nil)) rfl) ⟨rfl, rfl⟩
  rw [if_pos he] at k1 ⊢
  obtain ⟨hm, hD, hDl⟩ := h0 he
  have hSok := stpsOf_ok hm hD
  have hsl := stpsOf_len t f D
  obtain ⟨S, hS⟩ : ∃ S, S = stpsOf t f D := ⟨_, rfl⟩
  rw [← hS] at hsl hSok k1 ⊢
  have hSL : (S.map Stp.row).length = S.length := List.length_map _
  clear hS
  repeat' (first | refine goH ?_ | refine goV ?_ | refine goB (fun b => ?_) | refine goC (fun ad cap => ?_) | refine goI ?_ | (refine Cw.k_cond ?_; first | (refine Cw.cond_dec rfl (fun hc => ?_) (fun hc => ?_) <;> try (exfalso; omega)) | refine Cw.cond_bool rfl (fun hc => ?_) (fun hc => ?_)) | (refine Ops.k_calla ?_; first | (refine Ops.k_callf 14 ?_; refine Ops.callV k1 (Evs.cons rfl (Evs.cons rfl Evs.nil)) rfl ?_)) | fail)
  refine Cw.loopI [(20, _), (21, _)] _ (fun q e cc => ∃ (k : Nat) (rows : List (List Tr)) (ad : Option Addr) (cap m : Nat), q = S.length - k ∧ (k ≤ S.length ∧ rows = intRows (rstF (S.take k)) ∧ rows.length = m ∧ m ≤ k) ∧ e = [(8, Tr.raw (.slice ad m cap)), (22, .int k)] ∧ cc = [Chunk.own ad cap 1 3 rows])
    ⟨_, _, _, Ent.trans (Ent.nil 1 3) (Ent.mkP goSub goPm), 0, [], none, 0, 0, rfl, ⟨by omega, by rw [List.take_zero]; unfold rstF; exact intRows_nil.symm, rfl, by omega⟩, rfl, rfl⟩ ?_
  rintro _ _ _ ⟨k, rows, ad, cap, m, rfl, ⟨hk, hrs, hrl, hmk⟩, rfl, rfl⟩
  by_cases hkl : k < S.length
  rotate_left
  · rw [List.take_of_length_le (by omega)] at hrs
    subst hrl
    subst hrs
    repeat' (first | refine goH ?_ | refine goV ?_ | refine goB (fun b => ?_) | refine goC (fun ad cap => ?_) | refine goI ?_ | (refine Cw.k_cond ?_; first | (refine Cw.cond_dec rfl (fun hc => ?_) (fun hc => ?_) <;> try (exfalso; omega)) | refine Cw.cond_bool rfl (fun hc => ?_) (fun hc => ?_)) | fail)
    refine Fin.ret (Ent.trans (Ent.settle (s := 4) rfl goPk rfl) (Ent.take goTk)) (Outs.many rfl (OutL.cons goOe (OutL.cons goOe OutL.nil)) rfl) ⟨rfl, rfl⟩
  obtain ⟨s, hs⟩ := at_lt hkl
  have hrow : (S.map Stp.row)[k]? = some [.int s.a, .int s.b, .bool s.r, .ints s.s] := rows_at hs
  have hkl8 : k ≤ 12 := by omega
  have hnx := rstF_app (S.take k) s
  rw [← take_at hs] at hnx
  cases hr : s.r
  all_goals rw [hr] at hnx hrow
  · rw [if_neg (by decide)] at hnx
    have hrs2 : rows = intRows (rstF (S.take (k + 1))) := by rw [hnx, hrs]
    clear hnx hrs
    repeat' (first | refine goH ?_ | refine goV ?_ | refine goB (fun b => ?_) | refine goC (fun ad cap => ?_) | refine goI ?_ | (refine Cw.k_cond ?_; first | (refine Cw.cond_dec rfl (fun hc => ?_) (fun hc => ?_) <;> try (exfalso; omega)) | refine Cw.cond_bool rfl (fun hc => ?_) (fun hc => ?_)) | fail)
    exact ⟨_, _, _, (Ent.mk goSub goTk), ⟨k + 1, _, _, _, _, rfl, ⟨by omega, hrs2, hrl, by omega⟩, rfl, rfl⟩, by omega⟩
  · rw [if_pos rfl] at hnx
    have hrs2 : rows ++ [[Tr.int s.b]] = intRows (rstF (S.take (k + 1))) := by rw [hnx, hrs, intRows_snoc]
    have hrl2 : (rows ++ [[Tr.int s.b]]).length = m + 1 := by rw [List.length_append, hrl]; rfl
    clear hnx hrs
    repeat' (first | refine goH ?_ | refine goV ?_ | refine goB (fun b => ?_) | refine goC (fun ad cap => ?_) | refine goI ?_ | (refine Cw.k_cond ?_; first | (refine Cw.cond_dec rfl (fun hc => ?_) (fun hc => ?_) <;> try (exfalso; omega)) | refine Cw.cond_bool rfl (fun hc => ?_) (fun hc => ?_)) | fail)
    erw [hrl2]
    exact ⟨_, _, _, (Ent.mk goSub goTk), ⟨k + 1, _, _, _, _, rfl, ⟨by omega, hrs2, hrl2, by omega⟩, rfl, rfl⟩, by omega⟩
theorem resetsOf_fn (c t f : Int) (hm : mtrE c t f = 0) (D : List Rdg) (hD : ∀ r ∈ D, ROk c t r) (hl : D.length ≤ 12) : PFn Try.prog 23 [.mtr c t f, .sl 2 (D.map Rdg.row)] (· = .ints (rstF (stpsOf t f D))) := by
  have k1 := stepsOf_fn c t f hm D hD hl
  refine PFn.mk (Spec.body Try.func23 rfl rfl (Try.ntmps23) rfl fun w0 own0 M => ?_)
  have hSok := stpsOf_ok hm hD
  have hsl := stpsOf_len t f D
  obtain ⟨S, hS⟩ : ∃ S, S = stpsOf t f D := ⟨_, rfl⟩
  rw [← hS] at hsl hSok k1 ⊢
  have hSL : (S.map Stp.row).length = S.length := List.length_map _
  clear hS
  repeat' (first | refine goH ?_ | refine goV ?_ | refine goB (fun b => ?_) | refine goC (fun ad cap => ?_) | refine goI ?_ | (refine Cw.k_cond ?_; first | (refine Cw.cond_dec rfl (fun hc => ?_) (fun hc => ?_) <;> try (exfalso; omega)) | refine Cw.cond_bool rfl (fun hc => ?_) (fun hc => ?_)) | (refine Ops.k_calla ?_; first | (refine Ops.k_callf 20 ?_; refine Ops.callV k1 (Evs.cons rfl (Evs.cons rfl Evs.nil)) rfl ?_)) | fail)
  refine Cw.loopI [(10, _), (11, _)] _ (fun q e cc => ∃ (k : Nat) (rows : List (List Tr)) (ad : Option Addr) (cap m : Nat), q = S.length - k ∧ (k ≤ S.length ∧ rows = intRows (rstF (S.take k)) ∧ rows.length = m ∧ m ≤ k) ∧ e = [(5, Tr.raw (.slice ad m cap)), (12, .int k)] ∧ cc = [Chunk.own ad cap 1 3 rows])
    ⟨_, _, _, Ent.trans (Ent.nil 1 3) (Ent.mkP goSub goPm), 0, [], none, 0, 0, rfl, ⟨by omega, by rw [List.take_zero]; unfold rstF; exact intRows_nil.symm, rfl, by omega⟩, rfl, rfl⟩ ?_
  rintro _ _ _ ⟨k, rows, ad, cap, m, rfl, ⟨hk, hrs, hrl, hmk⟩, rfl, rfl⟩
  by_cases hkl : k < S.length
  rotate_left
  · rw [List.take_of_length_le (by omega)] at hrs
    subst hrl
    subst hrs
    repeat' (first | refine goH ?_ | refine goV ?_ | refine goB (fun b => ?_) | refine goC (fun ad cap => ?_) | refine goI ?_ | (refine Cw.k_cond ?_; first | (refine Cw.cond_dec rfl (fun hc => ?_) (fun hc => ?_) <;> try (exfalso; omega)) | refine Cw.cond_bool rfl (fun hc => ?_) (fun hc => ?_)) | fail)
    refine Fin.ret (Ent.trans (Ent.settle (s := 4) rfl goPk rfl) (Ent.take goTk)) (Outs.sole rfl goOe) ⟨rfl, rfl⟩
  obtain ⟨s, hs⟩ := at_lt hkl
  have hrow : (S.map Stp.row)[k]? = some [.int s.a, .int s.b, .bool s.r, .ints s.s] := rows_at hs
  have hkl8 : k ≤ 12 := by omega
  have hnx := rstF_app (S.take k) s
  rw [← take_at hs] at hnx
  cases hr : s.r
  all_goals rw [hr] at hnx hrow
  · rw [if_neg (by decide)] at hnx
    have hrs2 : rows = intRows (rstF (S.take (k + 1))) := by rw [hnx, hrs]
    clear hnx hrs
    repeat' (first | refine goH ?_ | refine goV ?_ | refine goB (fun b => ?_) | refine goC (fun ad cap => ?_) | refine goI ?_ | (refine Cw.k_cond ?_; first | (refine Cw.cond_dec rfl (fun hc => ?_) (fun hc => ?_) <;> try (exfalso; omega)) | refine Cw.cond_bool rfl (fun hc => ?_) (fun hc => ?_)) | fail)
    exact ⟨_, _, _, (Ent.mk goSub goTk), ⟨k + 1, _, _, _, _, rfl, ⟨by omega, hrs2, hrl, by omega⟩, rfl, rfl⟩, by omega⟩
  · rw [if_pos rfl] at hnx
    have hrs2 : rows ++ [[Tr.int s.b]] = intRows (rstF (S.take (k + 1))) := by rw [hnx, hrs, intRows_snoc]
    have hrl2 : (rows ++ [[Tr.int s.b]]).length = m + 1 := by rw [List.length_append, hrl]; rfl
    clear hnx hrs
    repeat' (first | refine goH ?_ | refine goV ?_ | refine goB (fun b => ?_) | refine goC (fun ad cap => ?_) | refine goI ?_ | (refine Cw.k_cond ?_; first | (refine Cw.cond_dec rfl (fun hc => ?_) (fun hc => ?_) <;> try (exfalso; omega)) | refine Cw.cond_bool rfl (fun hc => ?_) (fun hc => ?_)) | fail)
    erw [hrl2]
    exact ⟨_, _, _, (Ent.mk goSub goTk), ⟨k + 1, _, _, _, _, rfl, ⟨by omega, hrs2, hrl2, by omega⟩, rfl, rfl⟩, by omega⟩
end Lg
end
section
set_option linter.all false
set_option maxRecDepth 100000
set_option maxHeartbeats 8000000
namespace Lg
open Go Go.Proofs

theorem sameR_fn (r : Rdg) (h : r.vs.length ≤ 1000) : PFn Try.prog 55 [.rdg r, .rdg r] (· = .bool true) := by
  have k1 := equalInts_fn r.vs r.vs (by omega) (by omega)
  rw [decide_eq_true rfl] at k1
  refine PFn.mk (Spec.body Try.func55 rfl rfl (Try.ntmps55) rfl fun w0 own0 M => ?_)
  repeat' (first | refine goH ?_ | refine goV ?_ | refine goB (fun b => ?_) | refine goG ?_ | (refine Ops.k_guard ?_; first | (refine Ops.guard_dec rfl rfl (fun hc => ?_) (fun hc => ?_) <;> try (exfalso; omega)) | refine Ops.guard_split rfl rfl (fun hc => ?_) (fun hc => ?_)) | refine goI ?_ | (refine Cw.k_cond ?_; first | (refine Cw.cond_dec rfl (fun hc => ?_) (fun hc => ?_) <;> try (exfalso; omega)) | refine Cw.cond_bool rfl (fun hc => ?_) (fun hc => ?_)) | (refine Ops.k_calla ?_; first | (refine Ops.k_callf 21 ?_; refine Ops.callV k1 (Evs.cons rfl (Evs.cons rfl Evs.nil)) rfl ?_)) | fail)
  exact Fin.ret (Ent.take goTk) (Outs.one rfl rfl) ⟨rfl, rfl⟩
theorem sameS_fn0 (sa sb : Int) (sr : Bool) (ss : List Int) (h : ss.length ≤ 1000) : PFn Try.prog 57 [.agg [.int sa, .int sb, .bool sr, .ints ss], .agg [.int sa, .int sb, .bool sr, .ints ss]] (· = .bool true) := by
  have k1 := equalInts_fn ss ss (by omega) (by omega)
  rw [decide_eq_true rfl] at k1
  refine PFn.mk (Spec.body Try.func57 rfl rfl (Try.ntmps57) rfl fun w0 own0 M => ?_)
  cases sr
  all_goals
    repeat' (first | refine goH ?_ | refine goV ?_ | refine goB (fun b => ?_) | (refine Ops.k_b_eql ?_; first | refine Ops.eqlB_t (Try.underlying4) rfl rfl rfl rfl ?_) | refine goG ?_ | (refine Ops.k_guard ?_; first | (refine Ops.guard_dec rfl rfl (fun hc => ?_) (fun hc => ?_) <;> try (exfalso; omega)) | refine Ops.guard_split rfl rfl (fun hc => ?_) (fun hc => ?_)) | refine goI ?_ | (refine Cw.k_cond ?_; first | (refine Cw.cond_dec rfl (fun hc => ?_) (fun hc => ?_) <;> try (exfalso; omega)) | refine Cw.cond_bool rfl (fun hc => ?_) (fun hc => ?_)) | (refine Ops.k_calla ?_; first | (refine Ops.k_callf 21 ?_; refine Ops.callV k1 (Evs.cons rfl (Evs.cons rfl Evs.nil)) rfl ?_)) | fail)
    exact Fin.ret (Ent.take goTk) (Outs.one rfl rfl) ⟨rfl, rfl⟩
theorem sameS_fn (s : Stp) (h : s.s.length ≤ 1000) : PFn Try.prog 57 [.agg s.row, .agg s.row] (· = .bool true) := sameS_fn0 s.a s.b s.r s.s h
theorem eqfR_fn (l : List Rdg) (hl : l.length ≤ 1000) (hv : ∀ r ∈ l, r.vs.length ≤ 1000) : PFn Try.prog 54 [.sl 2 (l.map Rdg.row), .sl 2 (l.map Rdg.row), Tr.raw (.func (.func 55) #[] #[])] (· = .bool true) := by
  refine PFn.mk (Spec.body Try.func54 rfl rfl (Try.ntmps54) rfl fun w0 own0 M => ?_)
  have hR : (l.map Rdg.row).length = l.length := List.length_map _
  repeat' (first | refine goH ?_ | refine goV ?_ | refine goB (fun b => ?_) | refine goI ?_ | (refine Cw.k_cond ?_; first | (refine Cw.cond_dec rfl (fun hc => ?_) (fun hc => ?_) <;> try (exfalso; omega)) | refine Cw.cond_bool rfl (fun hc => ?_) (fun hc => ?_)) | fail)
  refine Cw.loopI [(1, _), (2, _), (15, _), (16, _)] _ (fun q e cc => ∃ (k : Nat), q = l.length - k ∧ (k ≤ l.length) ∧ e = [(17, .int k)] ∧ cc = []) ⟨_, _, _, (Ent.mkP goSub goPm), 0, rfl, by omega, rfl, rfl⟩ ?_
  rintro _ _ _ ⟨k, rfl, hk, rfl, rfl⟩
  by_cases hkl : k < l.length
  · obtain ⟨r, hx⟩ := at_lt hkl
    have hr1 : (l.map Rdg.row)[k]? = some [.int r.t, .ints r.vs] := rows_at hx
    have kE := (sameR_fn r (hv r (List.mem_of_getElem? hx))).lend
    repeat' (first | refine goH ?_ | refine goV ?_ | refine goB (fun b => ?_) | refine goI ?_ | (refine Cw.k_cond ?_; first | (refine Cw.cond_dec rfl (fun hc => ?_) (fun hc => ?_) <;> try (exfalso; omega)) | refine Cw.cond_bool rfl (fun hc => ?_) (fun hc => ?_)) | (refine Ops.k_calla ?_; first | refine Ops.callS_fn (caps := []) (args := [.rdg r, .rdg r]) rfl kE (Evs.cons rfl (Evs.cons rfl Evs.nil)) (List.Perm.refl _) rfl ?_) | fail)
    exact ⟨_, _, _, (Ent.mk goSub goTk), ⟨k + 1, rfl, by omega, rfl, rfl⟩, by omega⟩
  · repeat' (first | refine goH ?_ | refine goV ?_ | refine goB (fun b => ?_) | refine goI ?_ | (refine Cw.k_cond ?_; first | (refine Cw.cond_dec rfl (fun hc => ?_) (fun hc => ?_) <;> try (exfalso; omega)) | refine Cw.cond_bool rfl (fun hc => ?_) (fun hc => ?_)) | fail)
    exact Fin.ret (Ent.take goTk) (Outs.one rfl rfl) ⟨rfl, rfl⟩
theorem eqfS_fn (l : List Stp) (hl : l.length ≤ 1000) (hv : ∀ r ∈ l, r.s.length ≤ 1000) : PFn Try.prog 56 [.sl 4 (l.map Stp.row), .sl 4 (l.map Stp.row), Tr.raw (.func (.func 57) #[] #[])] (· = .bool true) := by
  refine PFn.mk (Spec.body Try.func56 rfl rfl (Try.ntmps56) rfl fun w0 own0 M => ?_)
  have hR : (l.map Stp.row).length = l.length := List.length_map _
  repeat' (first | refine goH ?_ | refine goV ?_ | refine goB (fun b => ?_) | refine goI ?_ | (refine Cw.k_cond ?_; first | (refine Cw.cond_dec rfl (fun hc => ?_) (fun hc => ?_) <;> try (exfalso; omega)) | refine Cw.cond_bool rfl (fun hc => ?_) (fun hc => ?_)) | fail)
  refine Cw.loopI [(1, _), (2, _), (15, _), (16, _)] _ (fun q e cc => ∃ (k : Nat), q = l.length - k ∧ (k ≤ l.length) ∧ e = [(17, .int k)] ∧ cc = []) ⟨_, _, _, (Ent.mkP goSub goPm), 0, rfl, by omega, rfl, rfl⟩ ?_
  rintro _ _ _ ⟨k, rfl, hk, rfl, rfl⟩
  by_cases hkl : k < l.length
  · obtain ⟨r, hx⟩ := at_lt hkl
    have hr1 : (l.map Stp.row)[k]? = some [.int r.a, .int r.b, .bool r.r, .ints r.s] := rows_at hx
    have kE := (sameS_fn r (hv r (List.mem_of_getElem? hx))).lend
    rw [Stp.eta] at kE
    repeat' (first | refine goH ?_ | refine goV ?_ | refine goB (fun b => ?_) | refine goI ?_ | (refine Cw.k_cond ?_; first | (refine Cw.cond_dec rfl (fun hc => ?_) (fun hc => ?_) <;> try (exfalso; omega)) | refine Cw.cond_bool rfl (fun hc => ?_) (fun hc => ?_)) | (refine Ops.k_calla ?_; first | refine Ops.callS_fn (caps := []) (args := [.agg [.int r.a, .int r.b, .bool r.r, .ints r.s], .agg [.int r.a, .int r.b, .bool r.r, .ints r.s]]) rfl kE (Evs.cons rfl (Evs.cons rfl Evs.nil)) (List.Perm.refl _) rfl ?_) | fail)
    exact ⟨_, _, _, (Ent.mk goSub goTk), ⟨k + 1, rfl, by omega, rfl, rfl⟩, by omega⟩
  · repeat' (first | refine goH ?_ | refine goV ?_ | refine goB (fun b => ?_) | refine goI ?_ | (refine Cw.k_cond ?_; first | (refine Cw.cond_dec rfl (fun hc => ?_) (fun hc => ?_) <;> try (exfalso; omega)) | refine Cw.cond_bool rfl (fun hc => ?_) (fun hc => ?_)) | fail)
    exact Fin.ret (Ent.take goTk) (Outs.one rfl rfl) ⟨rfl, rfl⟩
theorem sameReadings_fn (l : List Rdg) (hl : l.length ≤ 1000) (hv : ∀ r ∈ l, r.vs.length ≤ 1000) : PFn Try.prog 18 [.sl 2 (l.map Rdg.row), .sl 2 (l.map Rdg.row)] (· = .bool true) := by
  have k3 := eqfR_fn l hl hv
  refine PFn.mk (Spec.body Try.func18 rfl rfl (Try.ntmps18) rfl fun w0 own0 M => ?_)
  repeat' (first | refine goH ?_ | refine goV ?_ | refine goI ?_ | (refine Cw.k_cond ?_; first | (refine Cw.cond_dec rfl (fun hc => ?_) (fun hc => ?_) <;> try (exfalso; omega)) | refine Cw.cond_bool rfl (fun hc => ?_) (fun hc => ?_)) | (refine Ops.k_calla ?_; first | (refine Ops.k_callf 54 ?_; refine Ops.callV k3 (Evs.cons rfl (Evs.cons rfl (Evs.cons rfl Evs.nil))) rfl ?_)) | fail)
  exact Fin.ret (Ent.take goTk) (Outs.one rfl rfl) ⟨rfl, rfl⟩
theorem sameSteps_fn (l : List Stp) (hl : l.length ≤ 1000) (hv : ∀ r ∈ l, r.s.length ≤ 1000) : PFn Try.prog 19 [.sl 4 (l.map Stp.row), .sl 4 (l.map Stp.row)] (· = .bool true) := by
  have k3 := eqfS_fn l hl hv
  refine PFn.mk (Spec.body Try.func19 rfl rfl (Try.ntmps19) rfl fun w0 own0 M => ?_)
  repeat' (first | refine goH ?_ | refine goV ?_ | refine goI ?_ | (refine Cw.k_cond ?_; first | (refine Cw.cond_dec rfl (fun hc => ?_) (fun hc => ?_) <;> try (exfalso; omega)) | refine Cw.cond_bool rfl (fun hc => ?_) (fun hc => ?_)) | (refine Ops.k_calla ?_; first | (refine Ops.k_callf 56 ?_; refine Ops.callV k3 (Evs.cons rfl (Evs.cons rfl (Evs.cons rfl Evs.nil))) rfl ?_)) | fail)
  exact Fin.ret (Ent.take goTk) (Outs.one rfl rfl) ⟨rfl, rfl⟩
end Lg
end
