/- A part of the proof of a law of this seat: it adds no condition. By an AI agent. -/
import Derived.Test.YtkmelphaecmfmaaGreatRd7
section
set_option linter.all false
set_option maxRecDepth 100000
set_option maxHeartbeats 8000000
namespace Lg
open Go Go.Proofs

/-- the count stops behind the limit -/
def capD (lim d : Int) : Int := if d ≤ lim then d else max 0 (lim + 1)
def capL (lim : Int) (ds : List Int) : List Int := ds.map (capD lim)
theorem capL_id {lim : Int} {ds : List Int} (h : ds.any (overB lim) = false) : capL lim ds = ds := by
  unfold capL
  rw [List.any_eq_false] at h
  have : ∀ d ∈ ds, capD lim d = d := by
    intro d hd
    have := h d hd
    simp [overB] at this
    exact if_pos this
  rw [List.map_congr_left this, List.map_id']
theorem capL_at {lim : Int} {ds : List Int} {k : Nat} {d : Int} (h : ds[k]? = some d) : (capL lim ds).take (k + 1) = (capL lim ds).take k ++ [capD lim d] := take_at (by unfold capL; rw [List.getElem?_map, h]; rfl)
attribute [local irreducible] intRows limE difE difL stpsOf capL
theorem stepsOf_fn (c t f : Int) (hm : mtrE c t f = 0) (D : List Rdg) (hD : ∀ r ∈ D, ROk c t r) (hl : D.length ≤ 12) : PFn Tryz.prog 49 [.mtr c t f, .sl 2 (D.map Rdg.row)] (· = .sl 4 ((stpsOf t f D).map Stp.row)) := by
  have hm2 := mtrE_ok hm
  have hDl : (D.map Rdg.row).length = D.length := List.length_map _
  have hsl := stpsOf_len t f D
  obtain ⟨S, hS⟩ : ∃ S, S = stpsOf t f D := ⟨_, rfl⟩
  rw [← hS] at hsl ⊢
  refine PFn.mk (Spec.body Tryz.func49 rfl rfl (Tryz.ntmps49) rfl fun w0 own0 M => ?_)
  repeat' (first | refine goH ?_ | refine goV ?_ | refine goB (fun b => ?_) | refine goC (fun ad cap => ?_) | refine goG ?_ | (refine Ops.k_guard ?_; first | (refine Ops.guard_dec rfl rfl (fun hc => ?_) (fun hc => ?_) <;> try (exfalso; omega)) | refine Ops.guard_split rfl rfl (fun hc => ?_) (fun hc => ?_)) | refine goI ?_ | (refine Cw.k_cond ?_; first | (refine Cw.cond_dec rfl (fun hc => ?_) (fun hc => ?_) <;> try (exfalso; omega)) | refine Cw.cond_bool rfl (fun hc => ?_) (fun hc => ?_)) | refine goR ?_ | refine goP ?_ | apply PSeq.cons | apply PSeq.yes rfl rfl rfl | exact goW | fail)
  rename Nat => b2
  refine Cw.loopI [(1, _), (2, _)] _ (fun q e cc => ∃ (i : Nat) (rows : List (List Tr)) (ad : Option Addr) (cap : Nat) (n5 : Nat), q = D.length - i ∧ (1 ≤ i ∧ (i ≤ D.length ∨ i = 1) ∧ n5 = i - 1 ∧ rows = (S.take n5).map Stp.row ∧ rows.length = n5) ∧ e = [(5, Tr.raw (.slice ad n5 cap)), (6, .int i)] ∧ cc = [Chunk.own ad cap 4 91 rows])
    ⟨_, _, _, Ent.trans (Ent.nil 4 91) (Ent.mkP goSub goPm), 1, [], none, 0, 0, rfl, ⟨by omega, .inr rfl, rfl, rfl, rfl⟩, rfl, rfl⟩ ?_
  rintro _ _ _ ⟨i, rows, ad, cap, n5, rfl, ⟨hi1, hi2, hn5, hrs, hrl⟩, rfl, rfl⟩
  by_cases hil : i < D.length
  rotate_left
  · have hfin : rows = S.map Stp.row := by rw [hrs, List.take_of_length_le (by omega)]
    rw [← hfin]
    subst hrl
    clear hrs hfin
    repeat' (first | refine goH ?_ | refine goV ?_ | refine goB (fun b => ?_) | refine goC (fun ad cap => ?_) | refine goG ?_ | (refine Ops.k_guard ?_; first | (refine Ops.guard_dec rfl rfl (fun hc => ?_) (fun hc => ?_) <;> try (exfalso; omega)) | refine Ops.guard_split rfl rfl (fun hc => ?_) (fun hc => ?_)) | refine goI ?_ | (refine Cw.k_cond ?_; first | (refine Cw.cond_dec rfl (fun hc => ?_) (fun hc => ?_) <;> try (exfalso; omega)) | refine Cw.cond_bool rfl (fun hc => ?_) (fun hc => ?_)) | refine goR ?_ | refine goP ?_ | apply PSeq.cons | apply PSeq.yes rfl rfl rfl | exact goW | fail)
    refine Fin.ret (Ent.trans (Ent.settle (s := 4) rfl goPk rfl) (Ent.take goTk)) (Outs.sole rfl goOe) ⟨rfl, rfl⟩
  obtain ⟨A, hA⟩ := at_lt (l := D) (k := i - 1) (by omega)
  obtain ⟨B, hB⟩ := at_lt hil
  have ha := hD A (List.mem_of_getElem? hA)
  have hb := hD B (List.mem_of_getElem? hB)
  have hSk := stpsOf_at t f hA (by rw [show i - 1 + 1 = i by omega]; exact hB)
  rw [← hS, ← hn5] at hSk
  have rA : (D.map Rdg.row)[((i : Int) - 1).toNat]? = some [.int A.t, .ints A.vs] := rows_at (by rw [show ((i : Int) - 1).toNat = i - 1 by omega]; exact hA)
  have rB : (D.map Rdg.row)[((i : Nat) : Int).toNat]? = some [.int B.t, .ints B.vs] := rows_at (by rw [Int.toNat_natCast]; exact hB)
  obtain ⟨⟨hmul1, hmul2⟩, hlim1, hlim2⟩ := limE_bd hm ha.t0 hb.t0
  obtain ⟨lim, hlim⟩ : ∃ lim, lim = limE t f A.t B.t := ⟨_, rfl⟩
  have hlimU : min (f * (B.t / 1440 - A.t / 1440 + 1)) (t - 1) = lim := by rw [hlim]; unfold limE; rfl
  rw [← hlim] at hlim1 hlim2
  have ht1 := ha.t0
  have ht2 := hb.t0
  obtain ⟨n, hn⟩ : ∃ n, n = B.vs.length := ⟨_, rfl⟩
  have hnb : Unit → B.vs.length = n := fun _ => hn.symm
  have hna : Unit → A.vs.length = n := fun _ => by have h1 := ha.n; have h2 := hb.n; omega
  have hn60 : n ≤ 60 := by have h2 := hb.n; omega
  have hAr := (intRows_len A.vs).trans (hna ())
  have hBr := (intRows_len B.vs).trans (hnb ())
  have hdl : (difL t A.vs B.vs).length = n := by rw [difL_len t (by rw [hna (), hnb ()])]; exact hna ()
  have kC := (clone_int (intRows B.vs) (intRows_k _) (by omega)).val
  have hP : stpOf t f A B = if (difL t A.vs B.vs).any (overB lim) = true then ⟨A.t, B.t, true, B.vs⟩ else ⟨A.t, B.t, false, difL t A.vs B.vs⟩ := by unfold stpOf; rw [hlim]
  have hrs0 := hrs
  clear hn hlim hrs
  repeat' (first | refine goH ?_ | refine goV ?_ | refine goB (fun b => ?_) | refine goC (fun ad cap => ?_) | refine goG ?_ | (refine Ops.k_guard ?_; first | (refine Ops.guard_dec rfl rfl (fun hc => ?_) (fun hc => ?_) <;> try (exfalso; omega)) | refine Ops.guard_split rfl rfl (fun hc => ?_) (fun hc => ?_)) | refine goI ?_ | (refine Cw.k_cond ?_; first | (refine Cw.cond_dec rfl (fun hc => ?_) (fun hc => ?_) <;> try (exfalso; omega)) | refine Cw.cond_bool rfl (fun hc => ?_) (fun hc => ?_)) | fail)
  first | refine Cw.region_YP (fun ξ S => Chunk.own ad cap 4 91 rows :: Chunk.box b2 35 [.int c, .int t, .int f] :: (stg (S 9) [] [Chunk.box (blk (ξ 9)) 77 (stg (S 11) [Tr.raw (.int .i64 0), Tr.raw (.slice none 0 0)] [.int A.t, .ints A.vs])] ++ (stg (S 10) [] [Chunk.box (blk (ξ 10)) 77 (stg (S 12) [Tr.raw (.int .i64 0), Tr.raw (.slice none 0 0)] [.int B.t, .ints B.vs])] ++ []))) rfl (by decide +kernel) rfl ((fun (ξ : Nat → Value) (S : Nat → Bool) => Chunk.own ad cap 4 91 rows :: Chunk.box b2 35 [.int c, .int t, .int f] :: (stg (S 9) [] [Chunk.box (blk (ξ 9)) 77 (stg (S 11) [Tr.raw (.int .i64 0), Tr.raw (.slice none 0 0)] [.int A.t, .ints A.vs])] ++ (stg (S 10) [] [Chunk.box (blk (ξ 10)) 77 (stg (S 12) [Tr.raw (.int .i64 0), Tr.raw (.slice none 0 0)] [.int B.t, .ints B.vs])] ++ []))) (fun _ => undef) (fun _ => false)) (by simp only [upd_same, updD_same, upd_ne, updD_ne, ne_eq, Nat.reduceEqDiff, not_false_eq_true, stg_t, stg_f, vAd_s, vCap_s, blk_p, List.cons_append, List.nil_append, b2n_t, b2n_f]; exact goXm) (fun _ => rfl) ?_ | fail
  apply YSeq.w (by intro _ _ _; rfl)
  · intro ξ S h1 h2 h3 h4
    have hN0_11 := closed_false h1 h3 (k := 11) rfl (by decide)
    have hN0_12 := closed_false h1 h3 (k := 12) rfl (by decide)
    try simp only [upd_same, updD_same, upd_ne, updD_ne, ne_eq, Nat.reduceEqDiff, not_false_eq_true, stg_t, stg_f, vAd_s, vCap_s, blk_p, List.cons_append, List.nil_append, b2n_t, b2n_f, hN0_11, hN0_12]
    exact goW
  · intro ξ v; rfl
  · intro ξ k v S h3 hn hk
    first
    | rfl
  apply YSeq.w (by intro _ _ _; rfl)
  · intro ξ S h1 h2 h3 h4
    have hN1_11 := closed_false h1 h3 (k := 11) rfl (by decide)
    have hN1_12 := closed_false h1 h3 (k := 12) rfl (by decide)
    try simp only [upd_same, updD_same, upd_ne, updD_ne, ne_eq, Nat.reduceEqDiff, not_false_eq_true, stg_t, stg_f, vAd_s, vCap_s, blk_p, List.cons_append, List.nil_append, b2n_t, b2n_f, hN1_11, hN1_12]
    exact goW
  · intro ξ v; rfl
  · intro ξ k v S h3 hn hk
    first
    | rfl
  apply YSeq.w (by intro _ _ _; rfl)
  · intro ξ S h1 h2 h3 h4
    have hN2_11 := closed_false h1 h3 (k := 11) rfl (by decide)
    have hN2_12 := closed_false h1 h3 (k := 12) rfl (by decide)
    try simp only [upd_same, updD_same, upd_ne, updD_ne, ne_eq, Nat.reduceEqDiff, not_false_eq_true, stg_t, stg_f, vAd_s, vCap_s, blk_p, List.cons_append, List.nil_append, b2n_t, b2n_f, hN2_11, hN2_12]
    exact goW
  · intro ξ v; rfl
  · intro ξ k v S h3 hn hk
    first
    | rfl
  apply YSeq.w (by intro _ _ _; rfl)
  · intro ξ S h1 h2 h3 h4
    have hN3_11 := closed_false h1 h3 (k := 11) rfl (by decide)
    have hN3_12 := closed_false h1 h3 (k := 12) rfl (by decide)
    try simp only [upd_same, updD_same, upd_ne, updD_ne, ne_eq, Nat.reduceEqDiff, not_false_eq_true, stg_t, stg_f, vAd_s, vCap_s, blk_p, List.cons_append, List.nil_append, b2n_t, b2n_f, hN3_11, hN3_12]
    exact goW
  · intro ξ v; rfl
  · intro ξ k v S h3 hn hk
    first
    | rfl
  apply YSeq.w (by intro _ _ _; rfl)
  · intro ξ S h1 h2 h3 h4
    have hN4_11 := closed_false h1 h3 (k := 11) rfl (by decide)
    have hN4_12 := closed_false h1 h3 (k := 12) rfl (by decide)
    try simp only [upd_same, updD_same, upd_ne, updD_ne, ne_eq, Nat.reduceEqDiff, not_false_eq_true, stg_t, stg_f, vAd_s, vCap_s, blk_p, List.cons_append, List.nil_append, b2n_t, b2n_f, hN4_11, hN4_12]
    exact goW
  · intro ξ v; rfl
  · intro ξ k v S h3 hn hk
    first
    | rfl
  apply YSeq.w (by intro _ _ _; rfl)
  · intro ξ S h1 h2 h3 h4
    have hN5_12 := closed_false h1 h3 (k := 12) rfl (by decide)
    try simp only [upd_same, updD_same, upd_ne, updD_ne, ne_eq, Nat.reduceEqDiff, not_false_eq_true, stg_t, stg_f, vAd_s, vCap_s, blk_p, List.cons_append, List.nil_append, b2n_t, b2n_f, hN5_12]
    exact goW
  · intro ξ v; rfl
  · intro ξ k v S h3 hn hk
    first
    | rfl
  apply YSeq.w (by intro _ _ _; rfl)
  · intro ξ S h1 h2 h3 h4
    have hN6_12 := closed_false h1 h3 (k := 12) rfl (by decide)
    try simp only [upd_same, updD_same, upd_ne, updD_ne, ne_eq, Nat.reduceEqDiff, not_false_eq_true, stg_t, stg_f, vAd_s, vCap_s, blk_p, List.cons_append, List.nil_append, b2n_t, b2n_f, hN6_12]
    exact goW
  · intro ξ v; rfl
  · intro ξ k v S h3 hn hk
    first
    | rfl
  apply YSeq.w (by intro _ _ _; rfl)
  · intro ξ S h1 h2 h3 h4
    have hN7_12 := closed_false h1 h3 (k := 12) rfl (by decide)
    try simp only [upd_same, updD_same, upd_ne, updD_ne, ne_eq, Nat.reduceEqDiff, not_false_eq_true, stg_t, stg_f, vAd_s, vCap_s, blk_p, List.cons_append, List.nil_append, b2n_t, b2n_f, hN7_12]
    exact goW
  · intro ξ v; rfl
  · intro ξ k v S h3 hn hk
    first
    | rfl
  apply YSeq.w (by intro _ _ _; rfl)
  · intro ξ S h1 h2 h3 h4
    have hN8_12 := closed_false h1 h3 (k := 12) rfl (by decide)
    try simp only [upd_same, updD_same, upd_ne, updD_ne, ne_eq, Nat.reduceEqDiff, not_false_eq_true, stg_t, stg_f, vAd_s, vCap_s, blk_p, List.cons_append, List.nil_append, b2n_t, b2n_f, hN8_12]
    exact goW
  · intro ξ v; rfl
  · intro ξ k v S h3 hn hk
    first
    | rfl
  apply YSeq.alloc
  · intro ξ S b h1 h3
    have hN9_11 := closed_false h1 h3 (k := 11) rfl (by decide)
    have hN9_12 := closed_false h1 h3 (k := 12) rfl (by decide)
    simp only [upd_same, updD_same, upd_ne, updD_ne, ne_eq, Nat.reduceEqDiff, not_false_eq_true, stg_t, stg_f, vAd_s, vCap_s, blk_p, List.cons_append, List.nil_append, b2n_t, b2n_f, h1, hN9_11, hN9_12]
    exact goXm
  apply YSeq.alloc
  · intro ξ S b h1 h3
    have hN10_11 := closed_false h1 h3 (k := 11) rfl (by decide)
    have hN10_12 := closed_false h1 h3 (k := 12) rfl (by decide)
    simp only [upd_same, updD_same, upd_ne, updD_ne, ne_eq, Nat.reduceEqDiff, not_false_eq_true, stg_t, stg_f, vAd_s, vCap_s, blk_p, List.cons_append, List.nil_append, b2n_t, b2n_f, h1, hN10_11, hN10_12]
    exact goXm
  apply YSeq.store
  · intro ξ S h1 h2 h3 h4
    have hY11_9 : S 9 = true := h2 9 (by decide)
    have hY11_10 : S 10 = true := h2 10 (by decide)
    have hN11_12 := closed_false h1 h3 (k := 12) rfl (by decide)
    simp only [upd_same, updD_same, upd_ne, updD_ne, ne_eq, Nat.reduceEqDiff, not_false_eq_true, stg_t, stg_f, vAd_s, vCap_s, blk_p, List.cons_append, List.nil_append, b2n_t, b2n_f, hY11_9, hY11_10, h1, hN11_12]
    refine ⟨_, _, _, _, _, _, _, rfl, rfl, inferInstance, goXp, rfl, Nat.le_of_ble_eq_true rfl, ?_⟩
    exact goXm
  apply YSeq.store
  · intro ξ S h1 h2 h3 h4
    have hY12_9 : S 9 = true := h2 9 (by decide)
    have hY12_10 : S 10 = true := h2 10 (by decide)
    have hY12_11 : S 11 = true := h2 11 (by decide)
    simp only [upd_same, updD_same, upd_ne, updD_ne, ne_eq, Nat.reduceEqDiff, not_false_eq_true, stg_t, stg_f, vAd_s, vCap_s, blk_p, List.cons_append, List.nil_append, b2n_t, b2n_f, hY12_9, hY12_10, hY12_11, h1]
    refine ⟨_, _, _, _, _, _, _, rfl, rfl, inferInstance, goXp, rfl, Nat.le_of_ble_eq_true rfl, ?_⟩
    exact goXm
  refine YSeq.nil fun ξ hf => ?_
  refine ⟨[(1, _), (2, _), (5, _), (6, _), (7, _), (8, _)], _, Ent.trans (Ent.eqc rfl (by first | (simp only [upd_same, updD_same, upd_ne, updD_ne, ne_eq, Nat.reduceEqDiff, not_false_eq_true, stg_t, stg_f, vAd_s, vCap_s, blk_p, List.cons_append, List.nil_append, b2n_t, b2n_f, ownV, slV, ptV] <;> rfl) | rfl)) (Ent.sub goSub), ?_⟩
  clear hf
  generalize blk (ξ 9) = b7
  generalize blk (ξ 10) = b8
  clear rA rB
  repeat' (first | refine goH ?_ | (refine Ops.k_c_min ?_; first | (refine Ops.min2 rfl rfl rfl ?_; rw [hlimU])) | refine goV ?_ | refine goB (fun b => ?_) | refine goC (fun ad cap => ?_) | refine goG ?_ | (refine Ops.k_guard ?_; first | (refine Ops.guard_dec rfl rfl (fun hc => ?_) (fun hc => ?_) <;> try (exfalso; omega)) | refine Ops.guard_split rfl rfl (fun hc => ?_) (fun hc => ?_)) | refine goI ?_ | (refine Cw.k_cond ?_; first | (refine Cw.cond_dec rfl (fun hc => ?_) (fun hc => ?_) <;> try (exfalso; omega)) | refine Cw.cond_bool rfl (fun hc => ?_) (fun hc => ?_)) | refine goR ?_ | refine goP ?_ | apply PSeq.cons | apply PSeq.yes rfl rfl rfl | exact goW | fail)
  rename Nat => b11
  refine Cw.loopI [(1, _), (2, _), (5, _), (6, _), (7, _), (8, _), (10, _), (11, _), (52, _)] _ (fun q e cc => ∃ (k : Nat) (ds : List Int) (rs : List (List Tr)) (ad2 : Option Addr) (cap2 : Nat) (fl : Bool), q = n - k ∧ (k ≤ n ∧ fl = ds.any (overB lim) ∧ ds = (difL t A.vs B.vs).take k ∧ rs = intRows ((capL lim (difL t A.vs B.vs)).take k) ∧ rs.length = k) ∧ e = [(53, .int k)] ∧ cc = [Chunk.box b11 91 [.int A.t, .int B.t, .bool fl, Tr.raw (.slice ad2 k cap2)], Chunk.own ad2 cap2 1 3 rs])
    ⟨_, _, _, Ent.trans (Ent.nil 1 3) (Ent.mkP goSub goPm), 0, [], [], none, 0, false, rfl, ⟨by omega, rfl, rfl, intRows_nil.symm, rfl⟩, rfl, rfl⟩ ?_
  rintro _ _ _ ⟨k, ds, rs, ad2, cap2, fl, rfl, ⟨hk, hfl, hds, hrs, hrsl⟩, rfl, rfl⟩
  by_cases hkn : k < n
  · obtain ⟨x, hx⟩ := at_lt (l := A.vs) (k := k) (by rw [hna ()]; exact hkn)
    obtain ⟨y, hy⟩ := at_lt (l := B.vs) (k := k) (by rw [hnb ()]; exact hkn)
    have r1 := intRows_at hx
    have r2 := intRows_at hy
    have hxv := ha.v x (List.mem_of_getElem? hx)
    have hyv := hb.v y (List.mem_of_getElem? hy)
    have hd := difL_at t hx hy
    obtain ⟨d, hdd⟩ : ∃ d, d = difE t x y := ⟨_, rfl⟩
    have hdb : 0 ≤ d ∧ d < t := by rw [hdd]; exact difE_bd hxv hyv
    have hfd : ∀ q : Int, 0 ≤ q → q ≤ d → ((x + q) % t = y ↔ q = d) := fun q h1 h2 => by rw [hdd] at h2 ⊢; exact dif_found (by omega) hxv hyv h1 h2
    rw [← hdd] at hd
    have hat := any_take (p := overB lim) hd
    rw [← hds] at hat
    have hds2 : ds ++ [d] = (difL t A.vs B.vs).take (k + 1) := by rw [take_at hd, hds]
    have hcap := capL_at (lim := lim) hd
    have hov : overB lim d = decide (lim < d) := rfl
    have hcd : capD lim d = if d ≤ lim then d else max 0 (lim + 1) := rfl
    obtain ⟨cd, hcd1⟩ : ∃ cd, cd = capD lim d := ⟨_, rfl⟩
    rw [← hcd1] at hcap hcd
    have hcdc : (d ≤ lim ∧ cd = d) ∨ (lim < d ∧ cd = max 0 (lim + 1)) := by
      by_cases g : d ≤ lim
      · exact .inl ⟨g, by rw [hcd, if_pos g]⟩
      · exact .inr ⟨by omega, by rw [hcd, if_neg g]⟩
    have hrs2 : rs ++ [[Tr.int cd]] = intRows ((capL lim (difL t A.vs B.vs)).take (k + 1)) := by rw [hcap, hrs, intRows_snoc]
    have hrsl2 : (rs ++ [[Tr.int cd]]).length = k + 1 := by rw [List.length_append, hrsl]; rfl
    have hfl2 : (ds ++ [d]).any (overB lim) = (fl || decide (lim < d)) := by rw [List.any_append, ← hfl, ← hov]; simp
    clear hdd hd hcd hcd1 hcap hrs hat hov
    have DONE : True := trivial
    repeat' (first | refine goH ?_ | refine goV ?_ | refine goB (fun b => ?_) | refine goC (fun ad cap => ?_) | refine goG ?_ | (refine Ops.k_guard ?_; first | (refine Ops.guard_dec rfl rfl (fun hc => ?_) (fun hc => ?_) <;> try (exfalso; omega)) | refine Ops.guard_split rfl rfl (fun hc => ?_) (fun hc => ?_)) | refine goI ?_ | (refine Cw.k_cond ?_; first | (refine Cw.cond_dec rfl (fun hc => ?_) (fun hc => ?_) <;> try (exfalso; omega)) | refine Cw.cond_bool rfl (fun hc => ?_) (fun hc => ?_)) | refine goR ?_ | refine goP ?_ | apply PSeq.cons | apply PSeq.yes rfl rfl rfl | exact goW | fail)
    refine Cw.loopI [(1, _), (2, _), (5, _), (6, _), (7, _), (8, _), (10, _), (11, _), (12, _), (52, _), (53, _)] _ (fun q e cc => ∃ (p : Int), q = (lim + 1 - p).toNat ∧ (0 ≤ p ∧ p ≤ d ∧ (p ≤ lim + 1 ∨ p = 0)) ∧ e = [(13, .int p)] ∧ cc = []) ⟨_, _, _, (Ent.mkP goSub goPm), 0, rfl, ⟨by omega, by omega, .inr rfl⟩, rfl, rfl⟩ ?_
    rintro _ _ _ ⟨p, rfl, ⟨hp0, hpd, hpl⟩, rfl, rfl⟩
    have hq := hfd p hp0 hpd
    clear hfd
    by_cases hpe : p = d
    · have e1 : (x + p) % t = y := hq.2 hpe
      have hpc : p = cd := by omega
      have hfl3 : fl = true → true = (ds ++ [d]).any (overB lim) := fun h => by rw [hfl2, h, Bool.true_or]
      have hfl4 : fl = false → decide (lim < p) = (ds ++ [d]).any (overB lim) := fun h => by rw [hfl2, h, Bool.false_or, hpe]
      clear hq hfl2 hfl
      subst hpc
      repeat' (first | refine goH ?_ | refine goV ?_ | refine goB (fun b => ?_) | refine goC (fun ad cap => ?_) | refine goG ?_ | (refine Ops.k_guard ?_; first | (refine Ops.guard_dec rfl rfl (fun hc => ?_) (fun hc => ?_) <;> try (exfalso; omega)) | refine Ops.guard_split rfl rfl (fun hc => ?_) (fun hc => ?_)) | refine goI ?_ | (refine Cw.k_cond ?_; first | (refine Cw.cond_dec rfl (fun hc => ?_) (fun hc => ?_) <;> try (exfalso; omega)) | refine Cw.cond_bool rfl (fun hc => ?_) (fun hc => ?_)) | refine goR ?_ | refine goP ?_ | apply PSeq.cons | apply PSeq.yes rfl rfl rfl | exact goW | fail)
      · rw [hrsl2]
        exact ⟨_, _, _, (Ent.mk goSub goTk), ⟨k + 1, ds ++ [d], _, _, _, true, rfl, ⟨by omega, hfl3 (by assumption), hds2, hrs2, hrsl2⟩, rfl, rfl⟩, by omega⟩
      · rw [hrsl2]
        exact ⟨_, _, _, (Ent.mk goSub goTk), ⟨k + 1, ds ++ [d], _, _, _, decide (lim < p), rfl, ⟨by omega, hfl4 (by assumption), hds2, hrs2, hrsl2⟩, rfl, rfl⟩, by omega⟩
    · have e1 : ¬ (x + p) % t = y := fun h => hpe (hq.1 h)
      by_cases hpl2 : p ≤ lim
      · clear hq hfl2 hfl
        repeat' (first | refine goH ?_ | refine goV ?_ | refine goB (fun b => ?_) | refine goC (fun ad cap => ?_) | refine goG ?_ | (refine Ops.k_guard ?_; first | (refine Ops.guard_dec rfl rfl (fun hc => ?_) (fun hc => ?_) <;> try (exfalso; omega)) | refine Ops.guard_split rfl rfl (fun hc => ?_) (fun hc => ?_)) | refine goI ?_ | (refine Cw.k_cond ?_; first | (refine Cw.cond_dec rfl (fun hc => ?_) (fun hc => ?_) <;> try (exfalso; omega)) | refine Cw.cond_bool rfl (fun hc => ?_) (fun hc => ?_)) | refine goR ?_ | refine goP ?_ | apply PSeq.cons | apply PSeq.yes rfl rfl rfl | exact goW | fail)
        exact ⟨_, _, _, (Ent.mk goSub goTk), ⟨p + 1, rfl, ⟨by omega, by omega, by omega⟩, rfl, rfl⟩, by omega⟩
      · have hpc : p = cd := by omega
        have hfl3 : fl = true → true = (ds ++ [d]).any (overB lim) := fun h => by rw [hfl2, h, Bool.true_or]
        have hfl4 : fl = false → decide (lim < p) = (ds ++ [d]).any (overB lim) := fun h => by
          rw [hfl2, h, Bool.false_or, decide_eq_true (by omega), decide_eq_true (by omega)]
        clear hq hfl2 hfl
        subst hpc
        repeat' (first | refine goH ?_ | refine goV ?_ | refine goB (fun b => ?_) | refine goC (fun ad cap => ?_) | refine goG ?_ | (refine Ops.k_guard ?_; first | (refine Ops.guard_dec rfl rfl (fun hc => ?_) (fun hc => ?_) <;> try (exfalso; omega)) | refine Ops.guard_split rfl rfl (fun hc => ?_) (fun hc => ?_)) | refine goI ?_ | (refine Cw.k_cond ?_; first | (refine Cw.cond_dec rfl (fun hc => ?_) (fun hc => ?_) <;> try (exfalso; omega)) | refine Cw.cond_bool rfl (fun hc => ?_) (fun hc => ?_)) | refine goR ?_ | refine goP ?_ | apply PSeq.cons | apply PSeq.yes rfl rfl rfl | exact goW | fail)
        · rw [hrsl2]
          exact ⟨_, _, _, (Ent.mk goSub goTk), ⟨k + 1, ds ++ [d], _, _, _, true, rfl, ⟨by omega, hfl3 (by assumption), hds2, hrs2, hrsl2⟩, rfl, rfl⟩, by omega⟩
        · rw [hrsl2]
          exact ⟨_, _, _, (Ent.mk goSub goTk), ⟨k + 1, ds ++ [d], _, _, _, decide (lim < p), rfl, ⟨by omega, hfl4 (by assumption), hds2, hrs2, hrsl2⟩, rfl, rfl⟩, by omega⟩
  · have hdf : ds = difL t A.vs B.vs := by rw [hds, List.take_of_length_le (by omega)]
    have hrf : rs = intRows (capL lim (difL t A.vs B.vs)) := by rw [hrs, List.take_of_length_le (by unfold capL; rw [List.length_map]; omega)]
    rw [hdf] at hfl
    rw [← hfl] at hP
    clear hds hdf hrs
    have hst : ∀ row : List Tr, (stpOf t f A B).row = row → rows ++ [row] = (S.take (n5 + 1)).map Stp.row := by
      intro row h
      rw [take_at hSk, List.map_append, ← hrs0, ← h]
      rfl
    have hrl2 : ∀ row : List Tr, (rows ++ [row]).length = n5 + 1 := fun row => by rw [List.length_append, hrl]; rfl
    repeat' (first | refine goH ?_ | ((fail_if_success refine Ops.k_load ?_); refine goV ?_) | ((fail_if_success refine Ops.k_load ?_); refine goB (fun b => ?_)) | ((fail_if_success refine Ops.k_load ?_); refine goC (fun ad cap => ?_)) | refine goG ?_ | (refine Ops.k_guard ?_; first | (refine Ops.guard_dec rfl rfl (fun hc => ?_) (fun hc => ?_) <;> try (exfalso; omega)) | refine Ops.guard_split rfl rfl (fun hc => ?_) (fun hc => ?_)) | refine goI ?_ | (refine Cw.k_cond ?_; first | (refine Cw.cond_dec rfl (fun hc => ?_) (fun hc => ?_) <;> try (exfalso; omega)) | refine Cw.cond_bool rfl (fun hc => ?_) (fun hc => ?_)) | refine goR ?_ | refine goP ?_ | apply PSeq.cons | apply PSeq.yes rfl rfl rfl | exact goW | fail)
    refine Ops.ent (Ent.settle_box (b := b11) (i := 3) (ad := ad2) (kk := 1) (rows := rs) (by exact Perm.cons' goPk (Perm.cons' goPk (List.Perm.refl _))) rfl (by rw [hrsl]) rfl) ?_
    cases fl
    · rw [if_neg (by decide)] at hP
      rw [capL_id hfl.symm] at hrf
      subst hrf
      have hq := hst [.int A.t, .int B.t, .bool false, .ints (difL t A.vs B.vs)] (by rw [hP]; rfl)
      have hq2 := hrl2 [.int A.t, .int B.t, .bool false, .ints (difL t A.vs B.vs)]
      clear hst hrl2 hP hfl
      repeat' (first | refine goH ?_ | refine goV ?_ | refine goB (fun b => ?_) | refine goC (fun ad cap => ?_) | refine goG ?_ | (refine Ops.k_guard ?_; first | (refine Ops.guard_dec rfl rfl (fun hc => ?_) (fun hc => ?_) <;> try (exfalso; omega)) | refine Ops.guard_split rfl rfl (fun hc => ?_) (fun hc => ?_)) | refine goI ?_ | (refine Cw.k_cond ?_; first | (refine Cw.cond_dec rfl (fun hc => ?_) (fun hc => ?_) <;> try (exfalso; omega)) | refine Cw.cond_bool rfl (fun hc => ?_) (fun hc => ?_)) | refine goR ?_ | refine goP ?_ | apply PSeq.cons | apply PSeq.yes rfl rfl rfl | exact goW | fail)
      erw [hq2]
      exact ⟨_, _, _, (Ent.mk goSub goTk), ⟨i + 1, _, _, _, n5 + 1, rfl, ⟨by omega, by omega, by omega, hq, hq2⟩, rfl, rfl⟩, by omega⟩
    · rw [if_pos rfl] at hP
      have hq := hst [.int A.t, .int B.t, .bool true, .ints B.vs] (by rw [hP]; rfl)
      have hq2 := hrl2 [.int A.t, .int B.t, .bool true, .ints B.vs]
      clear hst hrl2 hP hfl
      repeat' (first | refine goH ?_ | refine goV ?_ | refine goB (fun b => ?_) | refine goC (fun ad cap => ?_) | refine goG ?_ | (refine Ops.k_guard ?_; first | (refine Ops.guard_dec rfl rfl (fun hc => ?_) (fun hc => ?_) <;> try (exfalso; omega)) | refine Ops.guard_split rfl rfl (fun hc => ?_) (fun hc => ?_)) | refine goI ?_ | (refine Cw.k_cond ?_; first | (refine Cw.cond_dec rfl (fun hc => ?_) (fun hc => ?_) <;> try (exfalso; omega)) | refine Cw.cond_bool rfl (fun hc => ?_) (fun hc => ?_)) | (refine Ops.k_calla ?_; first | (refine Ops.k_callf 39 ?_; refine Ops.callV kC (Evs.cons rfl Evs.nil) rfl ?_)) | (apply OpW.k_call; first | (apply OpW.k_callf 39; exact OpW.callV kC (Evs.cons rfl Evs.nil))) | refine goR ?_ | refine goP ?_ | apply PSeq.cons | apply PSeq.yes rfl rfl rfl | exact goW | fail)
      erw [hq2]
      exact ⟨_, _, _, (Ent.mk goSub goTk), ⟨i + 1, _, _, _, n5 + 1, rfl, ⟨by omega, by omega, by omega, hq, hq2⟩, rfl, rfl⟩, by omega⟩
end Lg
end
section
set_option linter.all false
set_option maxRecDepth 100000
set_option maxHeartbeats 8000000
namespace Lg
open Go Go.Proofs

def stsO (t f : Int) (D : List Rdg) (e : Int) : Tr := if e = 0 then .tup [.sl 4 ((stpsOf t f D).map Stp.row), .int 0] else .tup [.sl 4 [], .int e]
theorem Stp.eta (s : Stp) : s.row = [.int s.a, .int s.b, .bool s.r, .ints s.s] := rfl
attribute [local irreducible] intRows limE difE difL stpsOf stpOf srtO
theorem steps_fn (c t f : Int) (l : List Rdg) (hl : l.length ≤ 12) (hv : ∀ r ∈ l, r.vs.length ≤ 1000) (ht : -1000000000000 ≤ t ∧ t ≤ 1000000000000) {D : List Rdg} {e : Int} (hs : srtO c t f l = .tup [.sl 2 (D.map Rdg.row), .int e]) (h0 : e = 0 → mtrE c t f = 0 ∧ (∀ r ∈ D, ROk c t r) ∧ D.length ≤ l.length) : PFn Tryz.prog 46 [.mtr c t f, .sl 2 (l.map Rdg.row)] (· = stsO t f D e) := by
  have k1 := sort_fn c t f l hl hv ht
  rw [hs] at k1
  clear hs
  unfold stsO
  refine PFn.mk (Spec.body Tryz.func46 rfl rfl (Tryz.ntmps46) rfl fun w0 own0 M => ?_)
  by_cases he : e = 0
  rotate_left
  · rw [if_neg he]
    repeat' (first | refine goH ?_ | refine goV ?_ | refine goB (fun b => ?_) | refine goC (fun ad cap => ?_) | refine goI ?_ | (refine Cw.k_cond ?_; first | (refine Cw.cond_dec rfl (fun hc => ?_) (fun hc => ?_) <;> try (exfalso; omega)) | refine Cw.cond_bool rfl (fun hc => ?_) (fun hc => ?_)) | (refine Ops.k_calla ?_; first | (refine Ops.k_callf 68 ?_; refine Ops.callV k1 (Evs.cons rfl (Evs.cons rfl Evs.nil)) rfl ?_)) | (apply OpW.k_call; first | (apply OpW.k_callf 68; exact OpW.callV k1 (Evs.cons rfl (Evs.cons rfl Evs.nil)))) | refine goR ?_ | refine goP ?_ | apply PSeq.cons | apply PSeq.yes rfl rfl rfl | exact goW | fail)
    refine Fin.ret (Ent.trans (Ent.nilsl 4 (s := 4) rfl) (Ent.take goTk)) (Outs.many rfl (OutL.cons goOe (OutL.cons goOe OutL.nil)) rfl) ⟨rfl, rfl⟩
  rw [if_pos he]
  obtain ⟨hm, hD, hDl⟩ := h0 he
  subst he
  have hDL : (D.map Rdg.row).length = D.length := List.length_map _
  have hsl := stpsOf_len t f D
  obtain ⟨S, hS⟩ : ∃ S, S = stpsOf t f D := ⟨_, rfl⟩
  rw [← hS] at hsl ⊢
  repeat' (first | refine goH ?_ | refine goV ?_ | refine goB (fun b => ?_) | refine goC (fun ad cap => ?_) | refine goI ?_ | (refine Cw.k_cond ?_; first | (refine Cw.cond_dec rfl (fun hc => ?_) (fun hc => ?_) <;> try (exfalso; omega)) | refine Cw.cond_bool rfl (fun hc => ?_) (fun hc => ?_)) | (refine Ops.k_calla ?_; first | (refine Ops.k_callf 68 ?_; refine Ops.callV k1 (Evs.cons rfl (Evs.cons rfl Evs.nil)) rfl ?_)) | (apply OpW.k_call; first | (apply OpW.k_callf 68; exact OpW.callV k1 (Evs.cons rfl (Evs.cons rfl Evs.nil)))) | refine goR ?_ | refine goP ?_ | apply PSeq.cons | apply PSeq.yes rfl rfl rfl | exact goW | fail)
  rename Nat => b2
  refine Cw.loopI [(2, _), (6, _)] _ (fun q e cc => ∃ (i : Nat) (rows : List (List Tr)) (ad : Option Addr) (cap : Nat) (n5 : Nat), q = D.length - i ∧ (1 ≤ i ∧ (i ≤ D.length ∨ i = 1) ∧ n5 = i - 1 ∧ rows = (S.take n5).map Stp.row ∧ rows.length = n5) ∧ e = [(8, Tr.raw (.slice ad n5 cap)), (9, .int i)] ∧ cc = [Chunk.own ad cap 4 91 rows])
    ⟨_, _, _, Ent.trans (Ent.nil 4 91) (Ent.mkP goSub goPm), 1, [], none, 0, 0, rfl, ⟨by omega, .inr rfl, rfl, rfl, rfl⟩, rfl, rfl⟩ ?_
  rintro _ _ _ ⟨i, rows, ad, cap, n5, rfl, ⟨hi1, hi2, hn5, hrs, hrl⟩, rfl, rfl⟩
  by_cases hil : i < D.length
  rotate_left
  · have hfin : rows = S.map Stp.row := by rw [hrs, List.take_of_length_le (by omega)]
    rw [← hfin]
    subst hrl
    clear hrs hfin
    repeat' (first | refine goH ?_ | refine goV ?_ | refine goB (fun b => ?_) | refine goC (fun ad cap => ?_) | refine goI ?_ | (refine Cw.k_cond ?_; first | (refine Cw.cond_dec rfl (fun hc => ?_) (fun hc => ?_) <;> try (exfalso; omega)) | refine Cw.cond_bool rfl (fun hc => ?_) (fun hc => ?_)) | refine goR ?_ | refine goP ?_ | apply PSeq.cons | apply PSeq.yes rfl rfl rfl | exact goW | fail)
    refine Fin.ret (Ent.trans (Ent.settle (s := 4) rfl goPk rfl) (Ent.take goTk)) (Outs.many rfl (OutL.cons goOe (OutL.cons goOe OutL.nil)) rfl) ⟨rfl, rfl⟩
  obtain ⟨A, hA⟩ := at_lt (l := D) (k := i - 1) (by omega)
  obtain ⟨B, hB⟩ := at_lt hil
  have ha := hD A (List.mem_of_getElem? hA)
  have hb := hD B (List.mem_of_getElem? hB)
  have hSk := stpsOf_at t f hA (by rw [show i - 1 + 1 = i by omega]; exact hB)
  rw [← hS, ← hn5] at hSk
  have rA : (D.map Rdg.row)[((i : Int) - 1).toNat]? = some [.int A.t, .ints A.vs] := rows_at (by rw [show ((i : Int) - 1).toNat = i - 1 by omega]; exact hA)
  have rB : (D.map Rdg.row)[((i : Nat) : Int).toNat]? = some [.int B.t, .ints B.vs] := rows_at (by rw [Int.toNat_natCast]; exact hB)
  have kS := step_fn c t f hm A B ha hb
  obtain ⟨s, hs⟩ : ∃ s, s = stpOf t f A B := ⟨_, rfl⟩
  rw [← hs] at kS hSk
  rw [Stp.eta] at kS
  have hq : rows ++ [[Tr.int s.a, Tr.int s.b, Tr.bool s.r, Tr.ints s.s]] = (S.take (n5 + 1)).map Stp.row := by
    rw [take_at hSk, List.map_append, ← hrs]
    rfl
  have hq2 : (rows ++ [[Tr.int s.a, Tr.int s.b, Tr.bool s.r, Tr.ints s.s]]).length = n5 + 1 := by rw [List.length_append, hrl]; rfl
  clear hrs hSk hS hs
  repeat' (first | refine goH ?_ | refine goV ?_ | refine goB (fun b => ?_) | refine goC (fun ad cap => ?_) | refine goI ?_ | (refine Cw.k_cond ?_; first | (refine Cw.cond_dec rfl (fun hc => ?_) (fun hc => ?_) <;> try (exfalso; omega)) | refine Cw.cond_bool rfl (fun hc => ?_) (fun hc => ?_)) | fail)
  first | refine Cw.region_YP (fun ξ S => stg (S 13) (Chunk.own ad cap 4 91 rows) (ownV (ξ 13) 4 91 (rows ++ [[Tr.int s.a, Tr.int s.b, Tr.bool s.r, Tr.ints s.s]])) :: Chunk.box b2 35 [.int c, .int t, .int f] :: []) rfl (by decide +kernel) rfl ((fun (ξ : Nat → Value) (S : Nat → Bool) => stg (S 13) (Chunk.own ad cap 4 91 rows) (ownV (ξ 13) 4 91 (rows ++ [[Tr.int s.a, Tr.int s.b, Tr.bool s.r, Tr.ints s.s]])) :: Chunk.box b2 35 [.int c, .int t, .int f] :: []) (fun _ => undef) (fun _ => false)) (by simp only [upd_same, updD_same, upd_ne, updD_ne, ne_eq, Nat.reduceEqDiff, not_false_eq_true, stg_t, stg_f, vAd_s, vCap_s, blk_p, List.cons_append, List.nil_append, b2n_t, b2n_f]; exact goXm) (fun _ => rfl) ?_ | fail
  apply YSeq.w (by intro _ _ _; rfl)
  · intro ξ S h1 h2 h3 h4
    have hN0_13 := closed_false h1 h3 (k := 13) rfl (by decide)
    try simp only [upd_same, updD_same, upd_ne, updD_ne, ne_eq, Nat.reduceEqDiff, not_false_eq_true, stg_t, stg_f, vAd_s, vCap_s, blk_p, List.cons_append, List.nil_append, b2n_t, b2n_f, hN0_13]
    exact goW
  · intro ξ v; rfl
  · intro ξ k v S h3 hn hk
    first
    | rfl
  apply YSeq.w (by intro _ _ _; rfl)
  · intro ξ S h1 h2 h3 h4
    have hN1_11 := closed_false h1 h3 (k := 11) rfl (by decide)
    have hN1_13 := closed_false hN1_11 h3 (k := 13) rfl (by decide)
    try simp only [upd_same, updD_same, upd_ne, updD_ne, ne_eq, Nat.reduceEqDiff, not_false_eq_true, stg_t, stg_f, vAd_s, vCap_s, blk_p, List.cons_append, List.nil_append, b2n_t, b2n_f, hN1_13]
    exact goW
  · intro ξ v; rfl
  · intro ξ k v S h3 hn hk
    first
    | rfl
  apply YSeq.w (by intro _ _ _; rfl)
  · intro ξ S h1 h2 h3 h4
    have hN2_5 := closed_false h1 h3 (k := 5) rfl (by decide)
    have hN2_6 := closed_false hN2_5 h3 (k := 6) rfl (by decide)
    have hN2_11 := closed_false hN2_6 h3 (k := 11) rfl (by decide)
    have hN2_13 := closed_false hN2_11 h3 (k := 13) rfl (by decide)
    try simp only [upd_same, updD_same, upd_ne, updD_ne, ne_eq, Nat.reduceEqDiff, not_false_eq_true, stg_t, stg_f, vAd_s, vCap_s, blk_p, List.cons_append, List.nil_append, b2n_t, b2n_f, hN2_13]
    exact goW
  · intro ξ v; rfl
  · intro ξ k v S h3 hn hk
    first
    | rfl
  apply YSeq.w (by intro _ _ _; rfl)
  · intro ξ S h1 h2 h3 h4
    have hN3_4 := closed_false h1 h3 (k := 4) rfl (by decide)
    have hN3_5 := closed_false hN3_4 h3 (k := 5) rfl (by decide)
    have hN3_6 := closed_false hN3_5 h3 (k := 6) rfl (by decide)
    have hN3_11 := closed_false hN3_6 h3 (k := 11) rfl (by decide)
    have hN3_13 := closed_false hN3_11 h3 (k := 13) rfl (by decide)
    try simp only [upd_same, updD_same, upd_ne, updD_ne, ne_eq, Nat.reduceEqDiff, not_false_eq_true, stg_t, stg_f, vAd_s, vCap_s, blk_p, List.cons_append, List.nil_append, b2n_t, b2n_f, hN3_13]
    exact goW
  · intro ξ v; rfl
  · intro ξ k v S h3 hn hk
    first
    | rfl
  apply YSeq.w (by intro _ _ _; rfl)
  · intro ξ S h1 h2 h3 h4
    have hN4_5 := closed_false h1 h3 (k := 5) rfl (by decide)
    have hN4_6 := closed_false hN4_5 h3 (k := 6) rfl (by decide)
    have hN4_11 := closed_false hN4_6 h3 (k := 11) rfl (by decide)
    have hN4_13 := closed_false hN4_11 h3 (k := 13) rfl (by decide)
    try simp only [upd_same, updD_same, upd_ne, updD_ne, ne_eq, Nat.reduceEqDiff, not_false_eq_true, stg_t, stg_f, vAd_s, vCap_s, blk_p, List.cons_append, List.nil_append, b2n_t, b2n_f, hN4_13]
    exact goW
  · intro ξ v; rfl
  · intro ξ k v S h3 hn hk
    first
    | rfl
  apply YSeq.w (by intro _ _ _; rfl)
  · intro ξ S h1 h2 h3 h4
    have hN5_6 := closed_false h1 h3 (k := 6) rfl (by decide)
    have hN5_11 := closed_false hN5_6 h3 (k := 11) rfl (by decide)
    have hN5_13 := closed_false hN5_11 h3 (k := 13) rfl (by decide)
    try simp only [upd_same, updD_same, upd_ne, updD_ne, ne_eq, Nat.reduceEqDiff, not_false_eq_true, stg_t, stg_f, vAd_s, vCap_s, blk_p, List.cons_append, List.nil_append, b2n_t, b2n_f, hN5_13]
    exact goW
  · intro ξ v; rfl
  · intro ξ k v S h3 hn hk
    first
    | rfl
  apply YSeq.w (by intro _ _ _; rfl)
  · intro ξ S h1 h2 h3 h4
    have hN6_11 := closed_false h1 h3 (k := 11) rfl (by decide)
    have hN6_13 := closed_false hN6_11 h3 (k := 13) rfl (by decide)
    try simp only [upd_same, updD_same, upd_ne, updD_ne, ne_eq, Nat.reduceEqDiff, not_false_eq_true, stg_t, stg_f, vAd_s, vCap_s, blk_p, List.cons_append, List.nil_append, b2n_t, b2n_f, hN6_13]
    exact goW
  · intro ξ v; rfl
  · intro ξ k v S h3 hn hk
    first
    | rfl
  apply YSeq.w (by intro _ _ _; rfl)
  · intro ξ S h1 h2 h3 h4
    have hN7_9 := closed_false h1 h3 (k := 9) rfl (by decide)
    have hN7_10 := closed_false hN7_9 h3 (k := 10) rfl (by decide)
    have hN7_11 := closed_false hN7_10 h3 (k := 11) rfl (by decide)
    have hN7_13 := closed_false hN7_11 h3 (k := 13) rfl (by decide)
    try simp only [upd_same, updD_same, upd_ne, updD_ne, ne_eq, Nat.reduceEqDiff, not_false_eq_true, stg_t, stg_f, vAd_s, vCap_s, blk_p, List.cons_append, List.nil_append, b2n_t, b2n_f, hN7_13]
    exact goW
  · intro ξ v; rfl
  · intro ξ k v S h3 hn hk
    first
    | rfl
  apply YSeq.w (by intro _ _ _; rfl)
  · intro ξ S h1 h2 h3 h4
    have hN8_9 := closed_false h1 h3 (k := 9) rfl (by decide)
    have hN8_10 := closed_false hN8_9 h3 (k := 10) rfl (by decide)
    have hN8_11 := closed_false hN8_10 h3 (k := 11) rfl (by decide)
    have hN8_13 := closed_false hN8_11 h3 (k := 13) rfl (by decide)
    try simp only [upd_same, updD_same, upd_ne, updD_ne, ne_eq, Nat.reduceEqDiff, not_false_eq_true, stg_t, stg_f, vAd_s, vCap_s, blk_p, List.cons_append, List.nil_append, b2n_t, b2n_f, hN8_13]
    exact goW
  · intro ξ v; rfl
  · intro ξ k v S h3 hn hk
    first
    | rfl
  apply YSeq.w (by intro _ _ _; rfl)
  · intro ξ S h1 h2 h3 h4
    have hN9_10 := closed_false h1 h3 (k := 10) rfl (by decide)
    have hN9_11 := closed_false hN9_10 h3 (k := 11) rfl (by decide)
    have hN9_13 := closed_false hN9_11 h3 (k := 13) rfl (by decide)
    try simp only [upd_same, updD_same, upd_ne, updD_ne, ne_eq, Nat.reduceEqDiff, not_false_eq_true, stg_t, stg_f, vAd_s, vCap_s, blk_p, List.cons_append, List.nil_append, b2n_t, b2n_f, hN9_13]
    exact goW
  · intro ξ v; rfl
  · intro ξ k v S h3 hn hk
    first
    | rfl
  apply YSeq.w (by intro _ _ _; rfl)
  · intro ξ S h1 h2 h3 h4
    have hN10_11 := closed_false h1 h3 (k := 11) rfl (by decide)
    have hN10_13 := closed_false hN10_11 h3 (k := 13) rfl (by decide)
    try simp only [upd_same, updD_same, upd_ne, updD_ne, ne_eq, Nat.reduceEqDiff, not_false_eq_true, stg_t, stg_f, vAd_s, vCap_s, blk_p, List.cons_append, List.nil_append, b2n_t, b2n_f, hN10_13]
    exact goW
  · intro ξ v; rfl
  · intro ξ k v S h3 hn hk
    first
    | rfl
  apply YSeq.callV (by intro _ _ _; rfl)
  · intro ξ S h1 h2 h3 h4
    have hN11_13 := closed_false h1 h3 (k := 13) rfl (by decide)
    try simp only [upd_same, updD_same, upd_ne, updD_ne, ne_eq, Nat.reduceEqDiff, not_false_eq_true, stg_t, stg_f, vAd_s, vCap_s, blk_p, List.cons_append, List.nil_append, b2n_t, b2n_f, hN11_13]
    exact ⟨_, (Evs.cons rfl (Evs.cons rfl (Evs.cons rfl Evs.nil))), kS⟩
  · intro ξ v; rfl
  · intro ξ k v S h3 hn hk
    first
    | rfl
  apply YSeq.w (by intro _ _ _; rfl)
  · intro ξ S h1 h2 h3 h4
    have hN12_13 := closed_false h1 h3 (k := 13) rfl (by decide)
    try simp only [upd_same, updD_same, upd_ne, updD_ne, ne_eq, Nat.reduceEqDiff, not_false_eq_true, stg_t, stg_f, vAd_s, vCap_s, blk_p, List.cons_append, List.nil_append, b2n_t, b2n_f, hN12_13]
    exact goW
  · intro ξ v; rfl
  · intro ξ k v S h3 hn hk
    first
    | rfl
  apply YSeq.append (n5 + 1)
  · intro ξ S h1 h2 h3 h4
    simp only [upd_same, updD_same, upd_ne, updD_ne, ne_eq, Nat.reduceEqDiff, not_false_eq_true, stg_t, stg_f, vAd_s, vCap_s, blk_p, List.cons_append, List.nil_append, b2n_t, b2n_f, h1]
    refine ⟨_, _, _, _, _, _, rfl, rfl, goXp, (by first | rfl | (simp; done) | omega), (by first | rfl | omega | (simp; done) | (simp; omega)), (by first | omega | (simp; done) | (simp; omega)), (by first | omega | (simp; done) | (simp; omega)), fun ad' cap' => ?_⟩
    exact goXm
  apply YSeq.w (by intro _ _ _; rfl)
  · intro ξ S h1 h2 h3 h4
    have hY14_13 : S 13 = true := h2 13 (by decide)
    try simp only [upd_same, updD_same, upd_ne, updD_ne, ne_eq, Nat.reduceEqDiff, not_false_eq_true, stg_t, stg_f, vAd_s, vCap_s, blk_p, List.cons_append, List.nil_append, b2n_t, b2n_f, hY14_13]
    exact goW
  · intro ξ v; rfl
  · intro ξ k v S h3 hn hk
    first
    | rfl
    | skip
      have hY14_13 : S 13 = true := h3 14 _ rfl hn 13 (by decide)
      simp only [upd_S hY14_13 hk]
  refine YSeq.nil fun ξ hf => ?_
  refine ⟨[(2, _), (6, _), (8, _), (9, _)], _, Ent.trans (Ent.eqc rfl (by first | (simp only [upd_same, updD_same, upd_ne, updD_ne, ne_eq, Nat.reduceEqDiff, not_false_eq_true, stg_t, stg_f, vAd_s, vCap_s, blk_p, List.cons_append, List.nil_append, b2n_t, b2n_f, ownV, slV, ptV] <;> rfl) | rfl)) (Ent.sub goSub), ?_⟩
  clear hf
  generalize vAd (ξ 13) = ad38
  generalize vCap (ξ 13) = cap38
  repeat' (first | refine goH ?_ | refine goV ?_ | refine goB (fun b => ?_) | refine goC (fun ad cap => ?_) | refine goI ?_ | (refine Cw.k_cond ?_; first | (refine Cw.cond_dec rfl (fun hc => ?_) (fun hc => ?_) <;> try (exfalso; omega)) | refine Cw.cond_bool rfl (fun hc => ?_) (fun hc => ?_)) | refine goR ?_ | refine goP ?_ | apply PSeq.cons | apply PSeq.yes rfl rfl rfl | exact goW | fail)
  exact ⟨_, _, _, (Ent.mk goSub goTk), ⟨i + 1, _, _, _, n5 + 1, rfl, ⟨by omega, by omega, by omega, hq, hq2⟩, rfl, rfl⟩, by omega⟩
end Lg
end
section
set_option linter.all false
set_option maxRecDepth 100000
set_option maxHeartbeats 8000000
namespace Lg
open Go Go.Proofs

theorem difL_bd {t : Int} : ∀ {x y : List Int}, (∀ a ∈ x, 0 ≤ a ∧ a < t) → (∀ a ∈ y, 0 ≤ a ∧ a < t) → ∀ a ∈ difL t x y, 0 ≤ a ∧ a < t
  | [], _, _, _, a, h => by rw [difL] at h; cases h; simp
  | _ :: _, [], _, _, a, h => by rw [difL] at h; cases h; simp
  | p :: x, q :: y, h1, h2, a, h => by
    rw [difL] at h
    rcases List.mem_cons.1 h with rfl | h
    · exact difE_bd (h1 p (by simp)) (h2 q (by simp))
    · exact difL_bd (fun a ha => h1 a (by simp [ha])) (fun a ha => h2 a (by simp [ha])) a h
structure SOk (n : Nat) (s : Stp) : Prop where
  n : s.s.length = n
  v : ∀ x ∈ s.s, 0 ≤ x ∧ x ≤ 1000000
  ab : (0 ≤ s.a ∧ s.a < 5761440) ∧ 0 ≤ s.b ∧ s.b < 5761440
theorem stpOf_ok {c t f : Int} {A B : Rdg} (hm : mtrE c t f = 0) (ha : ROk c t A) (hb : ROk c t B) : SOk c.toNat (stpOf t f A B) := by
  obtain ⟨_, h2, _⟩ := mtrE_ok hm
  have h3 := ha.n
  have h4 := hb.n
  unfold stpOf
  split
  · exact ⟨by show B.vs.length = _; omega, fun x hx => by have := hb.v x hx; omega, ha.t0, hb.t0⟩
  · refine ⟨?_, fun x hx => ?_, ha.t0, hb.t0⟩
    · show (difL t A.vs B.vs).length = _
      rw [difL_len t (by omega)]
      omega
    · have := difL_bd ha.v hb.v x hx
      omega
theorem stpsOf_ok {c t f : Int} (hm : mtrE c t f = 0) : ∀ {D : List Rdg}, (∀ r ∈ D, ROk c t r) → ∀ s ∈ stpsOf t f D, SOk c.toNat s
  | [], _, s, h => by simp [stpsOf] at h
  | [_], _, s, h => by simp [stpsOf] at h
  | A :: B :: l, hD, s, h => by
    rw [stpsOf] at h
    rcases List.mem_cons.1 h with rfl | h
    · exact stpOf_ok hm (hD A (by simp)) (hD B (by simp))
    · exact stpsOf_ok hm (fun r hr => hD r (by simp at hr ⊢; exact .inr hr)) s h
theorem addL_len {x y : List Int} {n : Nat} (h1 : x.length = n) (h2 : y.length = n) : (addL x y).length = n := by unfold addL; rw [List.length_zipWith]; omega
theorem addL_at {x y : List Int} {k : Nat} {a b : Int} (h1 : x[k]? = some a) (h2 : y[k]? = some b) : (addL x y)[k]? = some (a + b) := by
  unfold addL
  rw [List.getElem?_zipWith, h1, h2]
/-- halfway through the addition of y to x -/
def addH (x y : List Int) (k : Nat) : List Int := (addL x y).take k ++ x.drop k
theorem addH_zero (x y : List Int) : addH x y 0 = x := rfl
theorem addH_end {x y : List Int} {n : Nat} (h1 : x.length = n) (h2 : y.length = n) : addH x y n = addL x y := by
  unfold addH
  rw [List.take_of_length_le (by rw [addL_len h1 h2]; exact Nat.le_refl _), List.drop_of_length_le (by omega), List.append_nil]
theorem addH_len {x y : List Int} {n k : Nat} (h1 : x.length = n) (h2 : y.length = n) (hk : k ≤ n) : (addH x y k).length = n := by
  unfold addH
  rw [List.length_append, List.length_take, List.length_drop, addL_len h1 h2]
  omega
theorem addH_at {x y : List Int} {n k : Nat} (h1 : x.length = n) (h2 : y.length = n) (hk : k < n) {a : Int} (ha : x[k]? = some a) : (addH x y k)[k]? = some a := by
  unfold addH
  rw [List.getElem?_append_right (by rw [List.length_take]; omega), List.length_take, addL_len h1 h2, show k - min k n = 0 by omega, List.getElem?_drop]
  exact ha
theorem addH_set {x y : List Int} {n k : Nat} (h1 : x.length = n) (h2 : y.length = n) (hk : k < n) {a b : Int} (ha : x[k]? = some a) (hb : y[k]? = some b) : (addH x y k).set k (a + b) = addH x y (k + 1) := by
  have hl : ((addL x y).take k).length = k := by rw [List.length_take, addL_len h1 h2]; omega
  unfold addH
  rw [drop_at ha, List.set_append_right _ _ (by omega), hl, Nat.sub_self, List.set_cons_zero, take_at (addL_at ha hb), List.append_assoc]
  rfl
theorem addL_bd {x y : List Int} {m : Int} (hx : ∀ a ∈ x, 0 ≤ a ∧ a ≤ m) (hy : ∀ a ∈ y, 0 ≤ a ∧ a ≤ 1000000) : ∀ a ∈ addL x y, 0 ≤ a ∧ a ≤ m + 1000000 := by
  intro a ha
  unfold addL at ha
  obtain ⟨i, hi⟩ := List.mem_iff_getElem?.1 ha
  rw [List.getElem?_zipWith] at hi
  cases h1 : x[i]? with
  | none => rw [h1] at hi; cases hi
  | some p =>
    cases h2 : y[i]? with
    | none => rw [h1, h2] at hi; cases hi
    | some q =>
      rw [h1, h2] at hi
      injection hi with hi
      have := hx p (List.mem_of_getElem? h1)
      have := hy q (List.mem_of_getElem? h2)
      omega
theorem soldF_drop {acc : List Int} {S : List Stp} {k : Nat} {s : Stp} (h : S[k]? = some s) : soldF acc (S.drop k) = soldF (addL acc s.s) (S.drop (k + 1)) := by rw [drop_at h, soldF]
theorem soldF_end {acc : List Int} {S : List Stp} {k : Nat} (h : S.length ≤ k) : soldF acc (S.drop k) = acc := by rw [List.drop_of_length_le h, soldF]
theorem intRows_set (l : List Int) (i : Nat) (v : Int) : (intRows l).set i [Tr.int v] = intRows (l.set i v) := by
  unfold intRows
  rw [List.map_set]
theorem intRows_rep (n : Nat) : List.replicate n [Tr.int 0] = intRows (List.replicate n 0) := by
  unfold intRows
  rw [List.map_replicate]
def soldL (c t f : Int) (D : List Rdg) : List Int := soldF (List.replicate c.toNat 0) (stpsOf t f D)
def sldO (c t f : Int) (D : List Rdg) (e : Int) : Tr := if e = 0 then .tup [.ints (soldL c t f D), .int 0] else .tup [.sl 1 [], .int e]
end Lg
end
