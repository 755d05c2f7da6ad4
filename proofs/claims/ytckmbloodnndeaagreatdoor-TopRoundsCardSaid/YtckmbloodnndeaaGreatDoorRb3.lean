/- A part of the proof of a law of this seat: it adds no condition. By an AI agent. -/
import Derived.Test.YtckmbloodnndeaaGreatDoorLgFree
import Derived.Test.YtckmbloodnndeaaGreatDoorRb1
section
set_option linter.all false
set_option maxRecDepth 100000
set_option maxHeartbeats 8000000
namespace Lg
open Go Go.Proofs

theorem cloneS_int {ad : Option Addr} {n cap : Nat} (rows : List (List Tr)) (hn : n = rows.length) (hl : rows.length ≤ 1000000) : Spec Tryz.prog 79 [Tr.raw (.slice ad n cap)] [Chunk.own ad cap 1 3 rows] (fun r cs => r = .sl 1 rows ∧ cs = [Chunk.own ad cap 1 3 rows]) := by
  refine Spec.body Tryz.func79 rfl rfl (Tryz.ntmps79) rfl fun w0 own0 M => ?_
  cases ad with
  | none =>
    refine Cw.own_none (List.Perm.refl _) fun h1 h2 => ?_
    subst h1
    subst h2
    subst hn
    repeat' (first | refine goH ?_ | (refine Ops.k_b_eql ?_; first | (refine Ops.eql_nilR rfl rfl ?_)) | refine goV ?_ | refine goC (fun ad cap => ?_) | refine goI ?_ | (refine Cw.k_cond ?_; first | (refine Cw.cond_dec rfl (fun hc => ?_) (fun hc => ?_) <;> try (exfalso; omega)) | refine Cw.cond_bool rfl (fun hc => ?_) (fun hc => ?_)) | fail)
    exact Fin.ret (Ent.nilsl 1 (s := 2) rfl) (Outs.one rfl rfl) ⟨rfl, rfl⟩
  | some a =>
    repeat' (first | refine goH ?_ | (refine Ops.k_b_eql ?_; first | (refine Ops.eql_nilR rfl rfl ?_)) | ((fail_if_success refine Ops.k_buildSlice ?_); refine goV ?_) | ((fail_if_success refine Ops.k_buildSlice ?_); refine goC (fun ad cap => ?_)) | refine goI ?_ | (refine Cw.k_cond ?_; first | (refine Cw.cond_dec rfl (fun hc => ?_) (fun hc => ?_) <;> try (exfalso; omega)) | refine Cw.cond_bool rfl (fun hc => ?_) (fun hc => ?_)) | fail)
    refine Ops.buildSlice_own (by exact Parts.nil) rfl rfl rfl (fun ad2 cap2 => ?_)
    repeat' (first | refine goH ?_ | ((fail_if_success refine Ops.k_c_append ?_); refine goV ?_) | ((fail_if_success refine Ops.k_c_append ?_); refine goC (fun ad cap => ?_)) | refine goI ?_ | (refine Cw.k_cond ?_; first | (refine Cw.cond_dec rfl (fun hc => ?_) (fun hc => ?_) <;> try (exfalso; omega)) | refine Cw.cond_bool rfl (fun hc => ?_) (fun hc => ?_)) | fail)
    refine Ops.append_ownR rfl rfl (List.Perm.refl _) rfl hn (by simp; omega) (by simp; omega) rfl (fun ad3 cap3 => ?_)
    rw [show ∀ z : List (List Tr), z = [] → z ++ rows = rows from fun z h => by rw [h]; rfl]
    rotate_left
    · rfl
    repeat' (first | refine goH ?_ | refine goV ?_ | refine goC (fun ad cap => ?_) | refine goI ?_ | (refine Cw.k_cond ?_; first | (refine Cw.cond_dec rfl (fun hc => ?_) (fun hc => ?_) <;> try (exfalso; omega)) | refine Cw.cond_bool rfl (fun hc => ?_) (fun hc => ?_)) | fail)
    exact Fin.ret (Ent.settle (s := 2) (ad := ad3) (cap := cap3) (cf := [Chunk.own (some a) cap 1 3 rows]) rfl (List.Perm.refl _) rfl) (Outs.one rfl rfl) ⟨rfl, rfl⟩

/-! ### which stops are on a route -/
def inR (n : Nat) (pre : List Int) : List (List Tr) := (List.range n).map fun (k : Nat) => [Tr.bool (decide ((k : Int) ∈ pre))]
theorem inR_len (n : Nat) (pre : List Int) : (inR n pre).length = n := by
  unfold inR
  rw [List.length_map, List.length_range]
theorem inR_get (n : Nat) (pre : List Int) (k : Nat) : (inR n pre)[k]? = if k < n then some [Tr.bool (decide ((k : Int) ∈ pre))] else none := by
  unfold inR
  rw [List.getElem?_map]
  by_cases hk : k < n
  · rw [if_pos hk, List.getElem?_range hk]; rfl
  · rw [if_neg hk, List.getElem?_eq_none (by rw [List.length_range]; omega)]; rfl
theorem inR_at {n : Nat} {pre : List Int} {k : Nat} (hk : k < n) : (inR n pre)[k]? = some [Tr.bool (decide ((k : Int) ∈ pre))] := by rw [inR_get, if_pos hk]
theorem inR_set {n : Nat} {pre : List Int} {k : Nat} (hk : k < n) : (inR n pre).set k [Tr.bool true] = inR n (pre ++ [(k : Int)]) := by
  apply List.ext_getElem?
  intro j
  rw [List.getElem?_set, inR_len, inR_get, inR_get]
  by_cases h : k = j
  · subst h
    rw [if_pos rfl, if_pos hk, if_pos hk]
    simp
  · rw [if_neg h]
    have : ((j : Int) ∈ pre ++ [(k : Int)]) ↔ ((j : Int) ∈ pre) := by
      simp
      omega
    simp only [this]
theorem inR_back {n : Nat} {pre : List Int} {k : Nat} (hk : k < n) (hn : (k : Int) ∉ pre) : (inR n (pre ++ [(k : Int)])).set k [Tr.bool false] = inR n pre := by
  apply List.ext_getElem?
  intro j
  rw [List.getElem?_set, inR_len, inR_get, inR_get]
  by_cases h : k = j
  · subst h
    rw [if_pos rfl, if_pos hk, if_pos hk, decide_eq_false hn]
  · rw [if_neg h]
    have : ((j : Int) ∈ pre ++ [(k : Int)]) ↔ ((j : Int) ∈ pre) := by
      simp
      omega
    simp only [this]
abbrev skC (b : Nat) (h : Spot) (l : List Stop) (s : Int) (ad : Option Addr) (cap : Nat) (ad2 : Option Addr) (cap2 : Nat) (pre : List Int) (st : BS) : List Chunk :=
  [Chunk.box b 97 [.int h.x, .int h.y, .stops l, .int s, Tr.raw (.slice ad pre.length cap), Tr.raw (.slice ad2 l.length cap2), .ints st.1, .int st.2], Chunk.own ad cap 1 3 (intRows pre), Chunk.own ad2 cap2 1 4 (inR l.length pre)]
theorem seekD_cut {l : List Stop} {h : Spot} {n : Nat} {pre : List Int} {a : Spot} {now w : Int} {st : BS} (hc : 0 ≤ st.2 ∧ st.2 ≤ w + farI a h) : seekD l h n pre a now w st = st := by
  cases n <;> (rw [seekD, if_pos hc])
attribute [local irreducible] intRows inR seekD itF drvP tripE
theorem seek_fn (h : Spot) (l : List Stop) (s : Int) (ht : tripE h l s = 0) (bk : Nat) (ad2 : Option Addr) (cap2 : Nat) : ∀ (n : Nat) (pre : List Int) (a : Spot) (now w : Int) (st : BS) (ad : Option Addr) (cap : Nat),
    pre.length + n = l.length → spotB a = true → (0 ≤ now ∧ now ≤ 3000) → (0 ≤ w ∧ w ≤ 40000 * pre.length) →
    Spec Tryz.prog 40 [Tr.raw (.pointer (some ⟨bk, 0, none⟩)), .agg [.int a.x, .int a.y], .int now, .int w] (skC bk h l s ad cap ad2 cap2 pre st)
      (fun r cs => r = .tup [] ∧ ∃ ad' cap', cs = skC bk h l s ad' cap' ad2 cap2 pre (seekD l h n pre a now w st)) := by
  intro n
  have hst := (stops_ok (trip_ok ht).1).2
  have hl60 := (stops_ok (trip_ok ht).1).1
  have hhb := (trip_ok ht).2.1
  have hL : (l.map Stop.row).length = l.length := List.length_map _
  induction n with
  | zero =>
    intro pre a now w st ad cap hn hab hnow hw
    have hpl := intRows_len pre
    have kC := cloneS_int (ad := ad) (cap := cap) (n := pre.length) (intRows pre) hpl.symm (by omega)
    have kF : PFn Tryz.prog 41 [.agg [.int a.x, .int a.y], .agg [.int h.x, .int h.y]] (· = .int (farI a h)) := far_ok hab hhb
    have hfb := farI_bd hab hhb
    obtain ⟨B, m⟩ := st
    have hpl2 : pre.length = (l.map Stop.row).length := by omega
    by_cases hc : 0 ≤ m ∧ m ≤ w + farI a h
    · rw [seekD_cut hc]
      generalize farI a h = g at *
      refine Spec.body Tryz.func40 rfl rfl (Tryz.ntmps40) rfl fun w0 own0 M => ?_
      repeat' (first | refine goH ?_ | refine goV ?_ | refine goB (fun b => ?_) | refine goC (fun ad cap => ?_) | refine goG ?_ | (refine Ops.k_guard ?_; first | (refine Ops.guard_dec rfl rfl (fun hc => ?_) (fun hc => ?_) <;> try (exfalso; omega)) | refine Ops.guard_split rfl rfl (fun hc => ?_) (fun hc => ?_)) | refine goI ?_ | (refine Cw.k_cond ?_; first | (refine Cw.cond_dec rfl (fun hc => ?_) (fun hc => ?_) <;> try (exfalso; omega)) | refine Cw.cond_bool rfl (fun hc => ?_) (fun hc => ?_)) | (refine Ops.k_calla ?_; first | (refine Ops.k_callf 41 ?_; refine Ops.callV kF (Evs.cons rfl (Evs.cons rfl Evs.nil)) rfl ?_)) | (apply OpW.k_call; first | (apply OpW.k_callf 41; exact OpW.callV kF (Evs.cons rfl (Evs.cons rfl Evs.nil)))) | refine goR ?_ | refine goP ?_ | apply PSeq.cons | apply PSeq.yes rfl rfl rfl | exact goW | fail)
      exact Fin.ret (Ent.take goTk) (Outs.zero rfl) ⟨rfl, ad, cap, rfl⟩
    · have hs : seekD l h 0 pre a now w (B, m) = (pre, w + farI a h) := by
        rw [seekD, if_neg hc]
      rw [hs]
      generalize farI a h = g at *
      clear hs
      refine Spec.body Tryz.func40 rfl rfl (Tryz.ntmps40) rfl fun w0 own0 M => ?_
      by_cases hm0 : 0 ≤ m
      all_goals
        repeat' (first | refine goH ?_ | refine goV ?_ | refine goB (fun b => ?_) | refine goC (fun ad cap => ?_) | refine goG ?_ | (refine Ops.k_guard ?_; first | (refine Ops.guard_dec rfl rfl (fun hc => ?_) (fun hc => ?_) <;> try (exfalso; omega)) | refine Ops.guard_split rfl rfl (fun hc => ?_) (fun hc => ?_)) | refine goI ?_ | (refine Cw.k_cond ?_; first | (refine Cw.cond_dec rfl (fun hc => ?_) (fun hc => ?_) <;> try (exfalso; omega)) | refine Cw.cond_bool rfl (fun hc => ?_) (fun hc => ?_)) | (refine Ops.k_calla ?_; first | (refine Ops.k_callf 41 ?_; refine Ops.callV kF (Evs.cons rfl (Evs.cons rfl Evs.nil)) rfl ?_)) | (apply OpW.k_call; first | (apply OpW.k_callf 41; exact OpW.callV kF (Evs.cons rfl (Evs.cons rfl Evs.nil)))) | refine goR ?_ | refine goP ?_ | apply PSeq.cons | apply PSeq.yes rfl rfl rfl | exact goW | fail)
        first | refine Cw.region_YP (fun ξ S => Chunk.box b 43 [.int a.x, .int a.y] :: Chunk.box bk 97 [.int h.x, .int h.y, .stops l, .int s, Tr.raw (.slice ad pre.length cap), Tr.raw (.slice ad2 l.length cap2), stg (S 18) (.ints B) (.ints pre), stg (S 21) (.int m) (.int (w + g))] :: Chunk.own ad cap 1 3 (intRows pre) :: Chunk.own ad2 cap2 1 4 (inR l.length pre) :: []) rfl (by decide +kernel) rfl ((fun (ξ : Nat → Value) (S : Nat → Bool) => Chunk.box b 43 [.int a.x, .int a.y] :: Chunk.box bk 97 [.int h.x, .int h.y, .stops l, .int s, Tr.raw (.slice ad pre.length cap), Tr.raw (.slice ad2 l.length cap2), stg (S 18) (.ints B) (.ints pre), stg (S 21) (.int m) (.int (w + g))] :: Chunk.own ad cap 1 3 (intRows pre) :: Chunk.own ad2 cap2 1 4 (inR l.length pre) :: []) (fun _ => undef) (fun _ => false)) (by simp only [upd_same, updD_same, upd_ne, updD_ne, ne_eq, Nat.reduceEqDiff, not_false_eq_true, stg_t, stg_f, vAd_s, vCap_s, blk_p, List.cons_append, List.nil_append, b2n_t, b2n_f]; exact goXm) (fun _ => rfl) ?_ | fail
        apply YSeq.w (by intro _ _ _; rfl)
        · intro ξ S h1 h2 h3 h4
          have hN0_18 := closed_false h1 h3 (k := 18) rfl (by decide)
          have hN0_21 := closed_false h1 h3 (k := 21) rfl (by decide)
          try simp only [upd_same, updD_same, upd_ne, updD_ne, ne_eq, Nat.reduceEqDiff, not_false_eq_true, stg_t, stg_f, vAd_s, vCap_s, blk_p, List.cons_append, List.nil_append, b2n_t, b2n_f, hN0_18, hN0_21]
          exact goW
        · intro ξ v; rfl
        · intro ξ k v S h3 hn hk
          first
          | rfl
        apply YSeq.w (by intro _ _ _; rfl)
        · intro ξ S h1 h2 h3 h4
          have hN1_21 := closed_false h1 h3 (k := 21) rfl (by decide)
          try simp only [upd_same, updD_same, upd_ne, updD_ne, ne_eq, Nat.reduceEqDiff, not_false_eq_true, stg_t, stg_f, vAd_s, vCap_s, blk_p, List.cons_append, List.nil_append, b2n_t, b2n_f, hN1_21]
          exact goW
        · intro ξ v; rfl
        · intro ξ k v S h3 hn hk
          first
          | rfl
        apply YSeq.w (by intro _ _ _; rfl)
        · intro ξ S h1 h2 h3 h4
          have hN2_18 := closed_false h1 h3 (k := 18) rfl (by decide)
          have hN2_21 := closed_false h1 h3 (k := 21) rfl (by decide)
          try simp only [upd_same, updD_same, upd_ne, updD_ne, ne_eq, Nat.reduceEqDiff, not_false_eq_true, stg_t, stg_f, vAd_s, vCap_s, blk_p, List.cons_append, List.nil_append, b2n_t, b2n_f, hN2_18, hN2_21]
          exact goW
        · intro ξ v; rfl
        · intro ξ k v S h3 hn hk
          first
          | rfl
        apply YSeq.w (by intro _ _ _; rfl)
        · intro ξ S h1 h2 h3 h4
          have hN3_18 := closed_false h1 h3 (k := 18) rfl (by decide)
          have hN3_21 := closed_false h1 h3 (k := 21) rfl (by decide)
          try simp only [upd_same, updD_same, upd_ne, updD_ne, ne_eq, Nat.reduceEqDiff, not_false_eq_true, stg_t, stg_f, vAd_s, vCap_s, blk_p, List.cons_append, List.nil_append, b2n_t, b2n_f, hN3_18, hN3_21]
          exact goW
        · intro ξ v; rfl
        · intro ξ k v S h3 hn hk
          first
          | rfl
        apply YSeq.w (by intro _ _ _; rfl)
        · intro ξ S h1 h2 h3 h4
          have hN4_18 := closed_false h1 h3 (k := 18) rfl (by decide)
          have hN4_21 := closed_false h1 h3 (k := 21) rfl (by decide)
          try simp only [upd_same, updD_same, upd_ne, updD_ne, ne_eq, Nat.reduceEqDiff, not_false_eq_true, stg_t, stg_f, vAd_s, vCap_s, blk_p, List.cons_append, List.nil_append, b2n_t, b2n_f, hN4_18, hN4_21]
          exact goW
        · intro ξ v; rfl
        · intro ξ k v S h3 hn hk
          first
          | rfl
        apply YSeq.w (by intro _ _ _; rfl)
        · intro ξ S h1 h2 h3 h4
          have hN5_18 := closed_false h1 h3 (k := 18) rfl (by decide)
          have hN5_21 := closed_false h1 h3 (k := 21) rfl (by decide)
          try simp only [upd_same, updD_same, upd_ne, updD_ne, ne_eq, Nat.reduceEqDiff, not_false_eq_true, stg_t, stg_f, vAd_s, vCap_s, blk_p, List.cons_append, List.nil_append, b2n_t, b2n_f, hN5_18, hN5_21]
          exact goW
        · intro ξ v; rfl
        · intro ξ k v S h3 hn hk
          first
          | rfl
        apply YSeq.callC
        · intro ξ S h1 h2 h3 h4
          have hN6_18 := closed_false h1 h3 (k := 18) rfl (by decide)
          have hN6_21 := closed_false h1 h3 (k := 21) rfl (by decide)
          try simp only [upd_same, updD_same, upd_ne, updD_ne, ne_eq, Nat.reduceEqDiff, not_false_eq_true, stg_t, stg_f, vAd_s, vCap_s, blk_p, List.cons_append, List.nil_append, b2n_t, b2n_f, hN6_18, hN6_21]
          exact ⟨_, _, _, _, kC, (Evs.cons rfl Evs.nil), goXp, fun v => (by first | exact goXp | (simp only [upd_same, updD_same, upd_ne, updD_ne, ne_eq, Nat.reduceEqDiff, not_false_eq_true, stg_t, stg_f, vAd_s, vCap_s, blk_p, List.cons_append, List.nil_append, b2n_t, b2n_f]; exact goXp))⟩
        · intro ξ v; rfl
        · intro ξ k v S h3 hn hk
          first
          | rfl
        apply YSeq.w (by intro _ _ _; rfl)
        · intro ξ S h1 h2 h3 h4
          have hN7_21 := closed_false h1 h3 (k := 21) rfl (by decide)
          try simp only [upd_same, updD_same, upd_ne, updD_ne, ne_eq, Nat.reduceEqDiff, not_false_eq_true, stg_t, stg_f, vAd_s, vCap_s, blk_p, List.cons_append, List.nil_append, b2n_t, b2n_f, hN7_21]
          exact goW
        · intro ξ v; rfl
        · intro ξ k v S h3 hn hk
          first
          | rfl
        apply YSeq.w (by intro _ _ _; rfl)
        · intro ξ S h1 h2 h3 h4
          have hN8_14 := closed_false h1 h3 (k := 14) rfl (by decide)
          have hN8_18 := closed_false hN8_14 h3 (k := 18) rfl (by decide)
          have hN8_21 := closed_false h1 h3 (k := 21) rfl (by decide)
          try simp only [upd_same, updD_same, upd_ne, updD_ne, ne_eq, Nat.reduceEqDiff, not_false_eq_true, stg_t, stg_f, vAd_s, vCap_s, blk_p, List.cons_append, List.nil_append, b2n_t, b2n_f, hN8_18, hN8_21]
          exact goW
        · intro ξ v; rfl
        · intro ξ k v S h3 hn hk
          first
          | rfl
        apply YSeq.w (by intro _ _ _; rfl)
        · intro ξ S h1 h2 h3 h4
          have hN9_10 := closed_false h1 h3 (k := 10) rfl (by decide)
          have hN9_11 := closed_false hN9_10 h3 (k := 11) rfl (by decide)
          have hN9_12 := closed_false hN9_11 h3 (k := 12) rfl (by decide)
          have hN9_13 := closed_false hN9_12 h3 (k := 13) rfl (by decide)
          have hN9_18 := closed_false hN9_13 h3 (k := 18) rfl (by decide)
          have hN9_21 := closed_false h1 h3 (k := 21) rfl (by decide)
          try simp only [upd_same, updD_same, upd_ne, updD_ne, ne_eq, Nat.reduceEqDiff, not_false_eq_true, stg_t, stg_f, vAd_s, vCap_s, blk_p, List.cons_append, List.nil_append, b2n_t, b2n_f, hN9_18, hN9_21]
          exact goW
        · intro ξ v; rfl
        · intro ξ k v S h3 hn hk
          first
          | rfl
        apply YSeq.w (by intro _ _ _; rfl)
        · intro ξ S h1 h2 h3 h4
          have hN10_11 := closed_false h1 h3 (k := 11) rfl (by decide)
          have hN10_12 := closed_false hN10_11 h3 (k := 12) rfl (by decide)
          have hN10_13 := closed_false hN10_12 h3 (k := 13) rfl (by decide)
          have hN10_18 := closed_false hN10_13 h3 (k := 18) rfl (by decide)
          have hN10_21 := closed_false h1 h3 (k := 21) rfl (by decide)
          try simp only [upd_same, updD_same, upd_ne, updD_ne, ne_eq, Nat.reduceEqDiff, not_false_eq_true, stg_t, stg_f, vAd_s, vCap_s, blk_p, List.cons_append, List.nil_append, b2n_t, b2n_f, hN10_18, hN10_21]
          exact goW
        · intro ξ v; rfl
        · intro ξ k v S h3 hn hk
          first
          | rfl
        apply YSeq.w (by intro _ _ _; rfl)
        · intro ξ S h1 h2 h3 h4
          have hN11_12 := closed_false h1 h3 (k := 12) rfl (by decide)
          have hN11_13 := closed_false hN11_12 h3 (k := 13) rfl (by decide)
          have hN11_18 := closed_false hN11_13 h3 (k := 18) rfl (by decide)
          have hN11_21 := closed_false h1 h3 (k := 21) rfl (by decide)
          try simp only [upd_same, updD_same, upd_ne, updD_ne, ne_eq, Nat.reduceEqDiff, not_false_eq_true, stg_t, stg_f, vAd_s, vCap_s, blk_p, List.cons_append, List.nil_append, b2n_t, b2n_f, hN11_18, hN11_21]
          exact goW
        · intro ξ v; rfl
        · intro ξ k v S h3 hn hk
          first
          | rfl
        apply YSeq.w (by intro _ _ _; rfl)
        · intro ξ S h1 h2 h3 h4
          have hN12_13 := closed_false h1 h3 (k := 13) rfl (by decide)
          have hN12_18 := closed_false hN12_13 h3 (k := 18) rfl (by decide)
          have hN12_21 := closed_false h1 h3 (k := 21) rfl (by decide)
          try simp only [upd_same, updD_same, upd_ne, updD_ne, ne_eq, Nat.reduceEqDiff, not_false_eq_true, stg_t, stg_f, vAd_s, vCap_s, blk_p, List.cons_append, List.nil_append, b2n_t, b2n_f, hN12_18, hN12_21]
          exact goW
        · intro ξ v; rfl
        · intro ξ k v S h3 hn hk
          first
          | rfl
        apply YSeq.w (by intro _ _ _; rfl)
        · intro ξ S h1 h2 h3 h4
          have hN13_18 := closed_false h1 h3 (k := 18) rfl (by decide)
          have hN13_21 := closed_false h1 h3 (k := 21) rfl (by decide)
          try simp only [upd_same, updD_same, upd_ne, updD_ne, ne_eq, Nat.reduceEqDiff, not_false_eq_true, stg_t, stg_f, vAd_s, vCap_s, blk_p, List.cons_append, List.nil_append, b2n_t, b2n_f, hN13_18, hN13_21]
          exact goW
        · intro ξ v; rfl
        · intro ξ k v S h3 hn hk
          first
          | rfl
        apply YSeq.callV (by intro _ _ _; rfl)
        · intro ξ S h1 h2 h3 h4
          have hN14_18 := closed_false h1 h3 (k := 18) rfl (by decide)
          have hN14_21 := closed_false h1 h3 (k := 21) rfl (by decide)
          try simp only [upd_same, updD_same, upd_ne, updD_ne, ne_eq, Nat.reduceEqDiff, not_false_eq_true, stg_t, stg_f, vAd_s, vCap_s, blk_p, List.cons_append, List.nil_append, b2n_t, b2n_f, hN14_18, hN14_21]
          exact ⟨_, (Evs.cons rfl (Evs.cons rfl Evs.nil)), kF⟩
        · intro ξ v; rfl
        · intro ξ k v S h3 hn hk
          first
          | rfl
        apply YSeq.w (by intro _ _ _; rfl)
        · intro ξ S h1 h2 h3 h4
          have hN15_21 := closed_false h1 h3 (k := 21) rfl (by decide)
          try simp only [upd_same, updD_same, upd_ne, updD_ne, ne_eq, Nat.reduceEqDiff, not_false_eq_true, stg_t, stg_f, vAd_s, vCap_s, blk_p, List.cons_append, List.nil_append, b2n_t, b2n_f, hN15_21]
          exact goW
        · intro ξ v; rfl
        · intro ξ k v S h3 hn hk
          first
          | rfl
        apply YSeq.w (by intro _ _ _; rfl)
        · intro ξ S h1 h2 h3 h4
          have hN16_17 := closed_false h1 h3 (k := 17) rfl (by decide)
          have hN16_18 := closed_false hN16_17 h3 (k := 18) rfl (by decide)
          have hN16_21 := closed_false h1 h3 (k := 21) rfl (by decide)
          try simp only [upd_same, updD_same, upd_ne, updD_ne, ne_eq, Nat.reduceEqDiff, not_false_eq_true, stg_t, stg_f, vAd_s, vCap_s, blk_p, List.cons_append, List.nil_append, b2n_t, b2n_f, hN16_18, hN16_21]
          exact goW
        · intro ξ v; rfl
        · intro ξ k v S h3 hn hk
          first
          | rfl
        apply YSeq.w (by intro _ _ _; rfl)
        · intro ξ S h1 h2 h3 h4
          have hN17_18 := closed_false h1 h3 (k := 18) rfl (by decide)
          have hN17_21 := closed_false h1 h3 (k := 21) rfl (by decide)
          try simp only [upd_same, updD_same, upd_ne, updD_ne, ne_eq, Nat.reduceEqDiff, not_false_eq_true, stg_t, stg_f, vAd_s, vCap_s, blk_p, List.cons_append, List.nil_append, b2n_t, b2n_f, hN17_18, hN17_21]
          exact goW
        · intro ξ v; rfl
        · intro ξ k v S h3 hn hk
          first
          | rfl
        apply YSeq.store
        · intro ξ S h1 h2 h3 h4
          have hN18_21 := closed_false h1 h3 (k := 21) rfl (by decide)
          simp only [upd_same, updD_same, upd_ne, updD_ne, ne_eq, Nat.reduceEqDiff, not_false_eq_true, stg_t, stg_f, vAd_s, vCap_s, blk_p, List.cons_append, List.nil_append, b2n_t, b2n_f, h1, hN18_21]
          refine ⟨_, _, _, _, _, _, _, rfl, rfl, inferInstance, goXp, rfl, Nat.le_of_ble_eq_true rfl, ?_⟩
          exact goXm
        apply YSeq.w (by intro _ _ _; rfl)
        · intro ξ S h1 h2 h3 h4
          have hY19_18 : S 18 = true := h2 18 (by decide)
          have hN19_20 := closed_false h1 h3 (k := 20) rfl (by decide)
          have hN19_21 := closed_false hN19_20 h3 (k := 21) rfl (by decide)
          try simp only [upd_same, updD_same, upd_ne, updD_ne, ne_eq, Nat.reduceEqDiff, not_false_eq_true, stg_t, stg_f, vAd_s, vCap_s, blk_p, List.cons_append, List.nil_append, b2n_t, b2n_f, hY19_18, hN19_21]
          exact goW
        · intro ξ v; rfl
        · intro ξ k v S h3 hn hk
          first
          | rfl
        apply YSeq.w (by intro _ _ _; rfl)
        · intro ξ S h1 h2 h3 h4
          have hY20_18 : S 18 = true := h2 18 (by decide)
          have hN20_21 := closed_false h1 h3 (k := 21) rfl (by decide)
          try simp only [upd_same, updD_same, upd_ne, updD_ne, ne_eq, Nat.reduceEqDiff, not_false_eq_true, stg_t, stg_f, vAd_s, vCap_s, blk_p, List.cons_append, List.nil_append, b2n_t, b2n_f, hY20_18, hN20_21]
          exact goW
        · intro ξ v; rfl
        · intro ξ k v S h3 hn hk
          first
          | rfl
        apply YSeq.store
        · intro ξ S h1 h2 h3 h4
          have hY21_18 : S 18 = true := h2 18 (by decide)
          simp only [upd_same, updD_same, upd_ne, updD_ne, ne_eq, Nat.reduceEqDiff, not_false_eq_true, stg_t, stg_f, vAd_s, vCap_s, blk_p, List.cons_append, List.nil_append, b2n_t, b2n_f, hY21_18, h1]
          refine ⟨_, _, _, _, _, _, _, rfl, rfl, inferInstance, goXp, rfl, Nat.le_of_ble_eq_true rfl, ?_⟩
          exact goXm
        refine YSeq.nil fun ξ hf => ?_
        refine ⟨[(0, _)], _, Ent.trans (Ent.eqc rfl (by first | (simp only [upd_same, updD_same, upd_ne, updD_ne, ne_eq, Nat.reduceEqDiff, not_false_eq_true, stg_t, stg_f, vAd_s, vCap_s, blk_p, List.cons_append, List.nil_append, b2n_t, b2n_f, ownV, slV, ptV] <;> rfl) | rfl)) (Ent.sub goSub), ?_⟩
        clear hf
        refine Then.norm ?_
        repeat' (first | refine goH ?_ | refine goV ?_ | refine goB (fun b => ?_) | refine goC (fun ad cap => ?_) | refine goG ?_ | (refine Ops.k_guard ?_; first | (refine Ops.guard_dec rfl rfl (fun hc => ?_) (fun hc => ?_) <;> try (exfalso; omega)) | refine Ops.guard_split rfl rfl (fun hc => ?_) (fun hc => ?_)) | refine goI ?_ | (refine Cw.k_cond ?_; first | (refine Cw.cond_dec rfl (fun hc => ?_) (fun hc => ?_) <;> try (exfalso; omega)) | refine Cw.cond_bool rfl (fun hc => ?_) (fun hc => ?_)) | refine goR ?_ | refine goP ?_ | apply PSeq.cons | apply PSeq.yes rfl rfl rfl | exact goW | fail)
        exact Fin.ret (Ent.take goTk) (Outs.zero rfl) ⟨rfl, ad, cap, rfl⟩
  | succ n ih =>
    intro pre a now w st ad cap hn hab hnow hw
    have hpl := intRows_len pre
    have kF : PFn Tryz.prog 41 [.agg [.int a.x, .int a.y], .agg [.int h.x, .int h.y]] (· = .int (farI a h)) := far_ok hab hhb
    have hfb := farI_bd hab hhb
    obtain ⟨B, m⟩ := st
    have hpl2 : pre.length < (l.map Stop.row).length := by omega
    by_cases hc : 0 ≤ m ∧ m ≤ w + farI a h
    · rw [seekD_cut hc]
      generalize farI a h = g at *
      refine Spec.body Tryz.func40 rfl rfl (Tryz.ntmps40) rfl fun w0 own0 M => ?_
      repeat' (first | refine goH ?_ | refine goV ?_ | refine goB (fun b => ?_) | refine goC (fun ad cap => ?_) | refine goG ?_ | (refine Ops.k_guard ?_; first | (refine Ops.guard_dec rfl rfl (fun hc => ?_) (fun hc => ?_) <;> try (exfalso; omega)) | refine Ops.guard_split rfl rfl (fun hc => ?_) (fun hc => ?_)) | refine goI ?_ | (refine Cw.k_cond ?_; first | (refine Cw.cond_dec rfl (fun hc => ?_) (fun hc => ?_) <;> try (exfalso; omega)) | refine Cw.cond_bool rfl (fun hc => ?_) (fun hc => ?_)) | (refine Ops.k_calla ?_; first | (refine Ops.k_callf 41 ?_; refine Ops.callV kF (Evs.cons rfl (Evs.cons rfl Evs.nil)) rfl ?_)) | (apply OpW.k_call; first | (apply OpW.k_callf 41; exact OpW.callV kF (Evs.cons rfl (Evs.cons rfl Evs.nil)))) | refine goR ?_ | refine goP ?_ | apply PSeq.cons | apply PSeq.yes rfl rfl rfl | exact goW | fail)
      exact Fin.ret (Ent.take goTk) (Outs.zero rfl) ⟨rfl, ad, cap, rfl⟩
    obtain ⟨F, hF⟩ : ∃ F : Nat → BS → BS, F = fun k st => match l[k]? with
      | none => st
      | some x => if (k : Int) ∈ pre ∨ x.t < max (now + farI a x.spot) x.f then st else seekD l h n (pre ++ [(k : Int)]) x.spot (max (now + farI a x.spot) x.f + x.n) (w + farI a x.spot) st := ⟨_, rfl⟩
    have hs : seekD l h (n + 1) pre a now w (B, m) = itF F 0 l.length (B, m) := by
      rw [seekD, if_neg hc, hF]
      all_goals with_unfolding_all rfl
    rw [hs]
    clear hs
    have hFx : ∀ {k : Nat} {x : Stop} {st : BS}, l[k]? = some x → F k st = if (k : Int) ∈ pre ∨ x.t < max (now + farI a x.spot) x.f then st else seekD l h n (pre ++ [(k : Int)]) x.spot (max (now + farI a x.spot) x.f + x.n) (w + farI a x.spot) st := by
      intro k x st hx
      rw [hF]
      simp only [hx]
    clear hF
    obtain ⟨S, hS⟩ : ∃ S, S = itF F 0 l.length (B, m) := ⟨_, rfl⟩
    rw [← hS]
    generalize farI a h = g at *
    refine Spec.body Tryz.func40 rfl rfl (Tryz.ntmps40) rfl fun w0 own0 M => ?_
    by_cases hm0 : 0 ≤ m
    all_goals
      repeat' (first | refine goH ?_ | refine goV ?_ | refine goB (fun b => ?_) | refine goC (fun ad cap => ?_) | refine goG ?_ | (refine Ops.k_guard ?_; first | (refine Ops.guard_dec rfl rfl (fun hc => ?_) (fun hc => ?_) <;> try (exfalso; omega)) | refine Ops.guard_split rfl rfl (fun hc => ?_) (fun hc => ?_)) | refine goI ?_ | (refine Cw.k_cond ?_; first | (refine Cw.cond_dec rfl (fun hc => ?_) (fun hc => ?_) <;> try (exfalso; omega)) | refine Cw.cond_bool rfl (fun hc => ?_) (fun hc => ?_)) | (refine Ops.k_calla ?_; first | (refine Ops.k_callf 41 ?_; refine Ops.callV kF (Evs.cons rfl (Evs.cons rfl Evs.nil)) rfl ?_)) | (apply OpW.k_call; first | (apply OpW.k_callf 41; exact OpW.callV kF (Evs.cons rfl (Evs.cons rfl Evs.nil)))) | refine goR ?_ | refine goP ?_ | apply PSeq.cons | apply PSeq.yes rfl rfl rfl | exact goW | fail)
      refine Cw.loopI [(0, _), (2, _), (3, _), (5, _), (69, _), (70, _)] _ (fun q e cc => ∃ (k : Nat) (B2 : List Int) (m2 : Int) (ad : Option Addr) (cap : Nat) (rows rows2 : List (List Tr)), q = l.length - k ∧ (k ≤ l.length ∧ rows = intRows pre ∧ rows2 = inR l.length pre ∧ S = itF F k (l.length - k) (B2, m2)) ∧ e = [(71, .int k)] ∧ cc = [Chunk.box bk 97 [.int h.x, .int h.y, .stops l, .int s, Tr.raw (.slice ad pre.length cap), Tr.raw (.slice ad2 l.length cap2), .ints B2, .int m2], Chunk.own ad cap 1 3 rows, Chunk.own ad2 cap2 1 4 rows2])
        ⟨_, _, _, (Ent.mkP goSub goPm), 0, B, m, ad, cap, _, _, rfl, ⟨by omega, rfl, rfl, by rw [Nat.sub_zero]; exact hS⟩, rfl, rfl⟩ ?_
      clear hS kF
      rintro _ _ _ ⟨k, B2, m2, ad3, cap3, _, _, rfl, ⟨hk, rfl, rfl, hV⟩, rfl, rfl⟩
      have hiR := inR_len l.length pre
      by_cases hkl : k < l.length
      rotate_left
      · rw [itF_end hkl] at hV
        subst hV
        repeat' (first | refine goH ?_ | refine goV ?_ | refine goB (fun b => ?_) | refine goC (fun ad cap => ?_) | refine goG ?_ | (refine Ops.k_guard ?_; first | (refine Ops.guard_dec rfl rfl (fun hc => ?_) (fun hc => ?_) <;> try (exfalso; omega)) | refine Ops.guard_split rfl rfl (fun hc => ?_) (fun hc => ?_)) | refine goI ?_ | (refine Cw.k_cond ?_; first | (refine Cw.cond_dec rfl (fun hc => ?_) (fun hc => ?_) <;> try (exfalso; omega)) | refine Cw.cond_bool rfl (fun hc => ?_) (fun hc => ?_)) | refine goR ?_ | refine goP ?_ | apply PSeq.cons | apply PSeq.yes rfl rfl rfl | exact goW | fail)
        exact Fin.norm (Ent.take goTk) (Outs.zero rfl) ⟨rfl, ad3, cap3, rfl⟩
      obtain ⟨x, hx⟩ := at_lt hkl
      rw [itF_step hkl, hFx hx] at hV
      have hrow : (l.map Stop.row)[k]? = some [.str x.key, .int x.x, .int x.y, .int x.f, .int x.t, .int x.n] := rows_at hx
      obtain ⟨⟨hxs, hx1⟩, hx2⟩ := stopB_ok (hst x (List.mem_of_getElem? hx))
      have kS : PFn Tryz.prog 41 [.agg [.int a.x, .int a.y], .agg [.int x.x, .int x.y]] (· = .int (farI a x.spot)) := far_ok hab hxs
      have hgb := farI_bd hab hxs
      have hq := inR_at (n := l.length) (pre := pre) hkl
      clear hFx hx hst
      by_cases hm : (k : Int) ∈ pre
      · rw [if_pos (.inl hm)] at hV
        rw [decide_eq_true hm] at hq
        clear ih
        generalize farI a x.spot = f at *
        repeat' (first | refine goH ?_ | refine goV ?_ | refine goB (fun b => ?_) | refine goC (fun ad cap => ?_) | refine goG ?_ | (refine Ops.k_guard ?_; first | (refine Ops.guard_dec rfl rfl (fun hc => ?_) (fun hc => ?_) <;> try (exfalso; omega)) | refine Ops.guard_split rfl rfl (fun hc => ?_) (fun hc => ?_)) | refine goI ?_ | (refine Cw.k_cond ?_; first | (refine Cw.cond_dec rfl (fun hc => ?_) (fun hc => ?_) <;> try (exfalso; omega)) | refine Cw.cond_bool rfl (fun hc => ?_) (fun hc => ?_)) | (refine Ops.k_calla ?_; first | (refine Ops.k_callf 41 ?_; refine Ops.callV kS (Evs.cons rfl (Evs.cons rfl Evs.nil)) rfl ?_)) | (apply OpW.k_call; first | (apply OpW.k_callf 41; exact OpW.callV kS (Evs.cons rfl (Evs.cons rfl Evs.nil)))) | refine goR ?_ | refine goP ?_ | apply PSeq.cons | apply PSeq.yes rfl rfl rfl | exact goW | fail)
        exact ⟨_, _, _, (Ent.mk goSub goTk), ⟨k + 1, _, _, _, _, _, _, rfl, ⟨by omega, rfl, rfl, hV⟩, rfl, rfl⟩, by omega⟩
      rw [decide_eq_false hm] at hq
      obtain ⟨mx, hmx⟩ : ∃ mx, mx = max (now + farI a x.spot) x.f := ⟨_, rfl⟩
      rw [← hmx] at hV
      by_cases hlate : x.t < mx
      · rw [if_pos (.inr hlate)] at hV
        clear ih
        rw [hmx] at hlate
        generalize farI a x.spot = f at *
        repeat' (first | refine goH ?_ | refine goV ?_ | refine goB (fun b => ?_) | refine goC (fun ad cap => ?_) | refine goG ?_ | (refine Ops.k_guard ?_; first | (refine Ops.guard_dec rfl rfl (fun hc => ?_) (fun hc => ?_) <;> try (exfalso; omega)) | refine Ops.guard_split rfl rfl (fun hc => ?_) (fun hc => ?_)) | refine goI ?_ | (refine Cw.k_cond ?_; first | (refine Cw.cond_dec rfl (fun hc => ?_) (fun hc => ?_) <;> try (exfalso; omega)) | refine Cw.cond_bool rfl (fun hc => ?_) (fun hc => ?_)) | (refine Ops.k_calla ?_; first | (refine Ops.k_callf 41 ?_; refine Ops.callV kS (Evs.cons rfl (Evs.cons rfl Evs.nil)) rfl ?_)) | (apply OpW.k_call; first | (apply OpW.k_callf 41; exact OpW.callV kS (Evs.cons rfl (Evs.cons rfl Evs.nil)))) | refine goR ?_ | refine goP ?_ | apply PSeq.cons | apply PSeq.yes rfl rfl rfl | exact goW | fail)
        exact ⟨_, _, _, (Ent.mk goSub goTk), ⟨k + 1, _, _, _, _, _, _, rfl, ⟨by omega, rfl, rfl, hV⟩, rfl, rfl⟩, by omega⟩
      rw [if_neg (by simp only [hm, hlate, or_self, not_false_eq_true])] at hV
      have kI := fun (ad : Option Addr) (cap : Nat) => ih (pre ++ [(k : Int)]) x.spot (mx + x.n) (w + farI a x.spot) (B2, m2) ad cap (by rw [List.length_append]; simp; omega) hxs (by omega) (by rw [List.length_append]; simp; omega)
      have hset := inR_set (n := l.length) (pre := pre) hkl
      have hback := inR_back (n := l.length) (pre := pre) hkl hm
      have hlate2 : ¬ x.t < max (now + farI a x.spot) x.f := by rw [← hmx]; exact hlate
      generalize farI a x.spot = f at *
      obtain ⟨B4, m4, hst4⟩ : ∃ B4 m4, seekD l h n (pre ++ [(k : Int)]) x.spot (mx + x.n) (w + f) (B2, m2) = (B4, m4) := ⟨_, _, rfl⟩
      rw [hst4] at hV
      simp only [hst4] at kI
      simp only [skC, hmx] at kI
      clear ih hst4
      repeat' (first | refine goH ?_ | refine goV ?_ | refine goB (fun b => ?_) | refine goC (fun ad cap => ?_) | refine goG ?_ | (refine Ops.k_guard ?_; first | (refine Ops.guard_dec rfl rfl (fun hc => ?_) (fun hc => ?_) <;> try (exfalso; omega)) | refine Ops.guard_split rfl rfl (fun hc => ?_) (fun hc => ?_)) | refine goI ?_ | (refine Cw.k_cond ?_; first | (refine Cw.cond_dec rfl (fun hc => ?_) (fun hc => ?_) <;> try (exfalso; omega)) | refine Cw.cond_bool rfl (fun hc => ?_) (fun hc => ?_)) | (refine Ops.k_calla ?_; first | (refine Ops.k_callf 41 ?_; refine Ops.callV kS (Evs.cons rfl (Evs.cons rfl Evs.nil)) rfl ?_)) | (apply OpW.k_call; first | (apply OpW.k_callf 41; exact OpW.callV kS (Evs.cons rfl (Evs.cons rfl Evs.nil)))) | refine goR ?_ | refine goP ?_ | apply PSeq.cons | apply PSeq.yes rfl rfl rfl | exact goW | fail)
      have hsn : intRows pre ++ [[Tr.int (k : Int)]] = intRows (pre ++ [(k : Int)]) := intRows_snoc pre k
      erw [hset]
      rw [hsn, intRows_len]
      refine Ops.call (kI ad cap) (Evs.cons rfl (Evs.cons rfl (Evs.cons rfl (Evs.cons rfl Evs.nil)))) goPm rfl ?_
      rintro r cs' ⟨rfl, ad', cap', rfl⟩
      have hq2 := inR_at (n := l.length) (pre := pre ++ [(k : Int)]) hkl
      rw [decide_eq_true (by simp)] at hq2
      have hiR2 := inR_len l.length (pre ++ [(k : Int)])
      have hpl3 := intRows_len (pre ++ [(k : Int)])
      have hpl4 : (pre ++ [(k : Int)]).length = pre.length + 1 := by simp
      have ht3 : (intRows (pre ++ [(k : Int)])).take pre.length = intRows pre := by
        rw [← intRows_snoc, List.take_left' hpl]
      clear kI hset hsn hlate2 hmx hlate kS hrow hL
      repeat' (first | refine goH ?_ | refine goV ?_ | refine goB (fun b => ?_) | refine goC (fun ad cap => ?_) | refine goG ?_ | (refine Ops.k_guard ?_; first | (refine Ops.guard_dec rfl rfl (fun hc => ?_) (fun hc => ?_) <;> try (exfalso; omega)) | refine Ops.guard_split rfl rfl (fun hc => ?_) (fun hc => ?_)) | refine goI ?_ | (refine Cw.k_cond ?_; first | (refine Cw.cond_dec rfl (fun hc => ?_) (fun hc => ?_) <;> try (exfalso; omega)) | refine Cw.cond_bool rfl (fun hc => ?_) (fun hc => ?_)) | fail)
      refine Cw.region_seqF (m := 12) [0] rfl (by decide +kernel) rfl (fun a w d => FlRun.move rfl rfl rfl rfl FlRun.nil) ?_
      iterate 11 (apply PSeq.cons; exact goW)
      apply PSeq.cons
      exact OpV.w (OpV.slice_own_hP rfl rfl goPk (by omega) (by omega))
      repeat' (first | refine goH ?_ | refine goV ?_ | refine goB (fun b => ?_) | refine goC (fun ad cap => ?_) | refine goG ?_ | (refine Ops.k_guard ?_; first | (refine Ops.guard_dec rfl rfl (fun hc => ?_) (fun hc => ?_) <;> try (exfalso; omega)) | refine Ops.guard_split rfl rfl (fun hc => ?_) (fun hc => ?_)) | refine goI ?_ | (refine Cw.k_cond ?_; first | (refine Cw.cond_dec rfl (fun hc => ?_) (fun hc => ?_) <;> try (exfalso; omega)) | refine Cw.cond_bool rfl (fun hc => ?_) (fun hc => ?_)) | refine NoP.norm ?_ | refine goR ?_ | refine goP ?_ | apply PSeq.cons | apply PSeq.yes rfl rfl rfl | exact goW | fail)
      have e1 : ((pre ++ [(k : Int)]).length - 1 : Int).toNat = pre.length := by omega
      rw [e1]
      erw [hback]
      exact ⟨_, _, _, Ent.trans (Ent.own_head pre.length ht3 goPk (by omega)) (Ent.mk goSub goTk), ⟨k + 1, B4, m4, _, _, _, _, rfl, ⟨by omega, rfl, rfl, hV⟩, rfl, rfl⟩, by omega⟩
end Lg
end
section
set_option linter.all false
set_option maxRecDepth 100000
set_option maxHeartbeats 8000000
namespace Lg
open Go Go.Proofs

/-! ### the closure of BestRoute -/
/-- a route driven in BestRoute -/
theorem containsO_fn {ad : Option Addr} {n cap : Nat} (l : List Int) (v : Int) (hn : n = (intRows l).length) (hl : l.length ≤ 1000) : Spec Tryz.prog 42 [Tr.raw (.slice ad n cap), .int v] [Chunk.own ad cap 1 3 (intRows l)] (fun r cs => r = .bool (decide (v ∈ l)) ∧ cs = [Chunk.own ad cap 1 3 (intRows l)]) :=
  PFn.lendO (pre := []) (suf := [.int v]) (contains_fn l v (by omega)) hn raw_free
attribute [local irreducible] intRows tryR itF drvP tripE ordersE
end Lg
end
