/- A part of the proof of a law of this seat: it adds no condition. By an AI agent. -/
import Derived.Shelf.SlSortCmp.WholeK
import Derived.Test.YtaoclkglimibeaaGreatDoorLgSort3
import Derived.Test.YtaoclkglimibeaaGreatDoorLe11
section
set_option linter.all false
set_option maxRecDepth 100000
set_option maxHeartbeats 8000000
namespace Lg
open Go Go.Proofs

/-! ### Cancel of the reference -/
theorem containsO_fn {ad : Option Addr} {cap n : Nat} (l : List Int) (v : Int) (hn : n = (intRows l).length) (hl : l.length ≤ 1000000) : Spec Tryz.prog 54 [Tr.raw (.slice ad n cap), .int v] [Chunk.own ad cap 1 3 (intRows l)] (fun r cs => r = .bool (decide (v ∈ l)) ∧ cs = [Chunk.own ad cap 1 3 (intRows l)]) :=
  PFn.lendO (pre := []) (suf := [.int v]) (contains_fn l v hl) hn raw_free
theorem any_back (L : List Ps) (no : Int) : (L.any fun q => decide (q.back = no)) = decide (no ∈ L.map Ps.back) := by
  rw [Bool.eq_iff_iff, List.any_eq_true, decide_eq_true_iff, List.mem_map]
  constructor
  · rintro ⟨q, h1, h2⟩; exact ⟨q, h1, of_decide_eq_true h2⟩
  · rintro ⟨q, h1, h2⟩; exact ⟨q, h1, decide_eq_true h2⟩
attribute [local irreducible] entS plS dayB flgO itoaK
theorem cancelY_fn (bx n cap : Nat) (ad ad2 : Option Addr) (cap2 : Nat) (L : List Ps) (no : Int) (hs : LSt L) (hn : n = L.length) :
    Spec Tryz.prog 27 [.ptr bx, .int no] [bkC, ledY bx ad n cap ad2 n cap2, ownE ad cap L, ownB ad2 cap2 L]
      (fun r cs => ∃ (ad' ad2' : Option Addr) (n' cap' cap2' : Nat), r = resR (cnlR L no) ∧ n' = (cnlR L no).1.length ∧ cs = [bkC, ledY bx ad' n' cap' ad2' n' cap2', ownE ad' cap' (cnlR L no).1, ownB ad2' cap2' (cnlR L no).1]) := by
  have hL : (L.map enR).length = n := by rw [List.length_map, hn]
  have hL2 : (intRows (L.map Ps.back)).length = n := by rw [intRows_len, List.length_map, hn]
  have hLl := hs.ok.1
  refine Spec.body Tryz.func27 rfl rfl (Tryz.ntmps27) rfl fun w0 own0 M => ?_
  unfold resR
  by_cases hno : no < 1 ∨ (L.length : Int) < no
  · rw [cnlR_no hno]
    rw [← hn] at hno
    by_cases h1 : no < 1
    · repeat' (first | refine goH ?_ | refine goV ?_ | refine goB (fun b => ?_) | refine goC (fun ad cap => ?_) | refine goG ?_ | (refine Ops.k_guard ?_; first | (refine Ops.guard_dec rfl rfl (fun hc => ?_) (fun hc => ?_) <;> try (exfalso; omega)) | refine Ops.guard_split rfl rfl (fun hc => ?_) (fun hc => ?_)) | refine goI ?_ | (refine Cw.k_cond ?_; first | (refine Cw.cond_dec rfl (fun hc => ?_) (fun hc => ?_) <;> try (exfalso; omega)) | refine Cw.cond_bool rfl (fun hc => ?_) (fun hc => ?_)) | refine goR ?_ | refine goP ?_ | apply PSeq.cons | apply PSeq.yes rfl rfl rfl | exact goW | fail)
      exact Fin.ret (Ent.take goTk) (Outs.many rfl (OutL.cons goOe (OutL.cons goOe OutL.nil)) rfl) ⟨ad, ad2, n, cap, cap2, rfl, hn, rfl⟩
    · repeat' (first | refine goH ?_ | refine goV ?_ | refine goB (fun b => ?_) | refine goC (fun ad cap => ?_) | refine goG ?_ | (refine Ops.k_guard ?_; first | (refine Ops.guard_dec rfl rfl (fun hc => ?_) (fun hc => ?_) <;> try (exfalso; omega)) | refine Ops.guard_split rfl rfl (fun hc => ?_) (fun hc => ?_)) | refine goI ?_ | (refine Cw.k_cond ?_; first | (refine Cw.cond_dec rfl (fun hc => ?_) (fun hc => ?_) <;> try (exfalso; omega)) | refine Cw.cond_bool rfl (fun hc => ?_) (fun hc => ?_)) | refine goR ?_ | refine goP ?_ | apply PSeq.cons | apply PSeq.yes rfl rfl rfl | exact goW | fail)
      exact Fin.ret (Ent.take goTk) (Outs.many rfl (OutL.cons goOe (OutL.cons goOe OutL.nil)) rfl) ⟨ad, ad2, n, cap, cap2, rfl, hn, rfl⟩
  obtain ⟨p, hp⟩ := at_lt (l := L) (k := (no - 1).toNat) (by omega)
  obtain ⟨q, hq⟩ := at_lt (l := L) (k := n - 1) (by omega)
  have hpm := List.mem_of_getElem? hp
  have hqm := List.mem_of_getElem? hq
  have hpb := hs.bk p hpm
  have hrow : (L.map enR)[(no - 1).toNat]? = some [.int p.e.day, .str p.e.text, .lns p.e.ls] := rows_at (f := enR) hp
  have hrowb : (intRows (L.map Ps.back))[(no - 1).toNat]? = some [.int p.back] := intRows_at (by rw [List.getElem?_map, hp]; rfl)
  have hrow2 : (L.map enR)[((n : Int) - 1).toNat]? = some [.int q.e.day, .str q.e.text, .lns q.e.ls] := by
    rw [show ((n : Int) - 1).toNat = n - 1 by omega]
    exact rows_at (f := enR) hq
  have hld := lastDay_at (L := L) (q := q) (by rw [← hn]; exact hq)
  have hoff : offB L no p = (decide (0 < p.back) || decide (no ∈ L.map Ps.back)) := by
    unfold offB
    rw [any_back]
  have hno2 : 1 ≤ no ∧ no ≤ n := by omega
  have kct := containsO_fn (ad := ad2) (cap := cap2) (n := n) (L.map Ps.back) no hL2.symm (by rw [List.length_map]; omega)
  generalize decide (no ∈ L.map Ps.back) = ct at *
  by_cases hb : 0 < p.back
  · rw [cnlR_off hno hp (by rw [hoff, decide_eq_true hb, Bool.true_or])]
    repeat' (first | refine goH ?_ | refine goV ?_ | refine goB (fun b => ?_) | refine goC (fun ad cap => ?_) | refine goG ?_ | (refine Ops.k_guard ?_; first | (refine Ops.guard_dec rfl rfl (fun hc => ?_) (fun hc => ?_) <;> try (exfalso; omega)) | refine Ops.guard_split rfl rfl (fun hc => ?_) (fun hc => ?_)) | refine goI ?_ | (refine Cw.k_cond ?_; first | (refine Cw.cond_dec rfl (fun hc => ?_) (fun hc => ?_) <;> try (exfalso; omega)) | refine Cw.cond_bool rfl (fun hc => ?_) (fun hc => ?_)) | refine goR ?_ | refine goP ?_ | apply PSeq.cons | apply PSeq.yes rfl rfl rfl | exact goW | fail)
    exact Fin.ret (Ent.take goTk) (Outs.many rfl (OutL.cons goOe (OutL.cons goOe OutL.nil)) rfl) ⟨ad, ad2, n, cap, cap2, rfl, hn, rfl⟩
  cases ct
  rotate_left
  · rw [cnlR_off hno hp (by rw [hoff, Bool.or_true])]
    repeat' (first | refine goH ?_ | refine goV ?_ | refine goB (fun b => ?_) | refine goC (fun ad cap => ?_) | refine goG ?_ | (refine Ops.k_guard ?_; first | (refine Ops.guard_dec rfl rfl (fun hc => ?_) (fun hc => ?_) <;> try (exfalso; omega)) | refine Ops.guard_split rfl rfl (fun hc => ?_) (fun hc => ?_)) | refine goI ?_ | (refine Cw.k_cond ?_; first | (refine Cw.cond_dec rfl (fun hc => ?_) (fun hc => ?_) <;> try (exfalso; omega)) | refine Cw.cond_bool rfl (fun hc => ?_) (fun hc => ?_)) | (refine Ops.k_calla ?_; first | (refine Ops.k_callf 54 ?_; refine Ops.callS kct (Evs.cons rfl (Evs.cons rfl Evs.nil)) goPm rfl ?_)) | (apply OpW.k_call; first | (apply OpW.k_callf 54; exact OpW.callS kct (Evs.cons rfl (Evs.cons rfl Evs.nil)) goPm)) | refine goR ?_ | refine goP ?_ | apply PSeq.cons | apply PSeq.yes rfl rfl rfl | exact goW | fail)
    exact Fin.ret (Ent.take goTk) (Outs.many rfl (OutL.cons goOe (OutL.cons goOe OutL.nil)) rfl) ⟨ad, ad2, n, cap, cap2, rfl, hn, rfl⟩
  rw [cnlR_ok hno hp (by rw [hoff, decide_eq_false hb]; rfl)]
  have hlr : (p.e.ls.map Ln.row).length = p.e.ls.length := List.length_map _
  obtain ⟨c1, c2, c3, c4, c5⟩ := cnlP_ok hs hno hpm hqm hld
  have hadd := postY_fn bx n cap ad ad2 cap2 L (cnlP L no p) hs.ok c1 c2 hn
  have hti := itoaK_fn no (by omega) (by omega)
  have hsz := itoaK_size (x := no) (by omega) (by omega)
  have hcb : (⟨#[99, 97, 110, 99, 101, 108, 32]⟩ : ByteArray).size = 7 := rfl
  obtain ⟨hpo1, hpo2⟩ := hs.ok.2 p hpm
  repeat' (first | refine goH ?_ | refine goV ?_ | refine goB (fun b => ?_) | refine goC (fun ad cap => ?_) | refine goG ?_ | (refine Ops.k_guard ?_; first | (refine Ops.guard_dec rfl rfl (fun hc => ?_) (fun hc => ?_) <;> try (exfalso; omega)) | refine Ops.guard_split rfl rfl (fun hc => ?_) (fun hc => ?_)) | refine goI ?_ | (refine Cw.k_cond ?_; first | (refine Cw.cond_dec rfl (fun hc => ?_) (fun hc => ?_) <;> try (exfalso; omega)) | refine Cw.cond_bool rfl (fun hc => ?_) (fun hc => ?_)) | (refine Ops.k_calla ?_; first | (refine Ops.k_callf 54 ?_; refine Ops.callS kct (Evs.cons rfl (Evs.cons rfl Evs.nil)) goPm rfl ?_)) | (apply OpW.k_call; first | (apply OpW.k_callf 54; exact OpW.callS kct (Evs.cons rfl (Evs.cons rfl Evs.nil)) goPm)) | fail)
  have htx : cancB ++ itoaK no = txtK no := rfl
  first | refine Cw.region_YP (fun ξ S => bkC :: ledY bx ad n cap ad2 n cap2 :: ownE ad cap L :: ownB ad2 cap2 L :: (stg (S 17) [] [Chunk.box (blk (ξ 17)) 52 (stg (S 18) (List.map Tr.raw [.int .i64 0, .string ⟨#[]⟩, .slice none 0 0]) [.int q.e.day, .str (cancB ++ itoaK no), Tr.raw (.slice none 0 0)])] ++ [])) rfl (by decide +kernel) rfl ((fun (ξ : Nat → Value) (S : Nat → Bool) => bkC :: ledY bx ad n cap ad2 n cap2 :: ownE ad cap L :: ownB ad2 cap2 L :: (stg (S 17) [] [Chunk.box (blk (ξ 17)) 52 (stg (S 18) (List.map Tr.raw [.int .i64 0, .string ⟨#[]⟩, .slice none 0 0]) [.int q.e.day, .str (cancB ++ itoaK no), Tr.raw (.slice none 0 0)])] ++ [])) (fun _ => undef) (fun _ => false)) (by simp only [upd_same, updD_same, upd_ne, updD_ne, ne_eq, Nat.reduceEqDiff, not_false_eq_true, stg_t, stg_f, vAd_s, vCap_s, blk_p, List.cons_append, List.nil_append, b2n_t, b2n_f]; exact goXm) (fun _ => rfl) ?_ | fail
  apply YSeq.w (by intro _ _ _; rfl)
  · intro ξ S h1 h2 h3 h4
    have hN0_18 := closed_false h1 h3 (k := 18) rfl (by decide)
    try simp only [upd_same, updD_same, upd_ne, updD_ne, ne_eq, Nat.reduceEqDiff, not_false_eq_true, stg_t, stg_f, vAd_s, vCap_s, blk_p, List.cons_append, List.nil_append, b2n_t, b2n_f, hN0_18]
    exact goW
  · intro ξ v; rfl
  · intro ξ k v S h3 hn hk
    first
    | rfl
  apply YSeq.w (by intro _ _ _; rfl)
  · intro ξ S h1 h2 h3 h4
    have hN1_18 := closed_false h1 h3 (k := 18) rfl (by decide)
    try simp only [upd_same, updD_same, upd_ne, updD_ne, ne_eq, Nat.reduceEqDiff, not_false_eq_true, stg_t, stg_f, vAd_s, vCap_s, blk_p, List.cons_append, List.nil_append, b2n_t, b2n_f, hN1_18]
    exact goW
  · intro ξ v; rfl
  · intro ξ k v S h3 hn hk
    first
    | rfl
  apply YSeq.w (by intro _ _ _; rfl)
  · intro ξ S h1 h2 h3 h4
    have hN2_18 := closed_false h1 h3 (k := 18) rfl (by decide)
    try simp only [upd_same, updD_same, upd_ne, updD_ne, ne_eq, Nat.reduceEqDiff, not_false_eq_true, stg_t, stg_f, vAd_s, vCap_s, blk_p, List.cons_append, List.nil_append, b2n_t, b2n_f, hN2_18]
    exact goW
  · intro ξ v; rfl
  · intro ξ k v S h3 hn hk
    first
    | rfl
  apply YSeq.w (by intro _ _ _; rfl)
  · intro ξ S h1 h2 h3 h4
    have hN3_18 := closed_false h1 h3 (k := 18) rfl (by decide)
    try simp only [upd_same, updD_same, upd_ne, updD_ne, ne_eq, Nat.reduceEqDiff, not_false_eq_true, stg_t, stg_f, vAd_s, vCap_s, blk_p, List.cons_append, List.nil_append, b2n_t, b2n_f, hN3_18]
    exact goW
  · intro ξ v; rfl
  · intro ξ k v S h3 hn hk
    first
    | rfl
  apply YSeq.w (by intro _ _ _; rfl)
  · intro ξ S h1 h2 h3 h4
    have hN4_18 := closed_false h1 h3 (k := 18) rfl (by decide)
    try simp only [upd_same, updD_same, upd_ne, updD_ne, ne_eq, Nat.reduceEqDiff, not_false_eq_true, stg_t, stg_f, vAd_s, vCap_s, blk_p, List.cons_append, List.nil_append, b2n_t, b2n_f, hN4_18]
    exact goW
  · intro ξ v; rfl
  · intro ξ k v S h3 hn hk
    first
    | rfl
  apply YSeq.w (by intro _ _ _; rfl)
  · intro ξ S h1 h2 h3 h4
    have hN5_18 := closed_false h1 h3 (k := 18) rfl (by decide)
    try simp only [upd_same, updD_same, upd_ne, updD_ne, ne_eq, Nat.reduceEqDiff, not_false_eq_true, stg_t, stg_f, vAd_s, vCap_s, blk_p, List.cons_append, List.nil_append, b2n_t, b2n_f, hN5_18]
    exact goW
  · intro ξ v; rfl
  · intro ξ k v S h3 hn hk
    first
    | rfl
  apply YSeq.w (by intro _ _ _; rfl)
  · intro ξ S h1 h2 h3 h4
    have hN6_18 := closed_false h1 h3 (k := 18) rfl (by decide)
    try simp only [upd_same, updD_same, upd_ne, updD_ne, ne_eq, Nat.reduceEqDiff, not_false_eq_true, stg_t, stg_f, vAd_s, vCap_s, blk_p, List.cons_append, List.nil_append, b2n_t, b2n_f, hN6_18]
    exact goW
  · intro ξ v; rfl
  · intro ξ k v S h3 hn hk
    first
    | rfl
  apply YSeq.w (by intro _ _ _; rfl)
  · intro ξ S h1 h2 h3 h4
    have hN7_18 := closed_false h1 h3 (k := 18) rfl (by decide)
    try simp only [upd_same, updD_same, upd_ne, updD_ne, ne_eq, Nat.reduceEqDiff, not_false_eq_true, stg_t, stg_f, vAd_s, vCap_s, blk_p, List.cons_append, List.nil_append, b2n_t, b2n_f, hN7_18]
    exact goW
  · intro ξ v; rfl
  · intro ξ k v S h3 hn hk
    first
    | rfl
  apply YSeq.w (by intro _ _ _; rfl)
  · intro ξ S h1 h2 h3 h4
    have hN8_18 := closed_false h1 h3 (k := 18) rfl (by decide)
    try simp only [upd_same, updD_same, upd_ne, updD_ne, ne_eq, Nat.reduceEqDiff, not_false_eq_true, stg_t, stg_f, vAd_s, vCap_s, blk_p, List.cons_append, List.nil_append, b2n_t, b2n_f, hN8_18]
    exact goW
  · intro ξ v; rfl
  · intro ξ k v S h3 hn hk
    first
    | rfl
  apply YSeq.w (by intro _ _ _; rfl)
  · intro ξ S h1 h2 h3 h4
    have hN9_18 := closed_false h1 h3 (k := 18) rfl (by decide)
    try simp only [upd_same, updD_same, upd_ne, updD_ne, ne_eq, Nat.reduceEqDiff, not_false_eq_true, stg_t, stg_f, vAd_s, vCap_s, blk_p, List.cons_append, List.nil_append, b2n_t, b2n_f, hN9_18]
    exact goW
  · intro ξ v; rfl
  · intro ξ k v S h3 hn hk
    first
    | rfl
  apply YSeq.w (by intro _ _ _; rfl)
  · intro ξ S h1 h2 h3 h4
    have hN10_18 := closed_false h1 h3 (k := 18) rfl (by decide)
    try simp only [upd_same, updD_same, upd_ne, updD_ne, ne_eq, Nat.reduceEqDiff, not_false_eq_true, stg_t, stg_f, vAd_s, vCap_s, blk_p, List.cons_append, List.nil_append, b2n_t, b2n_f, hN10_18]
    exact goW
  · intro ξ v; rfl
  · intro ξ k v S h3 hn hk
    first
    | rfl
  apply YSeq.w (by intro _ _ _; rfl)
  · intro ξ S h1 h2 h3 h4
    have hN11_18 := closed_false h1 h3 (k := 18) rfl (by decide)
    try simp only [upd_same, updD_same, upd_ne, updD_ne, ne_eq, Nat.reduceEqDiff, not_false_eq_true, stg_t, stg_f, vAd_s, vCap_s, blk_p, List.cons_append, List.nil_append, b2n_t, b2n_f, hN11_18]
    exact goW
  · intro ξ v; rfl
  · intro ξ k v S h3 hn hk
    first
    | rfl
  apply YSeq.w (by intro _ _ _; rfl)
  · intro ξ S h1 h2 h3 h4
    have hN12_18 := closed_false h1 h3 (k := 18) rfl (by decide)
    try simp only [upd_same, updD_same, upd_ne, updD_ne, ne_eq, Nat.reduceEqDiff, not_false_eq_true, stg_t, stg_f, vAd_s, vCap_s, blk_p, List.cons_append, List.nil_append, b2n_t, b2n_f, hN12_18]
    exact goW
  · intro ξ v; rfl
  · intro ξ k v S h3 hn hk
    first
    | rfl
  apply YSeq.w (by intro _ _ _; rfl)
  · intro ξ S h1 h2 h3 h4
    have hN13_18 := closed_false h1 h3 (k := 18) rfl (by decide)
    try simp only [upd_same, updD_same, upd_ne, updD_ne, ne_eq, Nat.reduceEqDiff, not_false_eq_true, stg_t, stg_f, vAd_s, vCap_s, blk_p, List.cons_append, List.nil_append, b2n_t, b2n_f, hN13_18]
    exact goW
  · intro ξ v; rfl
  · intro ξ k v S h3 hn hk
    first
    | rfl
  apply YSeq.callC
  · intro ξ S h1 h2 h3 h4
    have hN14_18 := closed_false h1 h3 (k := 18) rfl (by decide)
    try simp only [upd_same, updD_same, upd_ne, updD_ne, ne_eq, Nat.reduceEqDiff, not_false_eq_true, stg_t, stg_f, vAd_s, vCap_s, blk_p, List.cons_append, List.nil_append, b2n_t, b2n_f, hN14_18]
    exact ⟨_, _, _, _, hti, (Evs.cons rfl Evs.nil), goXp, fun v => (by first | exact goXp | (simp only [upd_same, updD_same, upd_ne, updD_ne, ne_eq, Nat.reduceEqDiff, not_false_eq_true, stg_t, stg_f, vAd_s, vCap_s, blk_p, List.cons_append, List.nil_append, b2n_t, b2n_f]; exact goXp))⟩
  · intro ξ v; rfl
  · intro ξ k v S h3 hn hk
    first
    | rfl
  apply YSeq.w (by intro _ _ _; rfl)
  · intro ξ S h1 h2 h3 h4
    have hN15_18 := closed_false h1 h3 (k := 18) rfl (by decide)
    try simp only [upd_same, updD_same, upd_ne, updD_ne, ne_eq, Nat.reduceEqDiff, not_false_eq_true, stg_t, stg_f, vAd_s, vCap_s, blk_p, List.cons_append, List.nil_append, b2n_t, b2n_f, hN15_18]
    exact OpV.w (OpV.catB rfl rfl (by omega))
  · intro ξ v; rfl
  · intro ξ k v S h3 hn hk
    first
    | rfl
  apply YSeq.w (by intro _ _ _; rfl)
  · intro ξ S h1 h2 h3 h4
    have hN16_18 := closed_false h1 h3 (k := 18) rfl (by decide)
    try simp only [upd_same, updD_same, upd_ne, updD_ne, ne_eq, Nat.reduceEqDiff, not_false_eq_true, stg_t, stg_f, vAd_s, vCap_s, blk_p, List.cons_append, List.nil_append, b2n_t, b2n_f, hN16_18]
    exact goW
  · intro ξ v; rfl
  · intro ξ k v S h3 hn hk
    first
    | rfl
  apply YSeq.alloc
  · intro ξ S b h1 h3
    have hN17_18 := closed_false h1 h3 (k := 18) rfl (by decide)
    simp only [upd_same, updD_same, upd_ne, updD_ne, ne_eq, Nat.reduceEqDiff, not_false_eq_true, stg_t, stg_f, vAd_s, vCap_s, blk_p, List.cons_append, List.nil_append, b2n_t, b2n_f, h1, hN17_18]
    exact goXm
  apply YSeq.store
  · intro ξ S h1 h2 h3 h4
    have hY18_17 : S 17 = true := h2 17 (by decide)
    simp only [upd_same, updD_same, upd_ne, updD_ne, ne_eq, Nat.reduceEqDiff, not_false_eq_true, stg_t, stg_f, vAd_s, vCap_s, blk_p, List.cons_append, List.nil_append, b2n_t, b2n_f, hY18_17, h1]
    refine ⟨_, _, _, _, _, _, _, rfl, rfl, inferInstance, goXp, rfl, Nat.le_of_ble_eq_true rfl, ?_⟩
    exact goXm
  refine YSeq.nil fun ξ hf => ?_
  refine ⟨[(0, _), (1, _), (6, _)], _, Ent.trans (Ent.eqc rfl (by first | (simp only [upd_same, updD_same, upd_ne, updD_ne, ne_eq, Nat.reduceEqDiff, not_false_eq_true, stg_t, stg_f, vAd_s, vCap_s, blk_p, List.cons_append, List.nil_append, b2n_t, b2n_f, ownV, slV, ptV] <;> rfl) | rfl)) (Ent.sub goSub), ?_⟩
  clear hf
  generalize blk (ξ 17) = b6
  repeat (first | refine InB.norm ?_ | refine Then.norm ?_)
  rw [htx]
  repeat' (first | refine goH ?_ | refine goV ?_ | refine goB (fun b => ?_) | refine goC (fun ad cap => ?_) | refine goG ?_ | (refine Ops.k_guard ?_; first | (refine Ops.guard_dec rfl rfl (fun hc => ?_) (fun hc => ?_) <;> try (exfalso; omega)) | refine Ops.guard_split rfl rfl (fun hc => ?_) (fun hc => ?_)) | refine goI ?_ | (refine Cw.k_cond ?_; first | (refine Cw.cond_dec rfl (fun hc => ?_) (fun hc => ?_) <;> try (exfalso; omega)) | refine Cw.cond_bool rfl (fun hc => ?_) (fun hc => ?_)) | refine goR ?_ | refine goP ?_ | apply PSeq.cons | apply PSeq.yes rfl rfl rfl | exact goW | fail)
  refine Cw.loopI [(0, _), (1, _), (6, _), (62, _), (63, _)] _ (fun g e cc => ∃ (k nl : Nat) (rows : List (List Tr)) (ad3 : Option Addr) (cap3 : Nat), g = p.e.ls.length - k ∧ (k ≤ p.e.ls.length ∧ rows = ((p.e.ls.take k).map Ln.neg).map Ln.row ∧ nl = rows.length ∧ nl = k) ∧ e = [(64, .int k)] ∧ cc = [Chunk.box b6 52 [.int q.e.day, .str (txtK no), Tr.raw (.slice ad3 nl cap3)], Chunk.own ad3 cap3 2 57 rows])
    ⟨_, _, _, Ent.trans (Ent.nil 2 57) (Ent.mkP goSub goPm), 0, 0, [], none, 0, rfl, ⟨by omega, rfl, rfl, rfl⟩, rfl, rfl⟩ ?_
  rintro _ _ _ ⟨k, nl, rows, ad3, cap3, rfl, ⟨hk, hrows, hrl, hnk⟩, rfl, rfl⟩
  by_cases hkl : k < p.e.ls.length
  · obtain ⟨x, hx⟩ := at_lt hkl
    have hxc := hpo2 x (List.mem_of_getElem? hx)
    have hr2 : (p.e.ls.map Ln.row)[k]? = some [.str x.acc, .int x.c] := rows_at hx
    have hnx := neg_snoc hx
    rw [← hrows] at hnx
    clear hrows hadd
    repeat' (first | refine goH ?_ | refine goV ?_ | refine goB (fun b => ?_) | refine goC (fun ad cap => ?_) | refine goG ?_ | (refine Ops.k_guard ?_; first | (refine Ops.guard_dec rfl rfl (fun hc => ?_) (fun hc => ?_) <;> try (exfalso; omega)) | refine Ops.guard_split rfl rfl (fun hc => ?_) (fun hc => ?_)) | refine goI ?_ | (refine Cw.k_cond ?_; first | (refine Cw.cond_dec rfl (fun hc => ?_) (fun hc => ?_) <;> try (exfalso; omega)) | refine Cw.cond_bool rfl (fun hc => ?_) (fun hc => ?_)) | refine goR ?_ | refine goP ?_ | apply PSeq.cons | apply PSeq.yes rfl rfl rfl | exact goW | fail)
    exact ⟨_, _, _, (Ent.mk goSub goTk), ⟨k + 1, _, _, _, _, rfl, ⟨by omega, hnx.symm, rfl, by rw [List.length_append, ← hrl, hnk]; rfl⟩, rfl, rfl⟩, by omega⟩
  have hke : k = p.e.ls.length := by omega
  rw [List.take_of_length_le (by omega)] at hrows
  have hrp : (cnlP L no p).e.row = [.int q.e.day, .str (txtK no), .lns (p.e.ls.map Ln.neg)] := by
    unfold cnlP En.row
    simp only
    rw [hld]
  rw [hrp] at hadd
  unfold addRes at hadd
  have hbk : (cnlP L no p).back = no := rfl
  rw [hbk] at hadd
  refine Cw.ent (Ent.settle_box (b := b6) (i := 2) (kk := 2) (rows := rows) (ts' := [.int q.e.day, .str (txtK no), .lns (p.e.ls.map Ln.neg)]) (by exact Perm.cons' goPk (Perm.cons' goPk (List.Perm.refl _))) rfl hrl (by rw [hrows]; rfl)) ?_
  clear c1 c2 c3 c4 c5 hrows
  generalize hR : addR L (cnlP L no p) = R at *
  repeat' (first | refine goH ?_ | refine goV ?_ | refine goB (fun b => ?_) | refine goC (fun ad cap => ?_) | refine goG ?_ | (refine Ops.k_guard ?_; first | (refine Ops.guard_dec rfl rfl (fun hc => ?_) (fun hc => ?_) <;> try (exfalso; omega)) | refine Ops.guard_split rfl rfl (fun hc => ?_) (fun hc => ?_)) | refine goI ?_ | (refine Cw.k_cond ?_; first | (refine Cw.cond_dec rfl (fun hc => ?_) (fun hc => ?_) <;> try (exfalso; omega)) | refine Cw.cond_bool rfl (fun hc => ?_) (fun hc => ?_)) | (refine Ops.k_calla ?_; first | (refine Ops.k_callf 55 ?_; (refine Ops.call hadd (Evs.cons rfl (Evs.cons rfl (Evs.cons rfl Evs.nil))) goPm rfl ?_; rintro r cs' ⟨ad', ad2', n', cap', cap2', rfl, hn', rfl⟩))) | refine goR ?_ | refine goP ?_ | apply PSeq.cons | apply PSeq.yes rfl rfl rfl | exact goW | fail)
  exact Fin.ret (Ent.take goTk) (Outs.many rfl (OutL.cons goOe (OutL.cons goOe OutL.nil)) rfl) ⟨ad', ad2', n', cap', cap2', rfl, hn', rfl⟩
end Lg
end
section
set_option linter.all false
set_option maxRecDepth 100000
set_option maxHeartbeats 1000000
namespace Lg
open Go

/-- neighbours that are the same, once -/
def dd {α : Type} [DecidableEq α] : List α → List α
  | [] => []
  | [a] => [a]
  | a :: b :: l => if a = b then dd (b :: l) else a :: dd (b :: l)
theorem dd_mem {α : Type} [DecidableEq α] : ∀ (l : List α) (x : α), x ∈ dd l ↔ x ∈ l
  | [], x => Iff.rfl
  | [a], x => Iff.rfl
  | a :: b :: l, x => by
    have ih := dd_mem (b :: l) x
    unfold dd
    split
    · rename_i h
      subst h
      rw [ih]
      simp
    · rw [List.mem_cons, List.mem_cons, ih]
theorem dd_sorted {α : Type} [DecidableEq α] {le : α → α → Prop} (ha : ∀ a b, le a b → le b a → a = b) : ∀ (l : List α), l.Pairwise le → (dd l).Pairwise fun a b => le a b ∧ a ≠ b
  | [], _ => List.Pairwise.nil
  | [a], _ => by unfold dd; exact List.pairwise_singleton _ _
  | a :: b :: l, h => by
    have hh := List.pairwise_cons.1 h
    have ih := dd_sorted ha (b :: l) hh.2
    unfold dd
    split
    · exact ih
    · rename_i hne
      refine List.pairwise_cons.2 ⟨fun y hy => ?_, ih⟩
      have hy2 : y ∈ b :: l := (dd_mem _ _).1 hy
      refine ⟨hh.1 y hy2, fun e => ?_⟩
      subst e
      rcases List.mem_cons.1 hy2 with h2 | h2
      · exact hne h2
      · have h3 := (List.pairwise_cons.1 hh.2).1 a h2
        exact hne (ha a b (hh.1 b (by simp)) h3)
/-- strictly sorted lists of the same members are the same -/
theorem strict_uniq {α : Type} {lt : α → α → Prop} (hi : ∀ a, ¬ lt a a) (ht : ∀ a b c, lt a b → lt b c → lt a c) {l1 l2 : List α} (h1 : l1.Pairwise lt) (h2 : l2.Pairwise lt) (hm : ∀ x, x ∈ l1 ↔ x ∈ l2) : l1 = l2 := by
  have n1 : l1.Nodup := List.Pairwise.imp (fun {a b} (h : lt a b) (e : a = b) => hi b (e ▸ h)) h1
  have n2 : l2.Nodup := List.Pairwise.imp (fun {a b} (h : lt a b) (e : a = b) => hi b (e ▸ h)) h2
  have hp : l1.Perm l2 := (List.perm_ext_iff_of_nodup n1 n2).2 hm
  exact sorted_uniq (le := lt) hp (fun a _ b _ h3 h4 => absurd (ht a b a h3 h4) (hi a)) h1 h2
theorem dd_sub {α : Type} [DecidableEq α] : ∀ l : List α, (dd l).Sublist l
  | [] => List.Sublist.refl _
  | [a] => List.Sublist.refl _
  | a :: b :: l => by
    have ih := dd_sub (b :: l)
    unfold dd
    split
    · exact ih.trans (List.sublist_cons_self _ _)
    · exact ih.cons₂ _
end Lg
end
section
set_option linter.all false
set_option maxRecDepth 100000
set_option maxHeartbeats 8000000
namespace Lg
open Go Go.Proofs Go.Sort Go.Shelf

/-! ### sorting names, at whatever length (from Mv2 and Mv4) -/
def Nm.lt (a b : Nm) : Prop := strLt a.key b.key = true
theorem nm_strict {l : List Nm} (hs : l.Pairwise fun a b => ¬ b.lt a) (hn : (l.map Nm.key).Nodup) : l.Pairwise Nm.lt := by
  rw [List.Nodup, List.pairwise_map] at hn
  refine (hs.and hn).imp fun {a b} h => ?_
  unfold Nm.lt at *
  cases h1 : strLt a.key b.key
  · exact absurd (strLt_tri h1 (by simpa using h.1)) h.2
  · rfl
theorem nm_uniq {a b : List Nm} (ha : a.Pairwise Nm.lt) (hb : b.Pairwise Nm.lt) (hm : ∀ x, x ∈ a ↔ x ∈ b) : a = b :=
  strict_uniq (lt := Nm.lt) (fun a => by unfold Nm.lt; rw [strLt_irrefl]; simp) (fun a b c h1 h2 => strLt_trans h1 h2) ha hb hm
theorem isortN_sorted (l : List Nm) : (isort nmLt l).Pairwise fun a b => ¬ b.lt a := by
  have := isort_sorted (lt := nmLt) (fun a b h => strLt_asymm h) (fun a b c h1 h2 => by
    unfold nmLt at *
    cases h : strLt c.key a.key with
    | false => rfl
    | true =>
      cases h3 : strLt a.key b.key with
      | true => rw [strLt_trans h h3] at h2; cases h2
      | false => rw [strLt_tri h3 h1] at h; rw [h] at h2; cases h2) l
  exact this.imp fun {a b} h => by unfold nmLt at h; unfold Nm.lt; rw [h]; simp
theorem isortN_strict {l : List Nm} (hn : (l.map Nm.key).Nodup) : (isort nmLt l).Pairwise Nm.lt :=
  nm_strict (isortN_sorted l) (((isort_perm nmLt l).map Nm.key).nodup_iff.2 hn)
/-- a sorted list of the same names is the sorted one -/
theorem nm_sorted_uniq {ys xs : List Nm} (hp : ys.Perm xs) (hs : ys.Pairwise fun a b => ¬ b.lt a) (hn : (xs.map Nm.key).Nodup) : ys = isort nmLt xs := by
  refine nm_uniq (nm_strict hs ((hp.map Nm.key).nodup_iff.2 hn)) (isortN_strict hn) fun x => ?_
  rw [hp.mem_iff, (isort_perm nmLt xs).mem_iff]
theorem Imp.aggV {vs : List Value} (h : ∀ v ∈ vs, v.oneCell' = true) : Imp (Tr.raw (.agg vs.toArray)) (.agg (vs.map Tr.raw)) := by
  intro w A v hv
  have := rd_raw hv
  subst this
  unfold Tr.agg
  exact ⟨vs, rfl, rdc_raw h⟩
theorem PFn.impA {P : Program} {f : FuncId} {ts ts' : List Tr} {R : Tr → Prop} (hi : ImpL ts ts') (h : PFn P f ts' R) : PFn P f ts R := by
  unfold PFn Spec at h ⊢
  exact ⟨h.1, fun M w vs hv => h.2 M w vs (hi.rdl hv)⟩
def cfN (a b : Nm) : Int := cmpS a.key b.key
theorem ltN_iff (a b : Nm) : ltOf cfN a b = true ↔ a.lt b := by
  unfold ltOf cfN Nm.lt
  rw [decide_eq_true_iff, cmpS_lt]
theorem ltN_nf (a b : Nm) : ltOf cfN a b = false ↔ ¬ a.lt b := by
  rw [← ltN_iff, Bool.not_eq_true]
theorem swo_N : SWO (ltOf cfN) := by
  refine ⟨fun x => ?_, fun x y z h1 h2 => ?_, fun x y z h1 h2 => ?_⟩
  · rw [ltN_nf]; unfold Nm.lt; rw [strLt_irrefl]; simp
  · rw [ltN_iff] at *; exact strLt_trans h1 h2
  · rw [ltN_nf] at *
    unfold Nm.lt at *
    intro h
    have h1' : strLt x.key y.key = false := by simpa using h1
    have h2' : strLt y.key z.key = false := by simpa using h2
    cases h3 : strLt y.key x.key with
    | true => rw [strLt_trans h3 h] at h2'; cases h2'
    | false => rw [strLt_tri h3 h1'] at h2'; rw [h] at h2'; cases h2'
abbrev encN (x : Nm) : List Value := [.string x.key, .int .i64 x.many]
theorem encN_one (x : Nm) : ∀ v ∈ encN x, v.oneCell' = true := by
  intro v hv
  rcases List.mem_cons.1 hv with rfl | hv
  · rfl
  · rcases List.mem_cons.1 hv with rfl | hv
    · rfl
    · cases hv
instance : Inhabited Nm := ⟨nm0⟩
theorem sortNmK {g : Nat} (hg : ∀ x y : Nm, PFn Tryz.prog g [.agg x.row, .agg y.row] (· = .int (cmpS x.key y.key))) (us : List Nm) (hu : us.length ≤ 1000000) (hn : (us.map Nm.key).Nodup) (ad : Option Addr) (cap : Nat) : Spec Tryz.prog 35 [Tr.raw (.slice ad us.length cap), Tr.raw (.func (.func g) #[] #[])] [Chunk.own ad cap 2 40 (us.map Nm.row)]
    (fun r cs => r = Tr.tup [] ∧ cs = [Chunk.own ad cap 2 40 ((isort nmLt us).map Nm.row)]) := by
  by_cases h0 : us = []
  · subst h0
    exact sortFunc_nm (ad := ad) (cap := cap) (n := 0) (xs := []) (g := g) (caps := []) (cin := []) (lt := nmLt) (cf := fun a b => cmpS a.key b.key) nmLt_c (by simp) rfl (fun a b ha hb => by cases ha)
  · have hp : 1 ≤ us.length := by
      cases us with
      | nil => exact absurd rfl h0
      | cons a rest => simp
    have h := sortFuncK Tryz.sortNm (k := 2) (by omega) Tryz.isAgg40 Tryz.sizeOf40 encN (fun _ => rfl) encN_one cfN swo_N (g := g) (bx := []) (fun x y => (hg x y).impA (.cons (Imp.aggV (encN_one x)) (.cons (Imp.aggV (encN_one y)) .nil))) (ad := ad) (cap := cap) (E := 40) (xs := us) (n := us.length) rfl hp (by omega)
    refine Spec.mono h ?_
    rintro r cs ⟨ys, rfl, rfl, hperm, hsort⟩
    have e := nm_sorted_uniq hperm (hsort.imp fun h => (ltN_nf _ _).1 h) hn
    subst e
    exact ⟨rfl, rfl⟩
end Lg
end
