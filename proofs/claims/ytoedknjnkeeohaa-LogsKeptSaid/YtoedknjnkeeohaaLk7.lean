/- A part of the proof of a law of this seat: it adds no condition. By an AI agent. -/
import Derived.ChangeKeysEq
import Derived.KernelRfl
import Derived.Test.YtoedknjnkeeohaaLk3
section
set_option linter.all false
set_option maxRecDepth 100000
set_option maxHeartbeats 8000000
namespace Lg
open Go Go.Proofs

attribute [local irreducible] intRows mtrE isort dedF
theorem sortedO_fn (c t f : Int) (l : List Rdg) {adl : Option Addr} {capl : Nat} (hl : l.length ≤ 12) (hv : ∀ r ∈ l, r.vs.length ≤ 1000) (ht : -1000000000000 ≤ t ∧ t ≤ 1000000000000) : Spec Try.prog 12 [.mtr c t f, Tr.raw (.slice adl l.length capl)] [ownR adl capl l] (fun y cs => y = srtO c t f l ∧ cs = [ownR adl capl l]) := by
  have k1 := meterFault_fn c t f
  have hL : (l.map Rdg.row).length = l.length := List.length_map _
  have he : rdsE c t f l = if mtrE c t f ≠ 0 then mtrE c t f else if l.length > 2000 then 2 else firstE (rdgAt c t f l) 0 l.length := rfl
  refine Spec.body Try.func12 rfl rfl (Try.ntmps12) rfl fun w0 own0 M => ?_
  by_cases h1 : mtrE c t f ≠ 0
  · rw [if_pos h1] at he
    rw [srtO_bad he h1]
    clear he
    generalize mtrE c t f = e at *
    repeat' (first | refine goH ?_ | refine goV ?_ | refine goB (fun b => ?_) | refine goC (fun ad cap => ?_) | refine goI ?_ | (refine Cw.k_cond ?_; first | (refine Cw.cond_dec rfl (fun hc => ?_) (fun hc => ?_) <;> try (exfalso; omega)) | refine Cw.cond_bool rfl (fun hc => ?_) (fun hc => ?_)) | (refine Ops.k_calla ?_; first | (refine Ops.k_callf 9 ?_; refine Ops.callV k1 (Evs.cons rfl Evs.nil) rfl ?_)) | (apply OpW.k_call; first | (apply OpW.k_callf 9; exact OpW.callV k1 (Evs.cons rfl Evs.nil))) | refine goR ?_ | refine goP ?_ | apply PSeq.cons | apply PSeq.yes rfl rfl rfl | exact goW | fail)
    exact Fin.ret (Ent.trans (Ent.nilsl 2 (s := 4) rfl) (Ent.take (Take.cons goPk Take.nil))) (Outs.many rfl (OutL.cons goOe (OutL.cons goOe OutL.nil)) rfl) ⟨rfl, rfl⟩
  rw [if_neg h1, if_neg (by omega)] at he
  have e0 : mtrE c t f = 0 := by omega
  rw [e0] at k1
  clear e0 h1
  repeat' (first | refine goH ?_ | refine goV ?_ | refine goB (fun b => ?_) | refine goC (fun ad cap => ?_) | refine goI ?_ | (refine Cw.k_cond ?_; first | (refine Cw.cond_dec rfl (fun hc => ?_) (fun hc => ?_) <;> try (exfalso; omega)) | refine Cw.cond_bool rfl (fun hc => ?_) (fun hc => ?_)) | (refine Ops.k_calla ?_; first | (refine Ops.k_callf 9 ?_; refine Ops.callV k1 (Evs.cons rfl Evs.nil) rfl ?_)) | (apply OpW.k_call; first | (apply OpW.k_callf 9; exact OpW.callV k1 (Evs.cons rfl Evs.nil))) | refine goR ?_ | refine goP ?_ | apply PSeq.cons | apply PSeq.yes rfl rfl rfl | exact goW | fail)
  rename Nat => b2
  refine Cw.loopI [(1, _), (2, _), (22, _), (23, _)] _ (fun q e cc => ∃ (k : Nat), q = l.length - k ∧ (k ≤ l.length ∧ rdsE c t f l = firstE (rdgAt c t f l) k (l.length - k)) ∧ e = [(24, .int k)] ∧ cc = []) ⟨_, _, _, (Ent.mkP goSub goPm), 0, rfl, ⟨by omega, he⟩, rfl, rfl⟩ ?_
  clear he
  rintro _ _ _ ⟨k, rfl, ⟨hk, hV⟩, rfl, rfl⟩
  by_cases hkl : k < l.length
  · obtain ⟨x, hx⟩ := at_lt hkl
    have hrow : (l.map Rdg.row)[k]? = some [.int x.t, .ints x.vs] := rows_at hx
    have kR := readingFault_fn c t f x ht (by have := hv x (List.mem_of_getElem? hx); omega)
    have hE : rdgAt c t f l k = rdgE c t f x := by unfold rdgAt; rw [hx]
    by_cases g : rdgE c t f x ≠ 0
    · have hf := hV.trans (firstE_bad hkl hE g)
      rw [srtO_bad hf g]
      clear hV hf hE
      generalize rdgE c t f x = e at *
      repeat' (first | refine goH ?_ | refine goV ?_ | refine goB (fun b => ?_) | refine goC (fun ad cap => ?_) | refine goI ?_ | (refine Cw.k_cond ?_; first | (refine Cw.cond_dec rfl (fun hc => ?_) (fun hc => ?_) <;> try (exfalso; omega)) | refine Cw.cond_bool rfl (fun hc => ?_) (fun hc => ?_)) | (refine Ops.k_calla ?_; first | (refine Ops.k_callf 11 ?_; refine Ops.callV kR (Evs.cons rfl (Evs.cons rfl Evs.nil)) rfl ?_)) | (apply OpW.k_call; first | (apply OpW.k_callf 11; exact OpW.callV kR (Evs.cons rfl (Evs.cons rfl Evs.nil)))) | refine goR ?_ | refine goP ?_ | apply PSeq.cons | apply PSeq.yes rfl rfl rfl | exact goW | fail)
      exact Fin.ret (Ent.trans (Ent.nilsl 2 (s := 4) rfl) (Ent.take (Take.cons goPk Take.nil))) (Outs.many rfl (OutL.cons goOe (OutL.cons goOe OutL.nil)) rfl) ⟨rfl, rfl⟩
    · have g0 : rdgE c t f x = 0 := by omega
      have hN := hV.trans (firstE_ok hkl (hE.trans g0))
      rw [g0] at kR
      clear hV hE
      repeat' (first | refine goH ?_ | refine goV ?_ | refine goB (fun b => ?_) | refine goC (fun ad cap => ?_) | refine goI ?_ | (refine Cw.k_cond ?_; first | (refine Cw.cond_dec rfl (fun hc => ?_) (fun hc => ?_) <;> try (exfalso; omega)) | refine Cw.cond_bool rfl (fun hc => ?_) (fun hc => ?_)) | (refine Ops.k_calla ?_; first | (refine Ops.k_callf 11 ?_; refine Ops.callV kR (Evs.cons rfl (Evs.cons rfl Evs.nil)) rfl ?_)) | (apply OpW.k_call; first | (apply OpW.k_callf 11; exact OpW.callV kR (Evs.cons rfl (Evs.cons rfl Evs.nil)))) | refine goR ?_ | refine goP ?_ | apply PSeq.cons | apply PSeq.yes rfl rfl rfl | exact goW | fail)
      exact ⟨_, _, _, (Ent.mk goSub goTk), ⟨k + 1, rfl, ⟨by omega, hN⟩, rfl, rfl⟩, by omega⟩
  rw [firstE_end hkl] at hV
  have hno : dedF [] l = none → srtO c t f l = .tup [.sl 2 [], .int 13] := fun h => srtO_no hV (by rw [ded_eq, h]; rfl)
  have hyes : ∀ D, dedF [] l = some D → srtO c t f l = .tup [.sl 2 ((isort rlt D).map Rdg.row), .int 0] := fun D h => srtO_yes hV (by rw [ded_eq, h]; rfl)
  clear hV
  repeat' (first | refine goH ?_ | refine goV ?_ | refine goB (fun b => ?_) | refine goC (fun ad cap => ?_) | refine goI ?_ | (refine Cw.k_cond ?_; first | (refine Cw.cond_dec rfl (fun hc => ?_) (fun hc => ?_) <;> try (exfalso; omega)) | refine Cw.cond_bool rfl (fun hc => ?_) (fun hc => ?_)) | refine goR ?_ | refine goP ?_ | apply PSeq.cons | apply PSeq.yes rfl rfl rfl | exact goW | fail)
  refine Cw.loopI [(35, _), (36, _)] _ (fun q e cc => ∃ (k : Nat) (acc : List Rdg) (ad2 : Option Addr) (cap2 : Nat) (n2 : Nat), q = l.length - k ∧ (k ≤ l.length ∧ dedF [] l = dedF acc (l.drop k) ∧ n2 = acc.length ∧ n2 ≤ k ∧ ∀ r ∈ acc, r.vs.length ≤ 1000) ∧ e = [(10, Tr.raw (.slice ad2 n2 cap2)), (37, .int k)] ∧ cc = [Chunk.own ad2 cap2 2 30 (acc.map Rdg.row)])
    ⟨_, _, _, Ent.trans (Ent.nil 2 30) (Ent.mkP goSub goPm), 0, [], none, 0, 0, rfl, ⟨by omega, by rw [List.drop_zero], rfl, by omega, by simp⟩, rfl, rfl⟩ ?_
  rintro _ _ _ ⟨k, acc, ad2, cap2, n2, rfl, ⟨hk, hV, hn2, hnk, hav⟩, rfl, rfl⟩
  have haccl : (acc.map Rdg.row).length = n2 := by rw [List.length_map, hn2]
  by_cases hkl : k < l.length
  · obtain ⟨r, hr⟩ := at_lt (l := l) (k := k) (by omega)
    have hrow : (l.map Rdg.row)[k]? = some [.int r.t, .ints r.vs] := rows_at hr
    have hrv := hv r (List.mem_of_getElem? hr)
    have kCl := (clone_int (intRows r.vs) (intRows_k _) (by rw [intRows_len]; omega)).val
    have kI : ∀ b : Nat, Spec Try.prog 44 [Tr.raw (.slice ad2 n2 cap2), Tr.raw (.func (.func 45) #[] [Value.pointer (some ⟨b, 0, none⟩)].toArray)] [Chunk.own ad2 cap2 2 30 (acc.map Rdg.row), Chunk.box b 30 [.int r.t, .ints r.vs]] (fun y cs => y = .int (idxFrom (fun x : Rdg => decide (x.t = r.t)) acc 0) ∧ cs = [Chunk.own ad2 cap2 2 30 (acc.map Rdg.row), Chunk.box b 30 [.int r.t, .ints r.vs]]) := fun b => indexFuncO_rdg (p := fun x : Rdg => decide (x.t = r.t)) (caps := [.pointer (some ⟨b, 0, none⟩)]) (cin := [Chunk.box b 30 [.int r.t, .ints r.vs]]) (by omega) hn2 (fun x _ => sameT_fn b r x)
    have hif := idxF_find (fun x : Rdg => decide (x.t = r.t)) acc 0
    cases hfd : acc.find? (fun x : Rdg => decide (x.t = r.t)) with
    | none =>
      rw [hif.1 hfd] at kI
      rw [dedF_none hr hfd] at hV
      clear hif hfd
      repeat' (first | refine goH ?_ | refine goV ?_ | refine goB (fun b => ?_) | refine goC (fun ad cap => ?_) | refine goI ?_ | (refine Cw.k_cond ?_; first | (refine Cw.cond_dec rfl (fun hc => ?_) (fun hc => ?_) <;> try (exfalso; omega)) | refine Cw.cond_bool rfl (fun hc => ?_) (fun hc => ?_)) | (refine Ops.k_calla ?_; first | (refine Ops.k_callf 44 ?_; (refine Ops.call (kI _) (Evs.cons rfl (Evs.cons rfl Evs.nil)) goPm rfl ?_; rintro y cs' ⟨rfl, rfl⟩))) | fail)
      first | refine Cw.region_YP (fun ξ S => Chunk.own adl capl 2 30 (l.map Rdg.row) :: Chunk.box b2 27 [.int c, .int t, .int f] :: Chunk.box b 30 [.int r.t, .ints r.vs] :: stg (S 8) (Chunk.own ad2 cap2 2 30 (acc.map Rdg.row)) (ownV (ξ 8) 2 30 (acc.map Rdg.row ++ [[.int r.t, .ints r.vs]])) :: []) rfl (by decide +kernel) rfl ((fun (ξ : Nat → Value) (S : Nat → Bool) => Chunk.own adl capl 2 30 (l.map Rdg.row) :: Chunk.box b2 27 [.int c, .int t, .int f] :: Chunk.box b 30 [.int r.t, .ints r.vs] :: stg (S 8) (Chunk.own ad2 cap2 2 30 (acc.map Rdg.row)) (ownV (ξ 8) 2 30 (acc.map Rdg.row ++ [[.int r.t, .ints r.vs]])) :: []) (fun _ => undef) (fun _ => false)) (by simp only [upd_same, updD_same, upd_ne, updD_ne, ne_eq, Nat.reduceEqDiff, not_false_eq_true, stg_t, stg_f, vAd_s, vCap_s, blk_p, List.cons_append, List.nil_append, b2n_t, b2n_f]; exact goXm) (fun _ => rfl) ?_ | fail
      apply YSeq.w (by intro _ _ _; rfl)
      · intro ξ S h1 h2 h3 h4
        have hN0_8 := closed_false h1 h3 (k := 8) rfl (by decide)
        try simp only [upd_same, updD_same, upd_ne, updD_ne, ne_eq, Nat.reduceEqDiff, not_false_eq_true, stg_t, stg_f, vAd_s, vCap_s, blk_p, List.cons_append, List.nil_append, b2n_t, b2n_f, hN0_8]
        exact goW
      · intro ξ v; rfl
      · intro ξ k v S h3 hn hk
        first
        | rfl
      apply YSeq.w (by intro _ _ _; rfl)
      · intro ξ S h1 h2 h3 h4
        have hN1_2 := closed_false h1 h3 (k := 2) rfl (by decide)
        have hN1_6 := closed_false hN1_2 h3 (k := 6) rfl (by decide)
        have hN1_7 := closed_false hN1_6 h3 (k := 7) rfl (by decide)
        have hN1_8 := closed_false hN1_7 h3 (k := 8) rfl (by decide)
        try simp only [upd_same, updD_same, upd_ne, updD_ne, ne_eq, Nat.reduceEqDiff, not_false_eq_true, stg_t, stg_f, vAd_s, vCap_s, blk_p, List.cons_append, List.nil_append, b2n_t, b2n_f, hN1_8]
        exact goW
      · intro ξ v; rfl
      · intro ξ k v S h3 hn hk
        first
        | rfl
      apply YSeq.w (by intro _ _ _; rfl)
      · intro ξ S h1 h2 h3 h4
        have hN2_6 := closed_false h1 h3 (k := 6) rfl (by decide)
        have hN2_7 := closed_false hN2_6 h3 (k := 7) rfl (by decide)
        have hN2_8 := closed_false hN2_7 h3 (k := 8) rfl (by decide)
        try simp only [upd_same, updD_same, upd_ne, updD_ne, ne_eq, Nat.reduceEqDiff, not_false_eq_true, stg_t, stg_f, vAd_s, vCap_s, blk_p, List.cons_append, List.nil_append, b2n_t, b2n_f, hN2_8]
        exact goW
      · intro ξ v; rfl
      · intro ξ k v S h3 hn hk
        first
        | rfl
      apply YSeq.w (by intro _ _ _; rfl)
      · intro ξ S h1 h2 h3 h4
        have hN3_4 := closed_false h1 h3 (k := 4) rfl (by decide)
        have hN3_5 := closed_false hN3_4 h3 (k := 5) rfl (by decide)
        have hN3_8 := closed_false hN3_5 h3 (k := 8) rfl (by decide)
        try simp only [upd_same, updD_same, upd_ne, updD_ne, ne_eq, Nat.reduceEqDiff, not_false_eq_true, stg_t, stg_f, vAd_s, vCap_s, blk_p, List.cons_append, List.nil_append, b2n_t, b2n_f, hN3_8]
        exact goW
      · intro ξ v; rfl
      · intro ξ k v S h3 hn hk
        first
        | rfl
      apply YSeq.w (by intro _ _ _; rfl)
      · intro ξ S h1 h2 h3 h4
        have hN4_5 := closed_false h1 h3 (k := 5) rfl (by decide)
        have hN4_8 := closed_false hN4_5 h3 (k := 8) rfl (by decide)
        try simp only [upd_same, updD_same, upd_ne, updD_ne, ne_eq, Nat.reduceEqDiff, not_false_eq_true, stg_t, stg_f, vAd_s, vCap_s, blk_p, List.cons_append, List.nil_append, b2n_t, b2n_f, hN4_8]
        exact goW
      · intro ξ v; rfl
      · intro ξ k v S h3 hn hk
        first
        | rfl
      apply YSeq.callV (by intro _ _ _; rfl)
      · intro ξ S h1 h2 h3 h4
        have hN5_8 := closed_false h1 h3 (k := 8) rfl (by decide)
        try simp only [upd_same, updD_same, upd_ne, updD_ne, ne_eq, Nat.reduceEqDiff, not_false_eq_true, stg_t, stg_f, vAd_s, vCap_s, blk_p, List.cons_append, List.nil_append, b2n_t, b2n_f, hN5_8]
        exact ⟨_, (Evs.cons rfl Evs.nil), kCl⟩
      · intro ξ v; rfl
      · intro ξ k v S h3 hn hk
        first
        | rfl
      apply YSeq.w (by intro _ _ _; rfl)
      · intro ξ S h1 h2 h3 h4
        have hN6_7 := closed_false h1 h3 (k := 7) rfl (by decide)
        have hN6_8 := closed_false hN6_7 h3 (k := 8) rfl (by decide)
        try simp only [upd_same, updD_same, upd_ne, updD_ne, ne_eq, Nat.reduceEqDiff, not_false_eq_true, stg_t, stg_f, vAd_s, vCap_s, blk_p, List.cons_append, List.nil_append, b2n_t, b2n_f, hN6_8]
        exact goW
      · intro ξ v; rfl
      · intro ξ k v S h3 hn hk
        first
        | rfl
      apply YSeq.w (by intro _ _ _; rfl)
      · intro ξ S h1 h2 h3 h4
        have hN7_8 := closed_false h1 h3 (k := 8) rfl (by decide)
        try simp only [upd_same, updD_same, upd_ne, updD_ne, ne_eq, Nat.reduceEqDiff, not_false_eq_true, stg_t, stg_f, vAd_s, vCap_s, blk_p, List.cons_append, List.nil_append, b2n_t, b2n_f, hN7_8]
        exact goW
      · intro ξ v; rfl
      · intro ξ k v S h3 hn hk
        first
        | rfl
      apply YSeq.append (n2 + 1)
      · intro ξ S h1 h2 h3 h4
        simp only [upd_same, updD_same, upd_ne, updD_ne, ne_eq, Nat.reduceEqDiff, not_false_eq_true, stg_t, stg_f, vAd_s, vCap_s, blk_p, List.cons_append, List.nil_append, b2n_t, b2n_f, h1]
        refine ⟨_, _, _, _, _, _, rfl, rfl, goXp, (by first | rfl | (simp; done) | omega), (by first | rfl | omega | (simp; done) | (simp; omega)), (by first | omega | (simp; done) | (simp; omega)), (by first | omega | (simp; done) | (simp; omega)), fun ad' cap' => ?_⟩
        exact goXm
      apply YSeq.w (by intro _ _ _; rfl)
      · intro ξ S h1 h2 h3 h4
        have hY9_8 : S 8 = true := h2 8 (by decide)
        try simp only [upd_same, updD_same, upd_ne, updD_ne, ne_eq, Nat.reduceEqDiff, not_false_eq_true, stg_t, stg_f, vAd_s, vCap_s, blk_p, List.cons_append, List.nil_append, b2n_t, b2n_f, hY9_8]
        exact goW
      · intro ξ v; rfl
      · intro ξ k v S h3 hn hk
        first
        | rfl
        | skip
          have hY9_8 : S 8 = true := h3 9 _ rfl hn 8 (by decide)
          simp only [upd_S hY9_8 hk]
      refine YSeq.nil fun ξ hf => ?_
      refine ⟨[(10, _), (35, _), (36, _), (37, _)], _, Ent.trans (Ent.eqc rfl (by simp only [upd_same, updD_same, upd_ne, updD_ne, ne_eq, Nat.reduceEqDiff, not_false_eq_true, stg_t, stg_f, vAd_s, vCap_s, blk_p, List.cons_append, List.nil_append, b2n_t, b2n_f, ownV, slV, ptV] <;> rfl)) (Ent.sub goSub), ?_⟩
      clear hf
      generalize vAd (ξ 8) = ad54
      generalize vCap (ξ 8) = cap54
      rw [rdgRows_snoc]
      repeat' (first | refine goH ?_ | refine goV ?_ | refine goB (fun b => ?_) | refine goC (fun ad cap => ?_) | refine goI ?_ | (refine Cw.k_cond ?_; first | (refine Cw.cond_dec rfl (fun hc => ?_) (fun hc => ?_) <;> try (exfalso; omega)) | refine Cw.cond_bool rfl (fun hc => ?_) (fun hc => ?_)) | refine goR ?_ | refine goP ?_ | apply PSeq.cons | apply PSeq.yes rfl rfl rfl | exact goW | fail)
      exact ⟨_, _, _, (Ent.mk goSub goTk), ⟨k + 1, _, _, _, n2 + 1, rfl, ⟨by omega, hV, by rw [List.length_append, ← hn2]; rfl, by omega, by intro y hy; rcases List.mem_append.1 hy with h | h; exact hav y h; rw [List.mem_singleton.1 h]; exact hrv⟩, rfl, rfl⟩, by omega⟩
    | some x =>
      obtain ⟨j, hj, hjx⟩ := hif.2 x hfd
      rw [Int.zero_add] at hj
      rw [hj] at kI
      have hjl := (List.getElem?_eq_some_iff.1 hjx).1
      have hrx : (acc.map Rdg.row)[((j : Nat) : Int).toNat]? = some [.int x.t, .ints x.vs] := rows_at (by rw [Int.toNat_natCast]; exact hjx)
      have hxv := hav x (List.mem_of_getElem? hjx)
      have kE := equalInts_fn x.vs r.vs (by omega) (by omega)
      clear hif
      by_cases hvs : x.vs = r.vs
      · rw [dedF_eq hr hfd hvs] at hV
        rw [decide_eq_true hvs] at kE
        repeat' (first | refine goH ?_ | refine goV ?_ | refine goB (fun b => ?_) | refine goC (fun ad cap => ?_) | refine goI ?_ | (refine Cw.k_cond ?_; first | (refine Cw.cond_dec rfl (fun hc => ?_) (fun hc => ?_) <;> try (exfalso; omega)) | refine Cw.cond_bool rfl (fun hc => ?_) (fun hc => ?_)) | (refine Ops.k_calla ?_; first | (refine Ops.k_callf 44 ?_; (refine Ops.call (kI _) (Evs.cons rfl (Evs.cons rfl Evs.nil)) goPm rfl ?_; rintro y cs' ⟨rfl, rfl⟩)) | (refine Ops.k_callf 21 ?_; refine Ops.callV kE (Evs.cons rfl (Evs.cons rfl Evs.nil)) rfl ?_)) | (apply OpW.k_call; first | (apply OpW.k_callf 21; exact OpW.callV kE (Evs.cons rfl (Evs.cons rfl Evs.nil)))) | refine goR ?_ | refine goP ?_ | apply PSeq.cons | apply PSeq.yes rfl rfl rfl | exact goW | fail)
        exact ⟨_, _, _, (Ent.mk goSub goTk), ⟨k + 1, _, _, _, n2, rfl, ⟨by omega, hV, hn2, by omega, hav⟩, rfl, rfl⟩, by omega⟩
      · rw [dedF_no hr hfd hvs] at hV
        rw [decide_eq_false hvs] at kE
        rw [hno hV]
        repeat' (first | refine goH ?_ | refine goV ?_ | refine goB (fun b => ?_) | refine goC (fun ad cap => ?_) | refine goI ?_ | (refine Cw.k_cond ?_; first | (refine Cw.cond_dec rfl (fun hc => ?_) (fun hc => ?_) <;> try (exfalso; omega)) | refine Cw.cond_bool rfl (fun hc => ?_) (fun hc => ?_)) | (refine Ops.k_calla ?_; first | (refine Ops.k_callf 44 ?_; (refine Ops.call (kI _) (Evs.cons rfl (Evs.cons rfl Evs.nil)) goPm rfl ?_; rintro y cs' ⟨rfl, rfl⟩)) | (refine Ops.k_callf 21 ?_; refine Ops.callV kE (Evs.cons rfl (Evs.cons rfl Evs.nil)) rfl ?_)) | (apply OpW.k_call; first | (apply OpW.k_callf 21; exact OpW.callV kE (Evs.cons rfl (Evs.cons rfl Evs.nil)))) | refine goR ?_ | refine goP ?_ | apply PSeq.cons | apply PSeq.yes rfl rfl rfl | exact goW | fail)
        exact Fin.ret (Ent.trans (Ent.nilsl 2 (s := 4) rfl) (Ent.take (Take.cons goPk Take.nil))) (Outs.many rfl (OutL.cons goOe (OutL.cons goOe OutL.nil)) rfl) ⟨rfl, rfl⟩
  · rw [dedF_end (by omega)] at hV
    rw [hyes _ hV]
    have hsl : ((isort rlt acc).map Rdg.row).length = n2 := by rw [List.length_map, isort_len, hn2]
    have kS := fun (ad : Option Addr) (cap : Nat) => sortFunc_rdg (n := n2) (xs := acc) (ad := ad) (cap := cap) (caps := []) (cin := []) (g := 47) rlt_cmp (by omega) hn2 (fun a b _ _ => (sortR2_fn a b).lend)
    clear hV hno hyes
    rw [← hsl]
    rw [← hsl] at kS
    repeat' (first | refine goH ?_ | refine goV ?_ | refine goB (fun b => ?_) | refine goC (fun ad cap => ?_) | refine goI ?_ | (refine Cw.k_cond ?_; first | (refine Cw.cond_dec rfl (fun hc => ?_) (fun hc => ?_) <;> try (exfalso; omega)) | refine Cw.cond_bool rfl (fun hc => ?_) (fun hc => ?_)) | (refine Ops.k_calla ?_; first | (refine Ops.k_callf 46 ?_; (refine Ops.call (kS _ _) (Evs.cons rfl (Evs.cons rfl Evs.nil)) goPm rfl ?_; rintro y cs' ⟨rfl, rfl⟩))) | refine goR ?_ | refine goP ?_ | apply PSeq.cons | apply PSeq.yes rfl rfl rfl | exact goW | fail)
    exact Fin.ret (Ent.trans (Ent.settle (s := 4) rfl goPk rfl) (Ent.take (Take.cons goPk Take.nil))) (Outs.many rfl (OutL.cons goOe (OutL.cons goOe OutL.nil)) rfl) ⟨rfl, rfl⟩
theorem readingsY_fn {bx : Nat} {c t f : Int} {ad : Option Addr} {cap n : Nat} (U : List Rdg) {D : List Rdg} (hl : U.length ≤ 12) (hn : n = U.length) (hv : ∀ r ∈ U, r.vs.length ≤ 1000) (ht : -1000000000000 ≤ t ∧ t ≤ 1000000000000) (hs : srtO c t f U = .tup [.sl 2 (D.map Rdg.row), .int 0]) :
    Spec Try.prog 33 [.ptr bx] [logY bx c t f ad n cap, ownR ad cap U] (fun y cs => y = .sl 2 (D.map Rdg.row) ∧ cs = [logY bx c t f ad n cap, ownR ad cap U]) := by
  subst hn
  have k := sortedO_fn (adl := ad) (capl := cap) c t f U hl hv ht
  rw [hs] at k
  refine Spec.body Try.func33 rfl rfl (Try.ntmps33) rfl fun w0 own0 M => ?_
  repeat' (first | refine goH ?_ | refine goV ?_ | refine goI ?_ | (refine Cw.k_cond ?_; first | (refine Cw.cond_dec rfl (fun hc => ?_) (fun hc => ?_) <;> try (exfalso; omega)) | refine Cw.cond_bool rfl (fun hc => ?_) (fun hc => ?_)) | (refine Ops.k_calla ?_; first | (refine Ops.k_callf 12 ?_; refine Ops.callS k (Evs.cons rfl (Evs.cons rfl Evs.nil)) goPm rfl ?_)) | (apply OpW.k_call; first | (apply OpW.k_callf 12; exact OpW.callS k (Evs.cons rfl (Evs.cons rfl Evs.nil)) goPm)) | refine goR ?_ | refine goP ?_ | apply PSeq.cons | apply PSeq.yes rfl rfl rfl | exact goW | fail)
  exact Fin.ret (Ent.take (Take.cons goPk (Take.cons goPk Take.nil))) (Outs.one rfl rfl) ⟨rfl, rfl⟩
theorem readingsX_fn {bx : Nat} {c t f : Int} {ad : Option Addr} {cap n : Nat} (S : List Rdg) (hl : S.length ≤ 1000) (hn : n = S.length) (hv : ∀ r ∈ S, r.vs.length ≤ 1000) :
    Spec Try.prog 32 [.ptr bx] [logX bx c t f ad n cap, ownR ad cap S] (fun y cs => y = .sl 2 (S.map Rdg.row) ∧ cs = [logX bx c t f ad n cap, ownR ad cap S]) := by
  have hSR : (S.map Rdg.row).length = n := by rw [List.length_map, hn]
  refine Spec.body Try.func32 rfl rfl (Try.ntmps32) rfl fun w0 own0 M => ?_
  repeat' (first | refine goH ?_ | refine goV ?_ | refine goB (fun b => ?_) | refine goC (fun ad cap => ?_) | refine goI ?_ | (refine Cw.k_cond ?_; first | (refine Cw.cond_dec rfl (fun hc => ?_) (fun hc => ?_) <;> try (exfalso; omega)) | refine Cw.cond_bool rfl (fun hc => ?_) (fun hc => ?_)) | refine goR ?_ | refine goP ?_ | apply PSeq.cons | apply PSeq.yes rfl rfl rfl | exact goW | fail)
  refine Cw.loopI [(9, _), (10, _)] _ (fun q e cc => ∃ (k : Nat) (rows : List (List Tr)) (ad2 : Option Addr) (cap2 : Nat), q = n - k ∧ (k ≤ n ∧ rows = (S.take k).map Rdg.row ∧ rows.length = k) ∧ e = [(3, Tr.raw (.slice ad2 k cap2)), (11, .int k)] ∧ cc = [Chunk.own ad2 cap2 2 30 rows])
    ⟨_, _, _, Ent.trans (Ent.nil 2 30) (Ent.mkP goSub goPm), 0, [], none, 0, rfl, ⟨by omega, rfl, rfl⟩, rfl, rfl⟩ ?_
  rintro _ _ _ ⟨k, rows, ad2, cap2, rfl, ⟨hk, hrs, hrl⟩, rfl, rfl⟩
  by_cases hkn : k < n
  · obtain ⟨o, ho⟩ := at_lt (l := S) (k := k) (by omega)
    have r1 : (S.map Rdg.row)[k]? = some [.int o.t, .ints o.vs] := rows_at ho
    have hov := hv o (List.mem_of_getElem? ho)
    have kCl := (clone_int (intRows o.vs) (intRows_k _) (by rw [intRows_len]; omega)).val
    have hrs2 : rows ++ [[Tr.int o.t, Tr.ints o.vs]] = (S.take (k + 1)).map Rdg.row := by rw [take_at ho, List.map_append, ← hrs]; rfl
    have hrl2 : (rows ++ [[Tr.int o.t, Tr.ints o.vs]]).length = k + 1 := by rw [List.length_append, hrl]; rfl
    clear hrs ho
    repeat' (first | refine goH ?_ | refine goV ?_ | refine goB (fun b => ?_) | refine goC (fun ad cap => ?_) | refine goI ?_ | (refine Cw.k_cond ?_; first | (refine Cw.cond_dec rfl (fun hc => ?_) (fun hc => ?_) <;> try (exfalso; omega)) | refine Cw.cond_bool rfl (fun hc => ?_) (fun hc => ?_)) | fail)
    refine Cw.region_seqM 8 rfl (by decide +kernel) rfl ?_
    repeat' (first | refine goH ?_ | refine goV ?_ | refine goB (fun b => ?_) | refine goC (fun ad cap => ?_) | refine goI ?_ | (refine Cw.k_cond ?_; first | (refine Cw.cond_dec rfl (fun hc => ?_) (fun hc => ?_) <;> try (exfalso; omega)) | refine Cw.cond_bool rfl (fun hc => ?_) (fun hc => ?_)) | (refine Ops.k_calla ?_; first | (refine Ops.k_callf 36 ?_; refine Ops.callV kCl (Evs.cons rfl Evs.nil) rfl ?_)) | (apply OpW.k_call; first | (apply OpW.k_callf 36; exact OpW.callV kCl (Evs.cons rfl Evs.nil))) | refine goR ?_ | refine goP ?_ | apply PSeq.cons | apply PSeq.yes rfl rfl rfl | exact goW | fail)
    erw [hrl2]
    exact ⟨_, _, _, (Ent.mk goSub goTk), ⟨k + 1, _, _, _, rfl, ⟨by omega, hrs2, hrl2⟩, rfl, rfl⟩, by omega⟩
  · have hfin : rows = S.map Rdg.row := by rw [hrs, List.take_of_length_le (by omega)]
    have hkn2 : k = n := by omega
    rw [← hfin]
    subst hrl
    clear hrs hfin
    repeat' (first | refine goH ?_ | refine goV ?_ | refine goB (fun b => ?_) | refine goC (fun ad cap => ?_) | refine goI ?_ | (refine Cw.k_cond ?_; first | (refine Cw.cond_dec rfl (fun hc => ?_) (fun hc => ?_) <;> try (exfalso; omega)) | refine Cw.cond_bool rfl (fun hc => ?_) (fun hc => ?_)) | refine goR ?_ | refine goP ?_ | apply PSeq.cons | apply PSeq.yes rfl rfl rfl | exact goW | fail)
    exact Fin.ret (Ent.trans (Ent.settle (s := 2) (ad := ad2) (cap := cap2) rfl goPk rfl) (Ent.take (Take.cons goPk (Take.cons goPk Take.nil)))) (Outs.one rfl rfl) ⟨rfl, rfl⟩
end Lg
end
section
set_option linter.all false
set_option maxRecDepth 100000
set_option maxHeartbeats 4000000
namespace Lg
open Go Go.Proofs

theorem mtr_eq0 (n : Nat) (a b c p q r : Int) (w : World) : (Op.equalIn (n + 1 + 1) 27 (.agg #[.int .i64 a, .int .i64 b, .int .i64 c]) (.agg #[.int .i64 p, .int .i64 q, .int .i64 r])).run Try.prog w = .ok (decide (a = p ∧ b = q ∧ c = r)) w := by
  have hs : Try.prog.stoodInHeld 27 = false := by kernel_rfl
  by_cases h1 : a = p <;> by_cases h2 : b = q <;> by_cases h3 : c = r <;> simp [Op.equalIn, run_underlying Try.underlying27, run_underlying Try.underlying3, hs, h1, h2, h3, part, Go.sizeOf, typeInfo]
theorem mtr_ne1 (a b c p q r : Int) (w : World) : (binOp .neq 27 (.agg #[.int .i64 a, .int .i64 b, .int .i64 c]) (.agg #[.int .i64 p, .int .i64 q, .int .i64 r])).run Try.prog w = .ok (.bool (!decide (a = p ∧ b = q ∧ c = r))) w := by
  show (do let r ← Op.equalIn (9998 + 1 + 1) 27 _ _; pure (Value.bool !r) : Sem Value).run Try.prog w = _
  have := mtr_eq0 9998 a b c p q r w
  generalize Op.equalIn (9998 + 1 + 1) 27 (.agg #[.int .i64 a, .int .i64 b, .int .i64 c]) (.agg #[.int .i64 p, .int .i64 q, .int .i64 r]) = s at *
  simp [this]
theorem mtr_ne2 (x y : Operand) (a b c p q r : Int) (w : World) : (eqGuard .neq 27 x y (.agg #[.int .i64 a, .int .i64 b, .int .i64 c]) (.agg #[.int .i64 p, .int .i64 q, .int .i64 r])).run Try.prog w = .ok () w := by
  simp [eqGuard]
theorem agg_rawM {w : World} {A : Nat → Prop} : ∀ {l : List Value} {v : Value}, (Tr.agg (l.map Tr.raw)).rd w A v → v = .agg l.toArray := by
  intro l v h
  unfold Tr.agg at h
  obtain ⟨vs, e, hr⟩ := h
  subst e
  congr 2
  induction l generalizing vs with
  | nil => simpa [RdC] using hr
  | cons u l ih =>
    obtain ⟨v, rest, rfl, hv, _, hr⟩ := hr
    have := rd_raw hv
    rw [this, ih rest hr]
section
variable {Γ : Ctx} {env : Env} {cs : List Chunk} {x y : Operand} {T2 ty : TypeId}
theorem OpV.mtr_ne {a b c p q r : Int} {v : Bool} (hx : ev env x = some (.agg [Tr.int a, Tr.int b, Tr.int c])) (hy : ev env y = some (.agg [Tr.int p, Tr.int q, Tr.int r])) (hv : v = !decide (a = p ∧ b = q ∧ c = r)) : OpV Try.prog Γ (.binOp .neq 27 x y T2) ty env cs (.bool v) := by
  subst hv
  unfold OpV
  intro ac w d
  have h1 := agg_rawM (l := [.int .i64 a, .int .i64 b, .int .i64 c]) (d.ev hx)
  have h2 := agg_rawM (l := [.int .i64 p, .int .i64 q, .int .i64 r]) (d.ev hy)
  have h3 := mtr_ne1 a b c p q r w
  have h4 := mtr_ne2 x y a b c p q r w
  exact ⟨.bool (!decide (a = p ∧ b = q ∧ c = r)), by simp [execOp, h1, h2, h3, h4], by unfold Tr.bool Tr.raw; rfl⟩
end
end Lg
end
section
set_option linter.all false
set_option maxRecDepth 100000
set_option maxHeartbeats 8000000
namespace Lg
open Go Go.Proofs

/-! ### logs: one is joined to another -/
def badR (S : List Rdg) (r : Rdg) : Bool := match fdT S r.t with
  | some x => !decide (x.vs = r.vs)
  | none => false
def newR (S : List Rdg) (r : Rdg) : Bool := match fdT S r.t with
  | some _ => false
  | none => true
def addS (S : List Rdg) : List Rdg → List Rdg
  | [] => S
  | r :: l => addS (insS S r) l
def joinO (c t f c2 t2 f2 : Int) (S O : List Rdg) : Int × Int := if ¬ (c = c2 ∧ t = t2 ∧ f = f2) then (0, 3) else if O.any (badR S) = true then (0, 13) else ((((O.filter (newR S)).length : Nat) : Int), 0)
theorem badR_some {S : List Rdg} {r x : Rdg} (h : fdT S r.t = some x) : badR S r = !decide (x.vs = r.vs) ∧ newR S r = false := by
  unfold badR newR
  rw [h]
  exact ⟨rfl, rfl⟩
theorem badR_none {S : List Rdg} {r : Rdg} (h : fdT S r.t = none) : badR S r = false ∧ newR S r = true := by
  unfold badR newR
  rw [h]
  exact ⟨rfl, rfl⟩
theorem joinO_ne {c t f c2 t2 f2 : Int} {S O : List Rdg} (h : ¬ (c = c2 ∧ t = t2 ∧ f = f2)) : joinO c t f c2 t2 f2 S O = (0, 3) := if_pos h
theorem joinO_bad {c t f : Int} {S O : List Rdg} (h : O.any (badR S) = true) : joinO c t f c t f S O = (0, 13) := by
  unfold joinO
  rw [if_neg (by simp), if_pos h]
theorem joinO_ok {c t f : Int} {S O : List Rdg} (h : O.any (badR S) = false) : joinO c t f c t f S O = ((((O.filter (newR S)).length : Nat) : Int), 0) := by
  unfold joinO
  rw [if_neg (by simp), if_neg (by simp [h])]
theorem any_take2 {l : List Rdg} {p : Rdg → Bool} {k : Nat} {x : Rdg} (h : l[k]? = some x) : (l.take (k + 1)).any p = ((l.take k).any p || p x) := by
  rw [take_at h, List.any_append]
  simp
theorem fil_take {l : List Rdg} {p : Rdg → Bool} {k : Nat} {x : Rdg} (h : l[k]? = some x) : (l.take (k + 1)).filter p = (l.take k).filter p ++ if p x = true then [x] else [] := by
  rw [take_at h, List.filter_append]
  cases hp : p x <;> simp [hp]
theorem srt_ins {S : List Rdg} {r : Rdg} (hS : SrtL S) : SrtL (insS S r) := by
  unfold SrtL insS
  rw [List.pairwise_append]
  refine ⟨hS.sublist List.filter_sublist, List.pairwise_cons.2 ⟨fun x hx => by simpa using (List.mem_filter.1 hx).2, hS.sublist List.filter_sublist⟩, ?_⟩
  intro x hx y hy
  have h1 : x.t < r.t := by simpa using (List.mem_filter.1 hx).2
  rcases List.mem_cons.1 hy with rfl | hy
  · exact h1
  · have : r.t < y.t := by simpa using (List.mem_filter.1 hy).2
    omega
theorem mem_ins {S : List Rdg} {r : Rdg} (h : fdT S r.t = none) (x : Rdg) : x ∈ insS S r ↔ x ∈ S ∨ x = r := by
  unfold fdT at h
  rw [List.find?_eq_none] at h
  unfold insS
  simp only [List.mem_append, List.mem_cons, List.mem_filter, decide_eq_true_eq]
  constructor
  · rintro (⟨h1, _⟩ | rfl | ⟨h1, _⟩)
    · exact .inl h1
    · exact .inr rfl
    · exact .inl h1
  · rintro (h1 | rfl)
    · have := h x h1
      simp at this
      rcases Int.lt_trichotomy x.t r.t with h2 | h2 | h2
      · exact .inl ⟨h1, h2⟩
      · exact absurd h2 this
      · exact .inr (.inr ⟨h1, h2⟩)
    · exact .inr (.inl rfl)
theorem len_ins {S : List Rdg} {r : Rdg} {i : Nat} (hS : SrtL S) (h : Split S r.t i false) : (insS S r).length = S.length + 1 := by
  have h2 := congrArg List.length (split_ins hS h)
  have := h.le
  rw [List.length_map, List.length_append, List.length_cons, List.length_take, List.length_drop, List.length_map] at h2
  omega
theorem addS_snoc : ∀ (l : List Rdg) (S : List Rdg) (r : Rdg), addS S (l ++ [r]) = insS (addS S l) r
  | [], S, r => rfl
  | x :: l, S, r => by rw [List.cons_append, addS, addS, addS_snoc l]
theorem fdT_iff {U : List Rdg} {a : Int} : fdT U a = none ↔ ∀ x ∈ U, x.t ≠ a := by
  unfold fdT
  rw [List.find?_eq_none]
  simp
/-- those that are added keep the order, and what is there -/
theorem addS_inv {S : List Rdg} (hS : SrtL S) : ∀ (A : List Rdg), (A.map Rdg.t).Nodup → (∀ r ∈ A, fdT S r.t = none) → SrtL (addS S A) ∧ ∀ x, x ∈ addS S A ↔ x ∈ S ∨ x ∈ A
  | [], _, _ => ⟨hS, fun x => by simp [addS]⟩
  | r :: A, hn, hf => by
    rw [List.map_cons, List.nodup_cons] at hn
    have hr := hf r (by simp)
    have h1 := addS_inv (srt_ins (r := r) hS) A hn.2 (fun x hx => by
      rw [fdT_iff]
      intro y hy
      rcases (mem_ins hr y).1 hy with h | rfl
      · exact fdT_iff.1 (hf x (by simp [hx])) y h
      · intro e
        exact hn.1 (by rw [e]; exact List.mem_map_of_mem hx))
    refine ⟨h1.1, fun x => ?_⟩
    rw [addS, h1.2, mem_ins hr]
    simp only [List.mem_cons]
    constructor
    · rintro ((h | h) | h)
      · exact .inl h
      · exact .inr (.inl h)
      · exact .inr (.inr h)
    · rintro (h | h | h)
      · exact .inl (.inl h)
      · exact .inl (.inr h)
      · exact .inr h
end Lg
end
section
set_option linter.all false
set_option maxRecDepth 100000
set_option maxHeartbeats 8000000
namespace Lg
open Go Go.Proofs

def joinS (c t f c2 t2 f2 : Int) (S O : List Rdg) : List Rdg := if (joinO c t f c2 t2 f2 S O).2 = 0 then addS S (O.filter (newR S)) else S
theorem joinS_no {c t f c2 t2 f2 : Int} {S O : List Rdg} {x e : Int} (h : joinO c t f c2 t2 f2 S O = (x, e)) (he : e ≠ 0) : joinS c t f c2 t2 f2 S O = S := by
  unfold joinS
  rw [h]
  exact if_neg he
theorem joinS_ok {c t f c2 t2 f2 : Int} {S O : List Rdg} {x : Int} (h : joinO c t f c2 t2 f2 S O = (x, 0)) : joinS c t f c2 t2 f2 S O = addS S (O.filter (newR S)) := by
  unfold joinS
  rw [h]
  exact if_pos rfl
attribute [local irreducible] intRows mtrE rdgE fdT insS
theorem joinX_fn {bx bo : Nat} {c t f c2 t2 f2 : Int} {ad ad2 : Option Addr} {cap cap2 n n2 : Nat} (S O : List Rdg) (hS : SrtL S) (hO : (O.map Rdg.t).Nodup) (hl : S.length ≤ 400) (hl2 : O.length ≤ 400) (hn : n = S.length) (hn2 : n2 = O.length) (hSv : ∀ x ∈ S, x.vs.length ≤ 1000) (hOv : ∀ x ∈ O, x.vs.length ≤ 1000) :
    Spec Try.prog 28 [.ptr bx, .ptr bo] [logX bx c t f ad n cap, ownR ad cap S, logX bo c2 t2 f2 ad2 n2 cap2, ownR ad2 cap2 O] (fun y cs => ∃ (ad' : Option Addr) (cap' : Nat), y = .tup [.int (joinO c t f c2 t2 f2 S O).1, .int (joinO c t f c2 t2 f2 S O).2] ∧ cs = [logX bx c t f ad' (joinS c t f c2 t2 f2 S O).length cap', ownR ad' cap' (joinS c t f c2 t2 f2 S O), logX bo c2 t2 f2 ad2 n2 cap2, ownR ad2 cap2 O]) := by
  have hSR : (S.map Rdg.row).length = n := by rw [List.length_map, hn]
  have hOR : (O.map Rdg.row).length = n2 := by rw [List.length_map, hn2]
  by_cases hne : c = c2 ∧ t = t2 ∧ f = f2
  rotate_left
  · have e1 := joinO_ne (S := S) (O := O) hne
    rw [joinS_no e1 (by decide), e1, ← hn]
    have hv : true = !decide (c = c2 ∧ t = t2 ∧ f = f2) := by simp [hne]
    clear e1
    refine Spec.body Try.func28 rfl rfl (Try.ntmps28) rfl fun w0 own0 M => ?_
    repeat' (first | refine goH ?_ | refine goV ?_ | refine goB (fun b => ?_) | refine goC (fun ad cap => ?_) | refine goI ?_ | (refine Cw.k_cond ?_; first | (refine Cw.cond_dec rfl (fun hc => ?_) (fun hc => ?_) <;> try (exfalso; omega)) | refine Cw.cond_bool rfl (fun hc => ?_) (fun hc => ?_)) | (apply OpV.w; apply OpV.k_b_neq; exact OpV.mtr_ne (v := true) rfl rfl hv) | refine goR ?_ | refine goP ?_ | apply PSeq.cons | apply PSeq.yes rfl rfl rfl | exact goW | fail)
    exact Fin.ret (Ent.take (Take.cons goPk (Take.cons goPk (Take.cons goPk (Take.cons goPk Take.nil))))) (Outs.two rfl rfl rfl) ⟨_, _, rfl, rfl⟩
  obtain ⟨rfl, rfl, rfl⟩ := hne
  have hv : false = !decide (c = c ∧ t = t ∧ f = f) := by simp
  have hbad : O.any (badR S) = true → joinO c t f c t f S O = (0, 13) := joinO_bad
  have hok : O.any (badR S) = false → joinO c t f c t f S O = ((((O.filter (newR S)).length : Nat) : Int), 0) := joinO_ok
  have hrow : ∀ (A : List Rdg) (r : Rdg), A.map Rdg.row ++ [[Tr.int r.t, Tr.ints r.vs]] = (A ++ [r]).map Rdg.row := rdgRows_snoc
  refine Spec.body Try.func28 rfl rfl (Try.ntmps28) rfl fun w0 own0 M => ?_
  repeat' (first | refine goH ?_ | refine goV ?_ | refine goB (fun b => ?_) | refine goC (fun ad cap => ?_) | refine goI ?_ | (refine Cw.k_cond ?_; first | (refine Cw.cond_dec rfl (fun hc => ?_) (fun hc => ?_) <;> try (exfalso; omega)) | refine Cw.cond_bool rfl (fun hc => ?_) (fun hc => ?_)) | (apply OpV.w; apply OpV.k_b_neq; exact OpV.mtr_ne (v := false) rfl rfl hv) | refine goR ?_ | refine goP ?_ | apply PSeq.cons | apply PSeq.yes rfl rfl rfl | exact goW | fail)
  refine Cw.loopI [(0, _), (27, _), (28, _)] _ (fun q e cc => ∃ (k : Nat) (rows : List (List Tr)) (ad3 : Option Addr) (cap3 m : Nat), q = n2 - k ∧ (k ≤ n2 ∧ rows = ((O.take k).filter (newR S)).map Rdg.row ∧ rows.length = m ∧ m ≤ k ∧ (O.take k).any (badR S) = false) ∧ e = [(6, Tr.raw (.slice ad3 m cap3)), (29, .int k)] ∧ cc = [Chunk.own ad3 cap3 2 30 rows])
    ⟨_, _, _, Ent.trans (Ent.nil 2 30) (Ent.mkP goSub goPm), 0, [], none, 0, 0, rfl, ⟨by omega, rfl, rfl, by omega, rfl⟩, rfl, rfl⟩ ?_
  rintro _ _ _ ⟨k, rows, ad3, cap3, m, rfl, ⟨hk, hrs, hrl, hmk, hany⟩, rfl, rfl⟩
  by_cases hkn : k < n2
  · obtain ⟨r, hr⟩ := at_lt (l := O) (k := k) (by omega)
    have r1 : (O.map Rdg.row)[k]? = some [.int r.t, .ints r.vs] := rows_at hr
    have hrv := hOv r (List.mem_of_getElem? hr)
    have k2 := findX_fn (b := bx) (c := c) (t := t) (f := f) (ad := ad) (cap := cap) S r.t hS (by omega) hn
    have hA := any_take2 (p := badR S) hr
    have hF := fil_take (p := newR S) hr
    rw [hany, Bool.false_or] at hA
    repeat' (first | refine goH ?_ | refine goV ?_ | refine goB (fun b => ?_) | refine goC (fun ad cap => ?_) | refine goI ?_ | (refine Cw.k_cond ?_; first | (refine Cw.cond_dec rfl (fun hc => ?_) (fun hc => ?_) <;> try (exfalso; omega)) | refine Cw.cond_bool rfl (fun hc => ?_) (fun hc => ?_)) | refine goR ?_ | refine goP ?_ | apply PSeq.cons | apply PSeq.yes rfl rfl rfl | exact goW | fail)
    refine Ops.k_calla ?_
    refine Ops.call k2 (Evs.cons rfl (Evs.cons rfl Evs.nil)) goPm rfl ?_
    rintro y cs' ⟨i, q, rfl, hsp, rfl⟩
    cases q
    · obtain ⟨h1, _, _⟩ := split_none hS hsp
      obtain ⟨e1, e2⟩ := badR_none h1
      rw [e1] at hA
      rw [e2, if_pos rfl] at hF
      have hrs2 : rows ++ [[Tr.int r.t, Tr.ints r.vs]] = ((O.take (k + 1)).filter (newR S)).map Rdg.row := by rw [hF, ← hrow, ← hrs]
      have hrl2 : (rows ++ [[Tr.int r.t, Tr.ints r.vs]]).length = m + 1 := by rw [List.length_append, hrl]; rfl
      clear hF hrs hr k2 hsp h1 e1 e2 hbad hok hrow
      repeat' (first | refine goH ?_ | refine goV ?_ | refine goB (fun b => ?_) | refine goC (fun ad cap => ?_) | refine goI ?_ | (refine Cw.k_cond ?_; first | (refine Cw.cond_dec rfl (fun hc => ?_) (fun hc => ?_) <;> try (exfalso; omega)) | refine Cw.cond_bool rfl (fun hc => ?_) (fun hc => ?_)) | refine goR ?_ | refine goP ?_ | apply PSeq.cons | apply PSeq.yes rfl rfl rfl | exact goW | fail)
      erw [hrl2]
      exact ⟨_, _, _, (Ent.mk goSub goTk), ⟨k + 1, _, _, _, m + 1, rfl, ⟨by omega, hrs2, hrl2, by omega, hA⟩, rfl, rfl⟩, by omega⟩
    · obtain ⟨o, h1, h2, h3⟩ := split_some hsp
      obtain ⟨e1, e2⟩ := badR_some h3
      have r2 : (S.map Rdg.row)[((i : Nat) : Int).toNat]? = some [.int o.t, .ints o.vs] := rows_at (by rw [Int.toNat_natCast]; exact h1)
      have hov := hSv o (List.mem_of_getElem? h1)
      have hil : i < n := by have := (List.getElem?_eq_some_iff.1 h1).1; omega
      have kE := equalInts_fn o.vs r.vs (by omega) (by omega)
      rw [e1] at hA
      rw [e2, if_neg (by decide), List.append_nil] at hF
      by_cases hvs : o.vs = r.vs
      · rw [decide_eq_true hvs] at kE hA
        rw [← hF] at hrs
        clear hF hr k2 hsp h1 h2 h3 e1 e2 hbad hok hrow
        repeat' (first | refine goH ?_ | refine goV ?_ | refine goB (fun b => ?_) | refine goC (fun ad cap => ?_) | refine goI ?_ | (refine Cw.k_cond ?_; first | (refine Cw.cond_dec rfl (fun hc => ?_) (fun hc => ?_) <;> try (exfalso; omega)) | refine Cw.cond_bool rfl (fun hc => ?_) (fun hc => ?_)) | (refine Ops.k_calla ?_; first | (refine Ops.k_callf 21 ?_; refine Ops.callV kE (Evs.cons rfl (Evs.cons rfl Evs.nil)) rfl ?_)) | (apply OpW.k_call; first | (apply OpW.k_callf 21; exact OpW.callV kE (Evs.cons rfl (Evs.cons rfl Evs.nil)))) | refine goR ?_ | refine goP ?_ | apply PSeq.cons | apply PSeq.yes rfl rfl rfl | exact goW | fail)
        exact ⟨_, _, _, (Ent.mk goSub goTk), ⟨k + 1, _, _, _, m, rfl, ⟨by omega, hrs, hrl, by omega, hA⟩, rfl, rfl⟩, by omega⟩
      · rw [decide_eq_false hvs] at kE hA
        have e3 := hbad (by
          rw [List.any_eq_true]
          obtain ⟨z, hz, hz2⟩ := List.any_eq_true.1 hA
          exact ⟨z, List.mem_of_mem_take hz, hz2⟩)
        rw [joinS_no e3 (by decide), e3, ← hn]
        clear hF hr k2 hsp h1 h2 h3 e1 e2 hbad hok hrow hrs e3
        repeat' (first | refine goH ?_ | refine goV ?_ | refine goB (fun b => ?_) | refine goC (fun ad cap => ?_) | refine goI ?_ | (refine Cw.k_cond ?_; first | (refine Cw.cond_dec rfl (fun hc => ?_) (fun hc => ?_) <;> try (exfalso; omega)) | refine Cw.cond_bool rfl (fun hc => ?_) (fun hc => ?_)) | (refine Ops.k_calla ?_; first | (refine Ops.k_callf 21 ?_; refine Ops.callV kE (Evs.cons rfl (Evs.cons rfl Evs.nil)) rfl ?_)) | (apply OpW.k_call; first | (apply OpW.k_callf 21; exact OpW.callV kE (Evs.cons rfl (Evs.cons rfl Evs.nil)))) | refine goR ?_ | refine goP ?_ | apply PSeq.cons | apply PSeq.yes rfl rfl rfl | exact goW | fail)
        exact Fin.ret (Ent.take (Take.cons goPk (Take.cons goPk (Take.cons goPk (Take.cons goPk Take.nil))))) (Outs.two rfl rfl rfl) ⟨_, _, rfl, rfl⟩
  · rw [List.take_of_length_le (by omega)] at hrs hany
    have e3 := hok hany
    rw [joinS_ok e3, e3]
    obtain ⟨A, hA⟩ : ∃ A, A = O.filter (newR S) := ⟨_, rfl⟩
    rw [← hA] at hrs ⊢
    have hAm : A.length = m := by rw [← hrl, hrs, List.length_map]
    have hAn : (A.map Rdg.t).Nodup := by rw [hA]; exact hO.sublist (List.filter_sublist.map _)
    have hAf : ∀ r ∈ A, fdT S r.t = none := by
      intro r hr
      rw [hA] at hr
      have := (List.mem_filter.1 hr).2
      cases h : fdT S r.t with
      | none => rfl
      | some o => rw [(badR_some h).2] at this; cases this
    have hAv : ∀ r ∈ A, r.vs.length ≤ 1000 := fun r hr => hOv r (by rw [hA] at hr; exact (List.mem_filter.1 hr).1)
    rw [hAm]
    subst hrs
    have hm400 : m ≤ 400 := by omega
    clear hbad hok e3 hany hA hmk
    have hend : A.take m = A := List.take_of_length_le (by omega)
    repeat' (first | refine goH ?_ | refine goV ?_ | refine goB (fun b => ?_) | refine goC (fun ad cap => ?_) | refine goI ?_ | (refine Cw.k_cond ?_; first | (refine Cw.cond_dec rfl (fun hc => ?_) (fun hc => ?_) <;> try (exfalso; omega)) | refine Cw.cond_bool rfl (fun hc => ?_) (fun hc => ?_)) | refine goR ?_ | refine goP ?_ | apply PSeq.cons | apply PSeq.yes rfl rfl rfl | exact goW | fail)
    refine Cw.loopI [(0, _), (6, _), (68, _), (69, _)] _ (fun q e cc => ∃ (k : Nat) (ad' : Option Addr) (cap' N : Nat), q = m - k ∧ (k ≤ m ∧ N = (addS S (A.take k)).length ∧ N ≤ 400 + k) ∧ e = [(70, .int k)] ∧ cc = [logX bx c t f ad' N cap', ownR ad' cap' (addS S (A.take k))])
      ⟨_, _, _, (Ent.mkP goSub goPm), 0, ad, cap, n, rfl, ⟨by omega, hn, by omega⟩, rfl, rfl⟩ ?_
    rintro _ _ _ ⟨k, ad', cap', N, rfl, ⟨hk, hN, hNk⟩, rfl, rfl⟩
    by_cases hkm : k < m
    · obtain ⟨r, hr⟩ := at_lt (l := A) (k := k) (by omega)
      have r1 : (A.map Rdg.row)[k]? = some [.int r.t, .ints r.vs] := rows_at hr
      have hT := take_at hr
      have hnk : ((A.take (k + 1)).map Rdg.t).Nodup := hAn.sublist ((List.take_sublist _ _).map _)
      rw [hT, List.map_append, List.nodup_append] at hnk
      obtain ⟨hI, hM⟩ := addS_inv hS (A.take k) (hAn.sublist ((List.take_sublist _ _).map _)) (fun x hx => hAf x (List.mem_of_mem_take hx))
      have hfr : fdT (addS S (A.take k)) r.t = none := fdT_iff.2 fun y hy => by
        rcases (hM y).1 hy with h | h
        · exact fdT_iff.1 (hAf r (List.mem_of_getElem? hr)) y h
        · exact fun e => hnk.2.2 y.t (List.mem_map_of_mem h) r.t (by simp) e
      have hnext : addS S (A.take (k + 1)) = insS (addS S (A.take k)) r := by rw [hT, addS_snoc]
      obtain ⟨Sk, hSk⟩ : ∃ Sk, Sk = addS S (A.take k) := ⟨_, rfl⟩
      rw [← hSk] at hN hI hfr hnext ⊢
      have k2 := findX_fn (b := bx) (c := c) (t := t) (f := f) (ad := ad') (cap := cap') Sk r.t hI (by omega) hN
      have hSkR : (Sk.map Rdg.row).length = N := by rw [List.length_map, hN]
      repeat' (first | refine goH ?_ | refine goV ?_ | refine goB (fun b => ?_) | refine goC (fun ad cap => ?_) | refine goI ?_ | (refine Cw.k_cond ?_; first | (refine Cw.cond_dec rfl (fun hc => ?_) (fun hc => ?_) <;> try (exfalso; omega)) | refine Cw.cond_bool rfl (fun hc => ?_) (fun hc => ?_)) | refine goR ?_ | refine goP ?_ | apply PSeq.cons | apply PSeq.yes rfl rfl rfl | exact goW | fail)
      refine Ops.k_calla ?_
      refine Ops.call k2 (Evs.cons rfl (Evs.cons rfl Evs.nil)) goPm rfl ?_
      rintro y cs' ⟨i, q, rfl, hsp, rfl⟩
      cases q
      · have hins := split_ins hI hsp
        have hlen := len_ins hI hsp
        have hil := hsp.le
        have kI := insert_rdg (n := N) (j := i) (ad := ad') (cap := cap') (Sk.map Rdg.row) [.int r.t, .ints r.vs] hSkR.symm (by omega) (by omega)
        rw [hins, ← hnext] at kI
        rw [← hnext] at hlen
        clear hSk hM hnk hT hr hI hins hsp k2 hfr hnext
        repeat' (first | refine goH ?_ | refine goV ?_ | refine goB (fun b => ?_) | refine goC (fun ad cap => ?_) | refine goI ?_ | (refine Cw.k_cond ?_; first | (refine Cw.cond_dec rfl (fun hc => ?_) (fun hc => ?_) <;> try (exfalso; omega)) | refine Cw.cond_bool rfl (fun hc => ?_) (fun hc => ?_)) | fail)
        refine Cw.region_seqF (m := 8) [0] rfl (by decide +kernel) rfl (fun a w d => FlRun.move rfl rfl rfl rfl FlRun.nil) ?_
        repeat' (first | refine goH ?_ | refine goV ?_ | refine goB (fun b => ?_) | refine goC (fun ad cap => ?_) | refine goI ?_ | (refine Cw.k_cond ?_; first | (refine Cw.cond_dec rfl (fun hc => ?_) (fun hc => ?_) <;> try (exfalso; omega)) | refine Cw.cond_bool rfl (fun hc => ?_) (fun hc => ?_)) | refine NoP.norm ?_ | (refine Ops.k_calla ?_; first | (refine Ops.k_callf 60 ?_; (refine Ops.call kI (Evs.cons rfl (Evs.cons rfl (Evs.cons rfl Evs.nil))) goPm rfl ?_; rintro y cs' ⟨ad4, cap4, rfl, rfl⟩))) | refine goR ?_ | refine goP ?_ | apply PSeq.cons | apply PSeq.yes rfl rfl rfl | exact goW | fail)
        exact ⟨_, _, _, (Ent.mk goSub goTk), ⟨k + 1, _, _, N + 1, rfl, ⟨by omega, by omega, by omega⟩, rfl, rfl⟩, by omega⟩
      · obtain ⟨o, _, _, h3⟩ := split_some hsp
        rw [hfr] at h3
        cases h3
    · have hkm2 : k = m := by omega
      subst hkm2
      rw [hend] at hN ⊢
      rw [← hN]
      repeat' (first | refine goH ?_ | refine goV ?_ | refine goB (fun b => ?_) | refine goC (fun ad cap => ?_) | refine goI ?_ | (refine Cw.k_cond ?_; first | (refine Cw.cond_dec rfl (fun hc => ?_) (fun hc => ?_) <;> try (exfalso; omega)) | refine Cw.cond_bool rfl (fun hc => ?_) (fun hc => ?_)) | refine goR ?_ | refine goP ?_ | apply PSeq.cons | apply PSeq.yes rfl rfl rfl | exact goW | fail)
      exact Fin.ret (Ent.take (Take.cons goPk (Take.cons goPk (Take.cons goPk (Take.cons goPk Take.nil))))) (Outs.two rfl rfl rfl) ⟨_, _, rfl, rfl⟩
end Lg
end
section
set_option linter.all false
set_option maxRecDepth 100000
set_option maxHeartbeats 8000000
namespace Lg
open Go Go.Proofs

theorem cloneOO_rdg {ad : Option Addr} {n cap : Nat} (rows : List (List Tr)) (hn : n = rows.length) (hl : rows.length ≤ 1000000) : Spec Try.prog 49 [Tr.raw (.slice ad n cap)] [Chunk.own ad cap 2 30 rows] (fun r cs => ∃ ad2 cap2, r = Tr.raw (.slice ad2 n cap2) ∧ cs = Chunk.own ad2 cap2 2 30 rows :: [Chunk.own ad cap 2 30 rows]) := by
  refine Spec.body Try.func49 rfl rfl (Try.ntmps49) rfl fun w0 own0 M => ?_
  cases ad with
  | none =>
    refine Cw.own_none (List.Perm.refl _) fun h1 h2 => ?_
    subst h1
    subst h2
    subst hn
    refine Cw.ent (Ent.nil 2 30) ?_
    repeat' (first | refine goH ?_ | (refine Ops.k_b_eql ?_; first | (refine Ops.eql_nilR rfl rfl ?_)) | refine goV ?_ | refine goC (fun ad cap => ?_) | refine goI ?_ | (refine Cw.k_cond ?_; first | (refine Cw.cond_dec rfl (fun hc => ?_) (fun hc => ?_) <;> try (exfalso; omega)) | refine Cw.cond_bool rfl (fun hc => ?_) (fun hc => ?_)) | fail)
    exact Fin.ret Ent.refl (Outs.one rfl rfl) ⟨_, _, rfl, rfl⟩
  | some a =>
    repeat' (first | refine goH ?_ | (refine Ops.k_b_eql ?_; first | (refine Ops.eql_nilR rfl rfl ?_)) | ((fail_if_success refine Ops.k_buildSlice ?_); refine goV ?_) | ((fail_if_success refine Ops.k_buildSlice ?_); refine goC (fun ad cap => ?_)) | refine goI ?_ | (refine Cw.k_cond ?_; first | (refine Cw.cond_dec rfl (fun hc => ?_) (fun hc => ?_) <;> try (exfalso; omega)) | refine Cw.cond_bool rfl (fun hc => ?_) (fun hc => ?_)) | fail)
    refine Ops.buildSlice_own (by exact Parts.nil) rfl rfl rfl (fun ad2 cap2 => ?_)
    repeat' (first | refine goH ?_ | ((fail_if_success refine Ops.k_c_append ?_); refine goV ?_) | ((fail_if_success refine Ops.k_c_append ?_); refine goC (fun ad cap => ?_)) | refine goI ?_ | (refine Cw.k_cond ?_; first | (refine Cw.cond_dec rfl (fun hc => ?_) (fun hc => ?_) <;> try (exfalso; omega)) | refine Cw.cond_bool rfl (fun hc => ?_) (fun hc => ?_)) | fail)
    refine Ops.append_own rfl rfl (List.Perm.refl _) rfl hn (by simp; omega) (by simp; omega) rfl (fun ad3 cap3 => ?_)
    rw [show ∀ z : List (List Tr), z = [] → z ++ rows = rows from fun z h => by rw [h]; rfl]
    rotate_left
    · rfl
    repeat' (first | refine goH ?_ | refine goV ?_ | refine goC (fun ad cap => ?_) | refine goI ?_ | (refine Cw.k_cond ?_; first | (refine Cw.cond_dec rfl (fun hc => ?_) (fun hc => ?_) <;> try (exfalso; omega)) | refine Cw.cond_bool rfl (fun hc => ?_) (fun hc => ?_)) | fail)
    rw [hn]
    exact Fin.ret Ent.refl (Outs.one rfl rfl) ⟨_, _, rfl, rfl⟩
end Lg
end
