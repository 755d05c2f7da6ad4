/- A part of the proof of a law of this seat: it adds no condition. By an AI agent. -/
import Derived.Test.YtkmelphaecmfmaaGreatRd5
section
set_option linter.all false
set_option maxRecDepth 100000
set_option maxHeartbeats 8000000
namespace Lg
open Go Go.Proofs

theorem idxF_find {α : Type} (p : α → Bool) : ∀ (l : List α) (k : Int), (l.find? p = none → idxFrom p l k = -1) ∧ (∀ x, l.find? p = some x → ∃ j : Nat, idxFrom p l k = k + j ∧ l[j]? = some x)
  | [], k => ⟨fun _ => rfl, fun x h => by simp at h⟩
  | y :: l, k => by
    obtain ⟨h1, h2⟩ := idxF_find p l (k + 1)
    unfold idxFrom
    by_cases hp : p y = true
    · rw [if_pos hp, List.find?_cons_of_pos hp]
      exact ⟨fun h => (by cases h), fun x h => ⟨0, by omega, by simpa using h⟩⟩
    · rw [if_neg hp, List.find?_cons_of_neg hp]
      refine ⟨h1, fun x hx => ?_⟩
      obtain ⟨j, h3, h4⟩ := h2 x hx
      exact ⟨j + 1, by omega, by simpa using h4⟩
/-- the same over an owned slice, that it only reads -/
theorem indexFuncO_rdg {n : Nat} {l : List Rdg} {p : Rdg → Bool} {ad : Option Addr} {cap : Nat} {g : Nat} {caps : List Value} {cin : List Chunk} (hl : l.length ≤ 1000000000) (hn : n = l.length)
    (hs : ∀ x, x ∈ l → Spec Tryz.prog g ([Tr.rdg x] ++ caps.map Tr.raw) cin (fun r cs => r = Tr.bool (p x) ∧ cs = cin)) :
    Spec Tryz.prog 42 [Tr.raw (.slice ad n cap), Tr.raw (.func (.func g) #[] caps.toArray)] (Chunk.own ad cap 2 77 (l.map Rdg.row) :: cin) (fun r cs => r = Tr.int (idxFrom p l 0) ∧ cs = Chunk.own ad cap 2 77 (l.map Rdg.row) :: cin) := by
  refine Spec.body Tryz.func42 rfl rfl (Tryz.ntmps42) rfl fun w0 own0 M => ?_
  have hL : (l.map Rdg.row).length = n := by rw [List.length_map, hn]
  repeat' (first | refine goH ?_ | refine goV ?_ | refine goI ?_ | (refine Cw.k_cond ?_; first | (refine Cw.cond_dec rfl (fun hc => ?_) (fun hc => ?_) <;> try (exfalso; omega)) | refine Cw.cond_bool rfl (fun hc => ?_) (fun hc => ?_)) | fail)
  refine Cw.loopI [(0, _), (1, _), (7, _)] _ (fun q e c => ∃ k : Nat, q = n - k ∧ (k ≤ n ∧ idxFrom p l 0 = idxFrom p (l.drop k) k) ∧ e = [(8, .int k)] ∧ c = []) ⟨_, _, _, (Ent.mkP goSub goPm), 0, rfl, ⟨by omega, rfl⟩, rfl, rfl⟩ ?_
  rintro _ _ _ ⟨k, rfl, ⟨hk, hgo⟩, rfl, rfl⟩
  by_cases hkl : k < n
  · obtain ⟨x, hx⟩ : ∃ x, l[k]? = some x := ⟨_, List.getElem?_eq_getElem (by omega)⟩
    have hrow : (l.map Rdg.row)[k]? = some [.int x.t, .ints x.vs] := rows_at hx
    have hdrop := idxFrom_drop p hx
    rw [hdrop] at hgo
    have hsx := hs x (List.mem_of_getElem? hx)
    by_cases hp : p x = true
    · rw [if_pos hp] at hgo
      rw [hp] at hsx
      repeat' (first | refine goH ?_ | refine goV ?_ | refine goI ?_ | (refine Cw.k_cond ?_; first | (refine Cw.cond_dec rfl (fun hc => ?_) (fun hc => ?_) <;> try (exfalso; omega)) | refine Cw.cond_bool rfl (fun hc => ?_) (fun hc => ?_)) | (refine Ops.k_calla ?_; first | refine Ops.callS_fn rfl hsx (Evs.cons rfl Evs.nil) (List.perm_append_comm (l₁ := [Chunk.own ad cap 2 77 (l.map Rdg.row)])) rfl ?_) | fail)
      exact Fin.ret Ent.refl (Outs.one rfl rfl) ⟨by rw [hgo], rfl⟩
    · rw [if_neg hp] at hgo
      rw [Bool.not_eq_true] at hp
      rw [hp] at hsx
      repeat' (first | refine goH ?_ | refine goV ?_ | refine goI ?_ | (refine Cw.k_cond ?_; first | (refine Cw.cond_dec rfl (fun hc => ?_) (fun hc => ?_) <;> try (exfalso; omega)) | refine Cw.cond_bool rfl (fun hc => ?_) (fun hc => ?_)) | (refine Ops.k_calla ?_; first | refine Ops.callS_fn rfl hsx (Evs.cons rfl Evs.nil) (List.perm_append_comm (l₁ := [Chunk.own ad cap 2 77 (l.map Rdg.row)])) rfl ?_) | fail)
      exact ⟨_, _, _, (Ent.mkP goSub goPm), ⟨k + 1, rfl, ⟨by omega, hgo⟩, rfl, rfl⟩, by omega⟩
  · rw [List.drop_eq_nil_of_le (by omega), idxFrom] at hgo
    repeat' (first | refine goH ?_ | refine goV ?_ | refine goI ?_ | (refine Cw.k_cond ?_; first | (refine Cw.cond_dec rfl (fun hc => ?_) (fun hc => ?_) <;> try (exfalso; omega)) | refine Cw.cond_bool rfl (fun hc => ?_) (fun hc => ?_)) | fail)
    exact Fin.ret Ent.refl (Outs.one rfl rfl) ⟨by rw [hgo], rfl⟩

theorem dedF_none {acc s : List Rdg} {k : Nat} {r : Rdg} (h : s[k]? = some r) (hf : acc.find? (fun x => decide (x.t = r.t)) = none) : dedF acc (s.drop k) = dedF (acc ++ [r]) (s.drop (k + 1)) := by
  rw [drop_at h, dedF]
  simp [hf]
theorem dedF_eq {acc s : List Rdg} {k : Nat} {r x : Rdg} (h : s[k]? = some r) (hf : acc.find? (fun x => decide (x.t = r.t)) = some x) (hv : x.vs = r.vs) : dedF acc (s.drop k) = dedF acc (s.drop (k + 1)) := by
  rw [drop_at h, dedF]
  simp [hf, hv]
theorem dedF_no {acc s : List Rdg} {k : Nat} {r x : Rdg} (h : s[k]? = some r) (hf : acc.find? (fun x => decide (x.t = r.t)) = some x) (hv : x.vs ≠ r.vs) : dedF acc (s.drop k) = none := by
  rw [drop_at h, dedF]
  simp [hf, hv]
theorem dedF_end {acc s : List Rdg} {k : Nat} (h : s.length ≤ k) : dedF acc (s.drop k) = some acc := by
  rw [List.drop_of_length_le h, dedF]
attribute [local irreducible] intRows isort dedF
theorem sorted_fn (c t f : Int) (l : List Rdg) (hl : l.length ≤ 12) (hv : ∀ r ∈ l, r.vs.length ≤ 1000) (ht : -1000000000000 ≤ t ∧ t ≤ 1000000000000) : PFn Tryz.prog 12 [.mtr c t f, .sl 2 (l.map Rdg.row)] (· = srtO c t f l) := by
  have k1 := meterFault_fn c t f
  have hL : (l.map Rdg.row).length = l.length := List.length_map _
  have he : rdsE c t f l = if mtrE c t f ≠ 0 then mtrE c t f else if l.length > 2000 then 2 else firstE (rdgAt c t f l) 0 l.length := rfl
  refine PFn.mk (Spec.body Tryz.func12 rfl rfl (Tryz.ntmps12) rfl fun w0 own0 M => ?_)
  by_cases h1 : mtrE c t f ≠ 0
  · rw [if_pos h1] at he
    rw [srtO_bad he h1]
    clear he
    generalize mtrE c t f = e at *
    repeat' (first | refine goH ?_ | refine goV ?_ | refine goB (fun b => ?_) | refine goC (fun ad cap => ?_) | refine goI ?_ | (refine Cw.k_cond ?_; first | (refine Cw.cond_dec rfl (fun hc => ?_) (fun hc => ?_) <;> try (exfalso; omega)) | refine Cw.cond_bool rfl (fun hc => ?_) (fun hc => ?_)) | (refine Ops.k_calla ?_; first | (refine Ops.k_callf 37 ?_; refine Ops.callV k1 (Evs.cons rfl Evs.nil) rfl ?_)) | (apply OpW.k_call; first | (apply OpW.k_callf 37; exact OpW.callV k1 (Evs.cons rfl Evs.nil))) | refine goR ?_ | refine goP ?_ | apply PSeq.cons | apply PSeq.yes rfl rfl rfl | exact goW | fail)
    refine Fin.ret (Ent.trans (Ent.nilsl 2 (s := 4) rfl) (Ent.take goTk)) (Outs.many rfl (OutL.cons goOe (OutL.cons goOe OutL.nil)) rfl) ⟨rfl, rfl⟩
  rw [if_neg h1, if_neg (by omega)] at he
  have e0 : mtrE c t f = 0 := by omega
  rw [e0] at k1
  clear e0 h1
  repeat' (first | refine goH ?_ | refine goV ?_ | refine goB (fun b => ?_) | refine goC (fun ad cap => ?_) | refine goI ?_ | (refine Cw.k_cond ?_; first | (refine Cw.cond_dec rfl (fun hc => ?_) (fun hc => ?_) <;> try (exfalso; omega)) | refine Cw.cond_bool rfl (fun hc => ?_) (fun hc => ?_)) | (refine Ops.k_calla ?_; first | (refine Ops.k_callf 37 ?_; refine Ops.callV k1 (Evs.cons rfl Evs.nil) rfl ?_)) | (apply OpW.k_call; first | (apply OpW.k_callf 37; exact OpW.callV k1 (Evs.cons rfl Evs.nil))) | refine goR ?_ | refine goP ?_ | apply PSeq.cons | apply PSeq.yes rfl rfl rfl | exact goW | fail)
  rename Nat => b2
  refine Cw.loopI [(1, _), (2, _), (22, _), (23, _)] _ (fun q e cc => ∃ (k : Nat), q = l.length - k ∧ (k ≤ l.length ∧ rdsE c t f l = firstE (rdgAt c t f l) k (l.length - k)) ∧ e = [(24, .int k)] ∧ cc = []) ⟨_, _, _, (Ent.mkP goSub goPm), 0, rfl, ⟨by omega, he⟩, rfl, rfl⟩ ?_
  clear he
  rintro _ _ _ ⟨k, rfl, ⟨hk, hV⟩, rfl, rfl⟩
  by_cases hkl : k < l.length
  · obtain ⟨x, hx⟩ := at_lt hkl
    have hrow : (l.map Rdg.row)[k]? = some [.int x.t, .ints x.vs] := rows_at hx
    have kR := readingFault_fn c t f x ht (by have := hv x (List.mem_of_getElem? hx); omega)
    have hE : rdgAt c t f l k = rdgE c t f x := by unfold rdgAt; rw [hx]
    by_cases g : rdgE c t f x ≠ 0
    · have hf := hV.trans (firstE_bad hkl hE g)
      rw [srtO_bad hf g]
      clear hV hf hE
      generalize rdgE c t f x = e at *
      repeat' (first | refine goH ?_ | refine goV ?_ | refine goB (fun b => ?_) | refine goC (fun ad cap => ?_) | refine goI ?_ | (refine Cw.k_cond ?_; first | (refine Cw.cond_dec rfl (fun hc => ?_) (fun hc => ?_) <;> try (exfalso; omega)) | refine Cw.cond_bool rfl (fun hc => ?_) (fun hc => ?_)) | (refine Ops.k_calla ?_; first | (refine Ops.k_callf 41 ?_; refine Ops.callV kR (Evs.cons rfl (Evs.cons rfl Evs.nil)) rfl ?_)) | (apply OpW.k_call; first | (apply OpW.k_callf 41; exact OpW.callV kR (Evs.cons rfl (Evs.cons rfl Evs.nil)))) | refine goR ?_ | refine goP ?_ | apply PSeq.cons | apply PSeq.yes rfl rfl rfl | exact goW | fail)
      refine Fin.ret (Ent.trans (Ent.nilsl 2 (s := 4) rfl) (Ent.take goTk)) (Outs.many rfl (OutL.cons goOe (OutL.cons goOe OutL.nil)) rfl) ⟨rfl, rfl⟩
    · have g0 : rdgE c t f x = 0 := by omega
      have hN := hV.trans (firstE_ok hkl (hE.trans g0))
      rw [g0] at kR
      clear hV hE
      repeat' (first | refine goH ?_ | refine goV ?_ | refine goB (fun b => ?_) | refine goC (fun ad cap => ?_) | refine goI ?_ | (refine Cw.k_cond ?_; first | (refine Cw.cond_dec rfl (fun hc => ?_) (fun hc => ?_) <;> try (exfalso; omega)) | refine Cw.cond_bool rfl (fun hc => ?_) (fun hc => ?_)) | (refine Ops.k_calla ?_; first | (refine Ops.k_callf 41 ?_; refine Ops.callV kR (Evs.cons rfl (Evs.cons rfl Evs.nil)) rfl ?_)) | (apply OpW.k_call; first | (apply OpW.k_callf 41; exact OpW.callV kR (Evs.cons rfl (Evs.cons rfl Evs.nil)))) | refine goR ?_ | refine goP ?_ | apply PSeq.cons | apply PSeq.yes rfl rfl rfl | exact goW | fail)
      exact ⟨_, _, _, (Ent.mk goSub goTk), ⟨k + 1, rfl, ⟨by omega, hN⟩, rfl, rfl⟩, by omega⟩
  rw [firstE_end hkl] at hV
  have hno : dedF [] l = none → srtO c t f l = .tup [.sl 2 [], .int 13] := fun h => srtO_no hV (by rw [ded_eq, h]; rfl)
  have hyes : ∀ D, dedF [] l = some D → srtO c t f l = .tup [.sl 2 ((isort rlt D).map Rdg.row), .int 0] := fun D h => srtO_yes hV (by rw [ded_eq, h]; rfl)
  clear hV
  repeat' (first | refine goH ?_ | refine goV ?_ | refine goB (fun b => ?_) | refine goC (fun ad cap => ?_) | refine goI ?_ | (refine Cw.k_cond ?_; first | (refine Cw.cond_dec rfl (fun hc => ?_) (fun hc => ?_) <;> try (exfalso; omega)) | refine Cw.cond_bool rfl (fun hc => ?_) (fun hc => ?_)) | refine goR ?_ | refine goP ?_ | apply PSeq.cons | apply PSeq.yes rfl rfl rfl | exact goW | fail)
  refine Cw.loopI [(35, _), (36, _)] _ (fun q e cc => ∃ (k : Nat) (acc : List Rdg) (ad2 : Option Addr) (cap2 : Nat) (n2 : Nat), q = l.length - k ∧ (k ≤ l.length ∧ dedF [] l = dedF acc (l.drop k) ∧ n2 = acc.length ∧ n2 ≤ k ∧ ∀ r ∈ acc, r.vs.length ≤ 1000) ∧ e = [(10, Tr.raw (.slice ad2 n2 cap2)), (37, .int k)] ∧ cc = [Chunk.own ad2 cap2 2 77 (acc.map Rdg.row)])
    ⟨_, _, _, Ent.trans (Ent.nil 2 77) (Ent.mkP goSub goPm), 0, [], none, 0, 0, rfl, ⟨by omega, by rw [List.drop_zero], rfl, by omega, by simp⟩, rfl, rfl⟩ ?_
  rintro _ _ _ ⟨k, acc, ad2, cap2, n2, rfl, ⟨hk, hV, hn2, hnk, hav⟩, rfl, rfl⟩
  have haccl : (acc.map Rdg.row).length = n2 := by rw [List.length_map, hn2]
  by_cases hkl : k < l.length
  · obtain ⟨r, hr⟩ := at_lt (l := l) (k := k) (by omega)
    have hrow : (l.map Rdg.row)[k]? = some [.int r.t, .ints r.vs] := rows_at hr
    have hrv := hv r (List.mem_of_getElem? hr)
    have kCl := (clone_int (intRows r.vs) (intRows_k _) (by rw [intRows_len]; omega)).val
    have kI : ∀ b : Nat, Spec Tryz.prog 42 [Tr.raw (.slice ad2 n2 cap2), Tr.raw (.func (.func 43) #[] [Value.pointer (some ⟨b, 0, none⟩)].toArray)] [Chunk.own ad2 cap2 2 77 (acc.map Rdg.row), Chunk.box b 77 [.int r.t, .ints r.vs]] (fun y cs => y = .int (idxFrom (fun x : Rdg => decide (x.t = r.t)) acc 0) ∧ cs = [Chunk.own ad2 cap2 2 77 (acc.map Rdg.row), Chunk.box b 77 [.int r.t, .ints r.vs]]) := fun b => indexFuncO_rdg (p := fun x : Rdg => decide (x.t = r.t)) (caps := [.pointer (some ⟨b, 0, none⟩)]) (cin := [Chunk.box b 77 [.int r.t, .ints r.vs]]) (by omega) hn2 (fun x _ => sameT_fn b r x)
    have hif := idxF_find (fun x : Rdg => decide (x.t = r.t)) acc 0
    cases hfd : acc.find? (fun x : Rdg => decide (x.t = r.t)) with
    | none =>
      rw [hif.1 hfd] at kI
      rw [dedF_none hr hfd] at hV
      clear hif hfd
      repeat' (first | refine goH ?_ | refine goV ?_ | refine goB (fun b => ?_) | refine goC (fun ad cap => ?_) | refine goI ?_ | (refine Cw.k_cond ?_; first | (refine Cw.cond_dec rfl (fun hc => ?_) (fun hc => ?_) <;> try (exfalso; omega)) | refine Cw.cond_bool rfl (fun hc => ?_) (fun hc => ?_)) | (refine Ops.k_calla ?_; first | (refine Ops.k_callf 42 ?_; (refine Ops.call (kI _) (Evs.cons rfl (Evs.cons rfl Evs.nil)) goPm rfl ?_; rintro y cs' ⟨rfl, rfl⟩))) | fail)
      first | refine Cw.region_YP (fun ξ S => Chunk.box b2 35 [.int c, .int t, .int f] :: Chunk.box b 77 [.int r.t, .ints r.vs] :: stg (S 8) (Chunk.own ad2 cap2 2 77 (acc.map Rdg.row)) (ownV (ξ 8) 2 77 (acc.map Rdg.row ++ [[.int r.t, .ints r.vs]])) :: []) rfl (by decide +kernel) rfl ((fun (ξ : Nat → Value) (S : Nat → Bool) => Chunk.box b2 35 [.int c, .int t, .int f] :: Chunk.box b 77 [.int r.t, .ints r.vs] :: stg (S 8) (Chunk.own ad2 cap2 2 77 (acc.map Rdg.row)) (ownV (ξ 8) 2 77 (acc.map Rdg.row ++ [[.int r.t, .ints r.vs]])) :: []) (fun _ => undef) (fun _ => false)) (by simp only [upd_same, updD_same, upd_ne, updD_ne, ne_eq, Nat.reduceEqDiff, not_false_eq_true, stg_t, stg_f, vAd_s, vCap_s, blk_p, List.cons_append, List.nil_append, b2n_t, b2n_f]; exact goXm) (fun _ => rfl) ?_ | fail
      apply YSeq.w (by intro _ _ _; rfl)
      · intro ξ S h1 h2 h3 h4
        have hN0_8 := closed_false h1 h3 (k := 8) rfl (by decide)
        try simp only [upd_same, updD_same, upd_ne, updD_ne, ne_eq, Nat.reduceEqDiff, not_false_eq_true, stg_t, stg_f, vAd_s, vCap_s, blk_p, List.cons_append, List.nil_append, b2n_t, b2n_f, hN0_8]
        exact goW
      · intro ξ v; rfl
      · intro ξ k v S h3 hn hk
        first
        | rfl
      apply YSeq.w (by intro _ _ _; rfl)
      · intro ξ S h1 h2 h3 h4
        have hN1_2 := closed_false h1 h3 (k := 2) rfl (by decide)
        have hN1_6 := closed_false hN1_2 h3 (k := 6) rfl (by decide)
        have hN1_7 := closed_false hN1_6 h3 (k := 7) rfl (by decide)
        have hN1_8 := closed_false hN1_7 h3 (k := 8) rfl (by decide)
        try simp only [upd_same, updD_same, upd_ne, updD_ne, ne_eq, Nat.reduceEqDiff, not_false_eq_true, stg_t, stg_f, vAd_s, vCap_s, blk_p, List.cons_append, List.nil_append, b2n_t, b2n_f, hN1_8]
        exact goW
      · intro ξ v; rfl
      · intro ξ k v S h3 hn hk
        first
        | rfl
      apply YSeq.w (by intro _ _ _; rfl)
      · intro ξ S h1 h2 h3 h4
        have hN2_6 := closed_false h1 h3 (k := 6) rfl (by decide)
        have hN2_7 := closed_false hN2_6 h3 (k := 7) rfl (by decide)
        have hN2_8 := closed_false hN2_7 h3 (k := 8) rfl (by decide)
        try simp only [upd_same, updD_same, upd_ne, updD_ne, ne_eq, Nat.reduceEqDiff, not_false_eq_true, stg_t, stg_f, vAd_s, vCap_s, blk_p, List.cons_append, List.nil_append, b2n_t, b2n_f, hN2_8]
        exact goW
      · intro ξ v; rfl
      · intro ξ k v S h3 hn hk
        first
        | rfl
      apply YSeq.w (by intro _ _ _; rfl)
      · intro ξ S h1 h2 h3 h4
        have hN3_4 := closed_false h1 h3 (k := 4) rfl (by decide)
        have hN3_5 := closed_false hN3_4 h3 (k := 5) rfl (by decide)
        have hN3_8 := closed_false hN3_5 h3 (k := 8) rfl (by decide)
        try simp only [upd_same, updD_same, upd_ne, updD_ne, ne_eq, Nat.reduceEqDiff, not_false_eq_true, stg_t, stg_f, vAd_s, vCap_s, blk_p, List.cons_append, List.nil_append, b2n_t, b2n_f, hN3_8]
        exact goW
      · intro ξ v; rfl
      · intro ξ k v S h3 hn hk
        first
        | rfl
      apply YSeq.w (by intro _ _ _; rfl)
      · intro ξ S h1 h2 h3 h4
        have hN4_5 := closed_false h1 h3 (k := 5) rfl (by decide)
        have hN4_8 := closed_false hN4_5 h3 (k := 8) rfl (by decide)
        try simp only [upd_same, updD_same, upd_ne, updD_ne, ne_eq, Nat.reduceEqDiff, not_false_eq_true, stg_t, stg_f, vAd_s, vCap_s, blk_p, List.cons_append, List.nil_append, b2n_t, b2n_f, hN4_8]
        exact goW
      · intro ξ v; rfl
      · intro ξ k v S h3 hn hk
        first
        | rfl
      apply YSeq.callV (by intro _ _ _; rfl)
      · intro ξ S h1 h2 h3 h4
        have hN5_8 := closed_false h1 h3 (k := 8) rfl (by decide)
        try simp only [upd_same, updD_same, upd_ne, updD_ne, ne_eq, Nat.reduceEqDiff, not_false_eq_true, stg_t, stg_f, vAd_s, vCap_s, blk_p, List.cons_append, List.nil_append, b2n_t, b2n_f, hN5_8]
        exact ⟨_, (Evs.cons rfl Evs.nil), kCl⟩
      · intro ξ v; rfl
      · intro ξ k v S h3 hn hk
        first
        | rfl
      apply YSeq.w (by intro _ _ _; rfl)
      · intro ξ S h1 h2 h3 h4
        have hN6_7 := closed_false h1 h3 (k := 7) rfl (by decide)
        have hN6_8 := closed_false hN6_7 h3 (k := 8) rfl (by decide)
        try simp only [upd_same, updD_same, upd_ne, updD_ne, ne_eq, Nat.reduceEqDiff, not_false_eq_true, stg_t, stg_f, vAd_s, vCap_s, blk_p, List.cons_append, List.nil_append, b2n_t, b2n_f, hN6_8]
        exact goW
      · intro ξ v; rfl
      · intro ξ k v S h3 hn hk
        first
        | rfl
      apply YSeq.w (by intro _ _ _; rfl)
      · intro ξ S h1 h2 h3 h4
        have hN7_8 := closed_false h1 h3 (k := 8) rfl (by decide)
        try simp only [upd_same, updD_same, upd_ne, updD_ne, ne_eq, Nat.reduceEqDiff, not_false_eq_true, stg_t, stg_f, vAd_s, vCap_s, blk_p, List.cons_append, List.nil_append, b2n_t, b2n_f, hN7_8]
        exact goW
      · intro ξ v; rfl
      · intro ξ k v S h3 hn hk
        first
        | rfl
      apply YSeq.append (n2 + 1)
      · intro ξ S h1 h2 h3 h4
        simp only [upd_same, updD_same, upd_ne, updD_ne, ne_eq, Nat.reduceEqDiff, not_false_eq_true, stg_t, stg_f, vAd_s, vCap_s, blk_p, List.cons_append, List.nil_append, b2n_t, b2n_f, h1]
        refine ⟨_, _, _, _, _, _, rfl, rfl, goXp, (by first | rfl | (simp; done) | omega), (by first | rfl | omega | (simp; done) | (simp; omega)), (by first | omega | (simp; done) | (simp; omega)), (by first | omega | (simp; done) | (simp; omega)), fun ad' cap' => ?_⟩
        exact goXm
      apply YSeq.w (by intro _ _ _; rfl)
      · intro ξ S h1 h2 h3 h4
        have hY9_8 : S 8 = true := h2 8 (by decide)
        try simp only [upd_same, updD_same, upd_ne, updD_ne, ne_eq, Nat.reduceEqDiff, not_false_eq_true, stg_t, stg_f, vAd_s, vCap_s, blk_p, List.cons_append, List.nil_append, b2n_t, b2n_f, hY9_8]
        exact goW
      · intro ξ v; rfl
      · intro ξ k v S h3 hn hk
        first
        | rfl
        | skip
          have hY9_8 : S 8 = true := h3 9 _ rfl hn 8 (by decide)
          simp only [upd_S hY9_8 hk]
      refine YSeq.nil fun ξ hf => ?_
      refine ⟨[(10, _), (35, _), (36, _), (37, _)], _, Ent.trans (Ent.eqc rfl (by first | (simp only [upd_same, updD_same, upd_ne, updD_ne, ne_eq, Nat.reduceEqDiff, not_false_eq_true, stg_t, stg_f, vAd_s, vCap_s, blk_p, List.cons_append, List.nil_append, b2n_t, b2n_f, ownV, slV, ptV] <;> rfl) | rfl)) (Ent.sub goSub), ?_⟩
      clear hf
      generalize vAd (ξ 8) = ad54
      generalize vCap (ξ 8) = cap54
      rw [rdgRows_snoc]
      repeat' (first | refine goH ?_ | refine goV ?_ | refine goB (fun b => ?_) | refine goC (fun ad cap => ?_) | refine goI ?_ | (refine Cw.k_cond ?_; first | (refine Cw.cond_dec rfl (fun hc => ?_) (fun hc => ?_) <;> try (exfalso; omega)) | refine Cw.cond_bool rfl (fun hc => ?_) (fun hc => ?_)) | refine goR ?_ | refine goP ?_ | apply PSeq.cons | apply PSeq.yes rfl rfl rfl | exact goW | fail)
      exact ⟨_, _, _, (Ent.mk goSub goTk), ⟨k + 1, _, _, _, n2 + 1, rfl, ⟨by omega, hV, by rw [List.length_append, ← hn2]; rfl, by omega, by intro y hy; rcases List.mem_append.1 hy with h | h; exact hav y h; rw [List.mem_singleton.1 h]; exact hrv⟩, rfl, rfl⟩, by omega⟩
    | some x =>
      obtain ⟨j, hj, hjx⟩ := hif.2 x hfd
      rw [Int.zero_add] at hj
      rw [hj] at kI
      have hjl := (List.getElem?_eq_some_iff.1 hjx).1
      have hrx : (acc.map Rdg.row)[((j : Nat) : Int).toNat]? = some [.int x.t, .ints x.vs] := rows_at (by rw [Int.toNat_natCast]; exact hjx)
      have hxv := hav x (List.mem_of_getElem? hjx)
      have kE := equalInts_fn x.vs r.vs (by omega) (by omega)
      clear hif
      by_cases hvs : x.vs = r.vs
      · rw [dedF_eq hr hfd hvs] at hV
        rw [decide_eq_true hvs] at kE
        repeat' (first | refine goH ?_ | refine goV ?_ | refine goB (fun b => ?_) | refine goC (fun ad cap => ?_) | refine goI ?_ | (refine Cw.k_cond ?_; first | (refine Cw.cond_dec rfl (fun hc => ?_) (fun hc => ?_) <;> try (exfalso; omega)) | refine Cw.cond_bool rfl (fun hc => ?_) (fun hc => ?_)) | (refine Ops.k_calla ?_; first | (refine Ops.k_callf 42 ?_; (refine Ops.call (kI _) (Evs.cons rfl (Evs.cons rfl Evs.nil)) goPm rfl ?_; rintro y cs' ⟨rfl, rfl⟩)) | (refine Ops.k_callf 8 ?_; refine Ops.callV kE (Evs.cons rfl (Evs.cons rfl Evs.nil)) rfl ?_)) | (apply OpW.k_call; first | (apply OpW.k_callf 8; exact OpW.callV kE (Evs.cons rfl (Evs.cons rfl Evs.nil)))) | refine goR ?_ | refine goP ?_ | apply PSeq.cons | apply PSeq.yes rfl rfl rfl | exact goW | fail)
        exact ⟨_, _, _, (Ent.mk goSub goTk), ⟨k + 1, _, _, _, n2, rfl, ⟨by omega, hV, hn2, by omega, hav⟩, rfl, rfl⟩, by omega⟩
      · rw [dedF_no hr hfd hvs] at hV
        rw [decide_eq_false hvs] at kE
        rw [hno hV]
        repeat' (first | refine goH ?_ | refine goV ?_ | refine goB (fun b => ?_) | refine goC (fun ad cap => ?_) | refine goI ?_ | (refine Cw.k_cond ?_; first | (refine Cw.cond_dec rfl (fun hc => ?_) (fun hc => ?_) <;> try (exfalso; omega)) | refine Cw.cond_bool rfl (fun hc => ?_) (fun hc => ?_)) | (refine Ops.k_calla ?_; first | (refine Ops.k_callf 42 ?_; (refine Ops.call (kI _) (Evs.cons rfl (Evs.cons rfl Evs.nil)) goPm rfl ?_; rintro y cs' ⟨rfl, rfl⟩)) | (refine Ops.k_callf 8 ?_; refine Ops.callV kE (Evs.cons rfl (Evs.cons rfl Evs.nil)) rfl ?_)) | (apply OpW.k_call; first | (apply OpW.k_callf 8; exact OpW.callV kE (Evs.cons rfl (Evs.cons rfl Evs.nil)))) | refine goR ?_ | refine goP ?_ | apply PSeq.cons | apply PSeq.yes rfl rfl rfl | exact goW | fail)
        refine Fin.ret (Ent.trans (Ent.nilsl 2 (s := 4) rfl) (Ent.take goTk)) (Outs.many rfl (OutL.cons goOe (OutL.cons goOe OutL.nil)) rfl) ⟨rfl, rfl⟩
  · rw [dedF_end (by omega)] at hV
    rw [hyes _ hV]
    have hsl : ((isort rlt acc).map Rdg.row).length = n2 := by rw [List.length_map, isort_len, hn2]
    have kS := fun (ad : Option Addr) (cap : Nat) => sortFunc_rdg (n := n2) (xs := acc) (ad := ad) (cap := cap) (caps := []) (cin := []) (g := 45) rlt_cmp (by omega) hn2 (fun a b _ _ => (sortR2_fn a b).lend)
    clear hV hno hyes
    rw [← hsl]
    rw [← hsl] at kS
    repeat' (first | refine goH ?_ | refine goV ?_ | refine goB (fun b => ?_) | refine goC (fun ad cap => ?_) | refine goI ?_ | (refine Cw.k_cond ?_; first | (refine Cw.cond_dec rfl (fun hc => ?_) (fun hc => ?_) <;> try (exfalso; omega)) | refine Cw.cond_bool rfl (fun hc => ?_) (fun hc => ?_)) | (refine Ops.k_calla ?_; first | (refine Ops.k_callf 44 ?_; (refine Ops.call (kS _ _) (Evs.cons rfl (Evs.cons rfl Evs.nil)) goPm rfl ?_; rintro y cs' ⟨rfl, rfl⟩))) | refine goR ?_ | refine goP ?_ | apply PSeq.cons | apply PSeq.yes rfl rfl rfl | exact goW | fail)
    refine Fin.ret (Ent.trans (Ent.settle (s := 4) rfl goPk rfl) (Ent.take goTk)) (Outs.many rfl (OutL.cons goOe (OutL.cons goOe OutL.nil)) rfl) ⟨rfl, rfl⟩
end Lg
end
section
set_option linter.all false
set_option maxRecDepth 100000
set_option maxHeartbeats 8000000
namespace Lg
open Go Go.Proofs

theorem dedA_mem {l D : List Rdg} (h : dedA [] (isort rlt l) = some D) : ∀ x ∈ D, x ∈ l := by
  have hs : (isort rlt l).Pairwise (fun a b => a.t ≤ b.t) := isort_key_sorted Rdg.t l
  have hA := dedA_spec (isort rlt l) [] (by intro x hx; cases hx) List.Pairwise.nil (by simpa using hs)
  simp only [List.nil_append] at hA
  intro x hx
  exact (isort_perm rlt l).mem_iff.1 (((hA.1 D h).2.2 x).1 hx)
theorem dedA_len : ∀ {s acc D : List Rdg}, dedA acc s = some D → D.length ≤ acc.length + s.length
  | [], acc, D, h => by rw [dedA] at h; cases h; simp
  | r :: s, acc, D, h => by
    rw [dedA] at h
    have key : dedA (acc ++ [r]) s = some D → D.length ≤ acc.length + (r :: s).length := fun h => by
      have := dedA_len h
      rw [List.length_append] at this
      simp at this ⊢
      omega
    cases hg : acc.getLast? with
    | none => rw [hg] at h; exact key h
    | some x =>
      rw [hg] at h
      simp only at h
      split at h
      · split at h
        · have := dedA_len h
          simp
          omega
        · cases h
      · exact key h
theorem limE_bd {c t f a b : Int} (hm : mtrE c t f = 0) (ha : 0 ≤ a ∧ a < 5761440) (hb : 0 ≤ b ∧ b < 5761440) :
    (-9223372036854775808 ≤ f * (b / 1440 - a / 1440 + 1) ∧ f * (b / 1440 - a / 1440 + 1) ≤ 9223372036854775807) ∧ limE t f a b ≤ t - 1 ∧ -10000000000 ≤ limE t f a b := by
  obtain ⟨_, h2, h3, h4⟩ := mtrE_ok hm
  have h5 : -4000 ≤ b / 1440 - a / 1440 + 1 ∧ b / 1440 - a / 1440 + 1 ≤ 4002 := by omega
  unfold limE
  generalize b / 1440 - a / 1440 + 1 = d at *
  have h6 : f * d ≤ 1000000 * 4002 := by
    rcases Int.le_total 0 d with h | h
    · exact Int.mul_le_mul (by omega) h5.2 h (by omega)
    · have := Int.mul_nonpos_of_nonneg_of_nonpos (show 0 ≤ f by omega) h
      omega
  have h7 : -(1000000 * 4000) ≤ f * d := by
    rcases Int.le_total 0 d with h | h
    · have := Int.mul_nonneg (show 0 ≤ f by omega) h
      omega
    · have : f * (-d) ≤ 1000000 * 4000 := Int.mul_le_mul (by omega) (by omega) (by omega) (by omega)
      rw [Int.mul_neg] at this
      omega
  omega
theorem any_take {l : List Int} {p : Int → Bool} {k : Nat} {x : Int} (h : l[k]? = some x) : (l.take (k + 1)).any p = ((l.take k).any p || p x) := by
  rw [take_at h, List.any_append]
  simp
theorem intRows_nil : intRows [] = [] := rfl
theorem intRows_snoc (l : List Int) (x : Int) : intRows l ++ [[Tr.int x]] = intRows (l ++ [x]) := by rw [intRows_app]; rfl
attribute [local irreducible] intRows limE difE difL
theorem Fin.ent {P : Program} {Γ : Ctx} {env env1 : Env} {cs cs1 : List Chunk} {fn : Func} {post : Tr → List Chunk → Prop} {ex : Exit} (h : Ent Γ env cs env1 cs1) (k : Fin P fn Γ post ex env1 cs1) : Fin P fn Γ post ex env cs := by
  unfold Fin at k ⊢
  obtain ⟨h0, e2, c2, r, h1, h2, h3⟩ := k
  exact ⟨h0, e2, c2, r, h.trans h1, h2, h3⟩
theorem step_fn (c t f : Int) (hm : mtrE c t f = 0) (A B : Rdg) (ha : ROk c t A) (hb : ROk c t B) : PFn Tryz.prog 69 [.mtr c t f, .rdg A, .rdg B] (· = .agg (stpOf t f A B).row) := by
  obtain ⟨⟨hmul1, hmul2⟩, hlim1, hlim2⟩ := limE_bd hm ha.t0 hb.t0
  have hm2 := mtrE_ok hm
  obtain ⟨lim, hlim⟩ : ∃ lim, lim = limE t f A.t B.t := ⟨_, rfl⟩
  have hlimU : min (f * (B.t / 1440 - A.t / 1440 + 1)) (t - 1) = lim := by rw [hlim]; unfold limE; rfl
  rw [← hlim] at hlim1 hlim2
  have ht1 := ha.t0
  have ht2 := hb.t0
  obtain ⟨n, hn⟩ : ∃ n, n = B.vs.length := ⟨_, rfl⟩
  have hnb : Unit → B.vs.length = n := fun _ => hn.symm
  have hna : Unit → A.vs.length = n := fun _ => by have h1 := ha.n; have h2 := hb.n; omega
  have hn60 : n ≤ 60 := by have h2 := hb.n; omega
  have hAr := (intRows_len A.vs).trans (hna ())
  have hBr := (intRows_len B.vs).trans (hnb ())
  have hdl : (difL t A.vs B.vs).length = n := by rw [difL_len t (by rw [hna (), hnb ()])]; exact hna ()
  have kC := (clone_int (intRows B.vs) (intRows_k _) (by omega)).val
  have hP : stpOf t f A B = if (difL t A.vs B.vs).any (overB lim) = true then ⟨A.t, B.t, true, B.vs⟩ else ⟨A.t, B.t, false, difL t A.vs B.vs⟩ := by unfold stpOf; rw [hlim]
  clear hn hlim
  refine PFn.mk (Spec.body Tryz.func69 rfl rfl (Tryz.ntmps69) rfl fun w0 own0 M => ?_)
  repeat' (first | refine goH ?_ | (refine Ops.k_c_min ?_; first | (refine Ops.min2 rfl rfl rfl ?_; rw [hlimU])) | refine goV ?_ | refine goB (fun b => ?_) | refine goC (fun ad cap => ?_) | refine goI ?_ | (refine Cw.k_cond ?_; first | (refine Cw.cond_dec rfl (fun hc => ?_) (fun hc => ?_) <;> try (exfalso; omega)) | refine Cw.cond_bool rfl (fun hc => ?_) (fun hc => ?_)) | refine goR ?_ | refine goP ?_ | apply PSeq.cons | apply PSeq.yes rfl rfl rfl | exact goW | fail)
  rename_i b3 b4 b5 b6
  refine Cw.loopI [(3, _), (4, _), (5, _), (6, _), (7, _), (8, _), (33, _), (34, _)] _ (fun q e cc => ∃ (k : Nat) (ds : List Int) (rows : List (List Tr)) (ad : Option Addr) (cap : Nat), q = n - k ∧ (k ≤ n ∧ ds = (difL t A.vs B.vs).take k ∧ ds.any (overB lim) = false ∧ rows = intRows ds ∧ rows.length = k) ∧ e = [(35, .int k)] ∧ cc = [Chunk.box b 91 [.int A.t, .int B.t, .bool false, Tr.raw (.slice ad k cap)], Chunk.own ad cap 1 3 rows])
    ⟨_, _, _, Ent.trans (Ent.nil 1 3) (Ent.mkP goSub goPm), 0, [], [], none, 0, rfl, ⟨by omega, rfl, rfl, intRows_nil.symm, rfl⟩, rfl, rfl⟩ ?_
  rintro _ _ _ ⟨k, ds, rows, ad, cap, rfl, ⟨hk, hds, hov, hrs, hdr⟩, rfl, rfl⟩
  by_cases hkl : k < n
  · obtain ⟨x, hx⟩ := at_lt (l := A.vs) (k := k) (by rw [hna ()]; exact hkl)
    obtain ⟨y, hy⟩ := at_lt (l := B.vs) (k := k) (by rw [hnb ()]; exact hkl)
    have r1 := intRows_at hx
    have r2 := intRows_at hy
    have hxv := ha.v x (List.mem_of_getElem? hx)
    have hyv := hb.v y (List.mem_of_getElem? hy)
    have hd := difL_at t hx hy
    obtain ⟨d, hdd⟩ : ∃ d, d = difE t x y := ⟨_, rfl⟩
    have hdb : 0 ≤ d ∧ d < t := by rw [hdd]; exact difE_bd hxv hyv
    have hdc : (y - x < 0 ∧ d = y - x + t) ∨ (¬ y - x < 0 ∧ d = y - x) := by
      rw [hdd]
      unfold difE
      split
      · exact .inl ⟨by assumption, rfl⟩
      · exact .inr ⟨by assumption, rfl⟩
    rw [← hdd] at hd
    have hat := any_take (p := overB lim) hd
    rw [← hds, hov, Bool.false_or] at hat
    by_cases g : lim < d
    · have e : overB lim d = true := decide_eq_true g
      have hall : (difL t A.vs B.vs).any (overB lim) = true := List.any_eq_true.2 ⟨d, List.mem_of_getElem? hd, e⟩
      rw [hP, if_pos hall]
      clear hP hall hat hds hd hdd
      rcases hdc with ⟨g1, g2⟩ | ⟨g1, g2⟩
      all_goals
        repeat' (first | refine goH ?_ | refine goV ?_ | refine goB (fun b => ?_) | refine goC (fun ad cap => ?_) | refine goI ?_ | (refine Cw.k_cond ?_; first | (refine Cw.cond_dec rfl (fun hc => ?_) (fun hc => ?_) <;> try (exfalso; omega)) | refine Cw.cond_bool rfl (fun hc => ?_) (fun hc => ?_)) | (refine Ops.k_calla ?_; first | (refine Ops.k_callf 39 ?_; refine Ops.callV kC (Evs.cons rfl Evs.nil) rfl ?_)) | (apply OpW.k_call; first | (apply OpW.k_callf 39; exact OpW.callV kC (Evs.cons rfl Evs.nil))) | refine goR ?_ | refine goP ?_ | apply PSeq.cons | apply PSeq.yes rfl rfl rfl | exact goW | fail)
        refine Fin.ret (Ent.trans (Ent.setbox (s := 6) rfl goPk) (Ent.take goTk)) (Outs.sole rfl goOe) ⟨rfl, rfl⟩
    · have e : overB lim d = false := decide_eq_false g
      rw [e] at hat
      have hds2 : ds ++ [d] = (difL t A.vs B.vs).take (k + 1) := by rw [take_at hd, hds]
      have hrs2 : rows ++ [[Tr.int d]] = intRows (ds ++ [d]) := by rw [hrs, intRows_snoc]
      have hdr2 : (rows ++ [[Tr.int d]]).length = k + 1 := by rw [List.length_append, hdr]; rfl
      rw [← hds2] at hat
      clear hP hds hd hdd hov hrs
      rcases hdc with ⟨g1, rfl⟩ | ⟨g1, rfl⟩
      all_goals
        repeat' (first | refine goH ?_ | refine goV ?_ | refine goB (fun b => ?_) | refine goC (fun ad cap => ?_) | refine goI ?_ | (refine Cw.k_cond ?_; first | (refine Cw.cond_dec rfl (fun hc => ?_) (fun hc => ?_) <;> try (exfalso; omega)) | refine Cw.cond_bool rfl (fun hc => ?_) (fun hc => ?_)) | refine goR ?_ | refine goP ?_ | apply PSeq.cons | apply PSeq.yes rfl rfl rfl | exact goW | fail)
        rw [hdr2]
        exact ⟨_, _, _, (Ent.mk goSub goTk), ⟨k + 1, ds ++ [_], _, _, _, rfl, ⟨by omega, hds2, hat, hrs2, hdr2⟩, rfl, rfl⟩, by omega⟩
  · have hkn : k = n := by omega
    have hdf : ds = difL t A.vs B.vs := by rw [hds, List.take_of_length_le (by omega)]
    rw [hP, if_neg (by rw [← hdf, hov]; decide), ← hdf]
    clear hP hds hdf
    subst hrs
    repeat' (first | refine goH ?_ | refine goV ?_ | refine goB (fun b => ?_) | refine goC (fun ad cap => ?_) | refine goI ?_ | (refine Cw.k_cond ?_; first | (refine Cw.cond_dec rfl (fun hc => ?_) (fun hc => ?_) <;> try (exfalso; omega)) | refine Cw.cond_bool rfl (fun hc => ?_) (fun hc => ?_)) | refine goR ?_ | refine goP ?_ | apply PSeq.cons | apply PSeq.yes rfl rfl rfl | exact goW | fail)
    refine Fin.ent (Ent.settle_box (b := b6) (i := 3) (ad := ad) (kk := 1) (rows := intRows ds) (by exact Perm.cons' goPk (Perm.cons' goPk (List.Perm.refl _))) rfl hdr.symm rfl) ?_
    refine Fin.ret (Ent.trans (Ent.setbox (s := 6) rfl goPk) (Ent.take goTk)) (Outs.sole rfl goOe) ⟨rfl, rfl⟩
end Lg
end
