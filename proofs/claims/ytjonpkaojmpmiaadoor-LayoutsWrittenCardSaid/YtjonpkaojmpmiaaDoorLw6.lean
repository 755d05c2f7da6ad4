/- A part of the proof of a law of this seat: it adds no condition. By an AI agent. -/
import Derived.Test.YtjonpkaojmpmiaaDoorShelf2
import Derived.Test.YtjonpkaojmpmiaaDoorChgS
set_option linter.all false
set_option maxRecDepth 100000
set_option maxHeartbeats 8000000
namespace Lg
open Go Go.Proofs

/-! ### the generators of tasks and of a layout's text -/
theorem tasks_gen (x y : List ByteArray) (hx : x.length ≤ 100) (hy : y.length ≤ 100) : Gen Tryd.prog 25 11 [.strs x, .strs y] 10 (fun r => ∃ t : List Tk, r = .tks t ∧ t.length ≤ 200) := by
  unfold Gen
  intro b xs N hN
  have k1 := tasksFault_fn x y (by omega) (by omega)
  have key : ∀ (l : List Tk) (n : Int) (p q : ByteArray), l.map Tk.row ++ [[Tr.int n, Tr.str p, Tr.str q]] = (l ++ [Tk.mk n p q]).map Tk.row := by intro l n p q; rw [List.map_append]; rfl
  refine Spec.body Tryd.func11 rfl rfl (Tryd.ntmps11) rfl fun w0 own0 M => ?_
  by_cases hE : tskE x y = 0
  · have q2 : x.length = y.length := by
      unfold tskE at hE
      have hc : chgE x y = 0 := Classical.byContradiction fun h => by rw [if_pos h] at hE; exact h hE
      unfold chgE at hc
      split at hc
      · omega
      · split at hc
        · omega
        · omega
    have kO := tasksOfO_fn x y (by omega) q2
    have hl : (tkL x y (difN x y x.length)).length ≤ 100 := by rw [tkL_len]; have := difN_len x y x.length; omega
    rw [hE] at k1
    generalize tkL x y (difN x y x.length) = L at *
    have hLl : (L.map Tk.row).length = L.length := List.length_map _
    repeat' (first | refine goH ?_ | refine goV ?_ | refine goC (fun ad cap => ?_) | refine goI ?_ | (refine Cw.k_cond ?_; first | (refine Cw.cond_dec rfl (fun hc => ?_) (fun hc => ?_) <;> try (exfalso; omega)) | refine Cw.cond_bool rfl (fun hc => ?_) (fun hc => ?_)) | (refine Ops.k_calla ?_; first | (refine Ops.k_callf 8 ?_; refine Ops.callV k1 (Evs.cons rfl (Evs.cons rfl Evs.nil)) rfl ?_) | (refine Ops.k_callf 10 ?_; (refine Ops.callO kO (Evs.cons rfl (Evs.cons rfl Evs.nil)) rfl (fun ad cap rows hr => ?_); subst hr)) | (refine Ops.k_callf 24 ?_; (refine Ops.callG (pick_gen (by repeat' (first | exact IsInts.nil | apply IsInts.cons)) (by simp)) (Evs.cons rfl (Evs.cons rfl Evs.nil)) goPk (by omega) rfl ?_; rintro r ⟨v, rfl, hv⟩; clear hv)) | (refine Ops.k_callf 26 ?_; (refine Ops.callG (one_gen (by repeat' (first | exact IsStrs.nil | apply IsStrs.cons)) (by simp)) (Evs.cons rfl (Evs.cons rfl Evs.nil)) goPk (by omega) rfl ?_; rintro r ⟨w, rfl, hw⟩; clear hw)) | (refine Ops.k_callf 23 ?_; (refine Ops.callG (flip_gen _ (by omega)) (Evs.cons rfl (Evs.cons rfl Evs.nil)) goPk (by omega) rfl ?_; rintro r ⟨fl, rfl⟩))) | fail)
    · refine Fin.ret (Ent.trans (Ent.settle (s := 6) rfl goPk rfl) (Ent.strm_only goPk (by omega))) (Outs.one rfl rfl) ⟨rfl, _, congrArg (Tr.sl 3) (key _ _ _ _), ?_⟩
      rw [List.length_append]; simp; omega
    · exact Fin.ret (Ent.trans (Ent.settle (s := 6) rfl goPk rfl) (Ent.strm_only goPk (by omega))) (Outs.one rfl rfl) ⟨rfl, L, rfl, by omega⟩
  · generalize tskE x y = E at *
    refine Cw.ent (Ent.nil 3 40) ?_
    repeat' (first | refine goH ?_ | refine goV ?_ | refine goC (fun ad cap => ?_) | refine goI ?_ | (refine Cw.k_cond ?_; first | (refine Cw.cond_dec rfl (fun hc => ?_) (fun hc => ?_) <;> try (exfalso; omega)) | refine Cw.cond_bool rfl (fun hc => ?_) (fun hc => ?_)) | (refine Ops.k_calla ?_; first | (refine Ops.k_callf 8 ?_; refine Ops.callV k1 (Evs.cons rfl (Evs.cons rfl Evs.nil)) rfl ?_) | (refine Ops.k_callf 24 ?_; (refine Ops.callG (pick_gen (by repeat' (first | exact IsInts.nil | apply IsInts.cons)) (by simp)) (Evs.cons rfl (Evs.cons rfl Evs.nil)) goPk (by omega) rfl ?_; rintro r ⟨v, rfl, hv⟩; clear hv)) | (refine Ops.k_callf 26 ?_; (refine Ops.callG (one_gen (by repeat' (first | exact IsStrs.nil | apply IsStrs.cons)) (by simp)) (Evs.cons rfl (Evs.cons rfl Evs.nil)) goPk (by omega) rfl ?_; rintro r ⟨w, rfl, hw⟩; clear hw)) | (refine Ops.k_callf 23 ?_; (refine Ops.callG (flip_gen _ (by omega)) (Evs.cons rfl (Evs.cons rfl Evs.nil)) goPk (by omega) rfl ?_; rintro r ⟨fl, rfl⟩))) | fail)
    · exact Fin.ret (Ent.trans (Ent.settle (s := 6) rfl goPk rfl) (Ent.strm_only goPk (by omega))) (Outs.one rfl rfl) ⟨rfl, _, congrArg (Tr.sl 3) (key [] _ _ _), by simp⟩
    · exact Fin.ret (Ent.trans (Ent.settle (s := 6) rfl goPk rfl) (Ent.strm_only goPk (by omega))) (Outs.one rfl rfl) ⟨rfl, [], rfl, by simp⟩
theorem prtE_ok {R C : Int} {x : List ByteArray} (h : prtE R C x = 0) : rackE R C = 0 ∧ (x.length : Int) = R * C ∧ x.any oddL = false := by
  unfold prtE at h
  by_cases h1 : rackE R C ≠ 0
  · rw [if_pos h1] at h; exact absurd h h1
  rw [if_neg h1] at h
  by_cases h2 : (x.length : Int) ≠ R * C
  · rw [if_pos h2] at h; cases h
  rw [if_neg h2] at h
  refine ⟨by omega, by omega, ?_⟩
  cases h3 : x.any oddL with
  | true => rw [h3, if_pos rfl] at h; cases h
  | false => rfl
theorem odd_size {x : List ByteArray} (h : x.any oddL = false) : ∀ s ∈ x, s.size ≤ 1000 := fun s hs => by
  have h1 := List.any_eq_false.1 h s hs
  unfold oddL at h1
  by_cases h2 : s = eL
  · subst h2
    show 0 ≤ 1000
    omega
  · rw [decide_eq_true h2, Bool.true_and, Bool.not_eq_true', Bool.not_eq_false] at h1
    unfold isKey at h1
    have := of_decide_eq_true h1
    omega
theorem rightOffersV_gen (most : Int) (hm : 0 ≤ most ∧ most ≤ 10) : Gen Tryd.prog 25 5 [.int most] 400 (fun r => ∃ l : List Offer, r = .offers l ∧ l.length ≤ 10) := by
  have h := Gen.ofO (rightOffers_gen most hm)
  unfold Gen at h ⊢
  intro b xs N hN
  refine Spec.mono (h b xs N hN) ?_
  rintro r cs ⟨hc, rows, rfl, l, rfl, hl, _⟩
  exact ⟨hc, l, rfl, hl⟩
theorem layoutX_gen (n : Int) (hn : -1000 ≤ n ∧ n ≤ 1000) : Gen Tryd.prog 25 6 [.int n, Tr.exS (fun l : List Offer => l.length ≤ 10) Tr.offers] 150 (fun x => ∃ xs : List ByteArray, x = .strs xs ∧ xs.length ≤ 71) :=
  Gen.exS (pre := [.int n]) (post := []) (x0 := []) (by simp) fun l hl => layout_gen n hn l (by omega)
theorem layoutText_gen (r c : Int) (hr : 0 ≤ r ∧ r ≤ 11) (hc : 0 ≤ c ∧ c ≤ 10) : Gen Tryd.prog 25 18 [.agg [.int r, .int c]] 600 (fun x => ∃ t : ByteArray, x = .str t ∧ t.size ≤ 150000) := by
  unfold Gen
  intro bs xs N hN
  refine Spec.body Tryd.func18 rfl rfl (Tryd.ntmps18) rfl fun w0 own0 M => ?_
  have hrc : 0 ≤ r * c ∧ r * c ≤ 110 := by
    refine ⟨Int.mul_nonneg hr.1 hc.1, ?_⟩
    have := Int.mul_le_mul hr.2 hc.2 hc.1 (by omega : (0 : Int) ≤ 11)
    omega
  have hm64 : -9223372036854775808 ≤ r * c ∧ r * c ≤ 9223372036854775807 := by omega
  repeat' (first | refine goH ?_ | refine goV ?_ | refine goB (fun b => ?_) | refine goI ?_ | (refine Cw.k_cond ?_; first | (refine Cw.cond_dec rfl (fun hc => ?_) (fun hc => ?_) <;> try (exfalso; omega)) | refine Cw.cond_bool rfl (fun hc => ?_) (fun hc => ?_)) | fail)
  first | refine Cw.region_YP (fun ξ S => [Chunk.box b 27 [.int r, .int c], Chunk.strm 25 bs (intRows xs) (N + 400 * b2n (S 7) + 150 * b2n (S 8))]) rfl (by decide +kernel) rfl ((fun (ξ : Nat → Value) (S : Nat → Bool) => [Chunk.box b 27 [.int r, .int c], Chunk.strm 25 bs (intRows xs) (N + 400 * b2n (S 7) + 150 * b2n (S 8))]) (fun _ => undef) (fun _ => false)) (by simp only [upd_same, updD_same, upd_ne, updD_ne, ne_eq, Nat.reduceEqDiff, not_false_eq_true, stg_t, stg_f, vAd_s, vCap_s, blk_p, List.cons_append, List.nil_append, b2n_t, b2n_f]; exact goXm) (fun _ => rfl) ?_ | fail
  apply YSeq.w (by intro _ _ _; rfl)
  · intro ξ S h1 h2 h3 h4
    have hN0_8 := closed_false h1 h3 (k := 8) rfl (by decide)
    try simp only [upd_same, updD_same, upd_ne, updD_ne, ne_eq, Nat.reduceEqDiff, not_false_eq_true, stg_t, stg_f, vAd_s, vCap_s, blk_p, List.cons_append, List.nil_append, b2n_t, b2n_f, hN0_8]
    exact goW
  · intro ξ v; rfl
  · intro ξ k v S h3 hn hk
    first
    | rfl
  apply YSeq.w (by intro _ _ _; rfl)
  · intro ξ S h1 h2 h3 h4
    have hN1_2 := closed_false h1 h3 (k := 2) rfl (by decide)
    have hN1_5 := closed_false hN1_2 h3 (k := 5) rfl (by decide)
    have hN1_8 := closed_false hN1_5 h3 (k := 8) rfl (by decide)
    try simp only [upd_same, updD_same, upd_ne, updD_ne, ne_eq, Nat.reduceEqDiff, not_false_eq_true, stg_t, stg_f, vAd_s, vCap_s, blk_p, List.cons_append, List.nil_append, b2n_t, b2n_f, hN1_8]
    exact goW
  · intro ξ v; rfl
  · intro ξ k v S h3 hn hk
    first
    | rfl
  apply YSeq.w (by intro _ _ _; rfl)
  · intro ξ S h1 h2 h3 h4
    have hN2_5 := closed_false h1 h3 (k := 5) rfl (by decide)
    have hN2_8 := closed_false hN2_5 h3 (k := 8) rfl (by decide)
    try simp only [upd_same, updD_same, upd_ne, updD_ne, ne_eq, Nat.reduceEqDiff, not_false_eq_true, stg_t, stg_f, vAd_s, vCap_s, blk_p, List.cons_append, List.nil_append, b2n_t, b2n_f, hN2_8]
    exact goW
  · intro ξ v; rfl
  · intro ξ k v S h3 hn hk
    first
    | rfl
  apply YSeq.w (by intro _ _ _; rfl)
  · intro ξ S h1 h2 h3 h4
    have hN3_4 := closed_false h1 h3 (k := 4) rfl (by decide)
    have hN3_5 := closed_false hN3_4 h3 (k := 5) rfl (by decide)
    have hN3_8 := closed_false hN3_5 h3 (k := 8) rfl (by decide)
    try simp only [upd_same, updD_same, upd_ne, updD_ne, ne_eq, Nat.reduceEqDiff, not_false_eq_true, stg_t, stg_f, vAd_s, vCap_s, blk_p, List.cons_append, List.nil_append, b2n_t, b2n_f, hN3_8]
    exact goW
  · intro ξ v; rfl
  · intro ξ k v S h3 hn hk
    first
    | rfl
  apply YSeq.w (by intro _ _ _; rfl)
  · intro ξ S h1 h2 h3 h4
    have hN4_5 := closed_false h1 h3 (k := 5) rfl (by decide)
    have hN4_8 := closed_false hN4_5 h3 (k := 8) rfl (by decide)
    try simp only [upd_same, updD_same, upd_ne, updD_ne, ne_eq, Nat.reduceEqDiff, not_false_eq_true, stg_t, stg_f, vAd_s, vCap_s, blk_p, List.cons_append, List.nil_append, b2n_t, b2n_f, hN4_8]
    exact goW
  · intro ξ v; rfl
  · intro ξ k v S h3 hn hk
    first
    | rfl
  apply YSeq.w (by intro _ _ _; rfl)
  · intro ξ S h1 h2 h3 h4
    have hN5_8 := closed_false h1 h3 (k := 8) rfl (by decide)
    try simp only [upd_same, updD_same, upd_ne, updD_ne, ne_eq, Nat.reduceEqDiff, not_false_eq_true, stg_t, stg_f, vAd_s, vCap_s, blk_p, List.cons_append, List.nil_append, b2n_t, b2n_f, hN5_8]
    exact goW
  · intro ξ v; rfl
  · intro ξ k v S h3 hn hk
    first
    | rfl
  apply YSeq.w (by intro _ _ _; rfl)
  · intro ξ S h1 h2 h3 h4
    have hN6_7 := closed_false h1 h3 (k := 7) rfl (by decide)
    have hN6_8 := closed_false hN6_7 h3 (k := 8) rfl (by decide)
    try simp only [upd_same, updD_same, upd_ne, updD_ne, ne_eq, Nat.reduceEqDiff, not_false_eq_true, stg_t, stg_f, vAd_s, vCap_s, blk_p, List.cons_append, List.nil_append, b2n_t, b2n_f, hN6_7, hN6_8]
    exact goW
  · intro ξ v; rfl
  · intro ξ k v S h3 hn hk
    first
    | rfl
  apply YSeq.callT (Tr.exS (fun l : List Offer => l.length ≤ 10) Tr.offers) (rightOffersV_gen 4 (by omega)) (by (rintro x ⟨v, rfl, h⟩; exact Imp.exS h)) (fun _ => (Evs.cons rfl (Evs.cons rfl Evs.nil)))
  · intro ξ S h1 h3
    have hN7_8 := closed_false h1 h3 (k := 8) rfl (by decide)
    have hq7 := b2n_le (S 7)
    have hq8 := b2n_le (S 8)
    simp only [upd_same, updD_same, upd_ne, updD_ne, ne_eq, Nat.reduceEqDiff, not_false_eq_true, stg_t, stg_f, vAd_s, vCap_s, blk_p, List.cons_append, List.nil_append, b2n_t, b2n_f, h1, hN7_8]
    refine ⟨_, _, ?_, goXp, fun v => ?_⟩
    · omega
    · refine List.Perm.trans goXp (perm_strm ?_)
      omega
  apply YSeq.callT (Tr.exS (fun l : List ByteArray => l.length ≤ 71) Tr.strs) (layoutX_gen (r * c) (by omega)) (by (rintro x ⟨v, rfl, h⟩; exact Imp.exS h)) (fun _ => (Evs.cons rfl (Evs.cons rfl (Evs.cons rfl Evs.nil))))
  · intro ξ S h1 h3
    have hq7 := b2n_le (S 7)
    have hq8 := b2n_le (S 8)
    simp only [upd_same, updD_same, upd_ne, updD_ne, ne_eq, Nat.reduceEqDiff, not_false_eq_true, stg_t, stg_f, vAd_s, vCap_s, blk_p, List.cons_append, List.nil_append, b2n_t, b2n_f, h1]
    refine ⟨_, _, ?_, goXp, fun v => ?_⟩
    · omega
    · refine List.Perm.trans goXp (perm_strm ?_)
      omega
  apply YSeq.w (by intro _ _ _; rfl)
  · intro ξ S h1 h2 h3 h4
    have hY9_7 : S 7 = true := h2 7 (by decide)
    have hY9_8 : S 8 = true := h2 8 (by decide)
    try simp only [upd_same, updD_same, upd_ne, updD_ne, ne_eq, Nat.reduceEqDiff, not_false_eq_true, stg_t, stg_f, vAd_s, vCap_s, blk_p, List.cons_append, List.nil_append, b2n_t, b2n_f, hY9_7, hY9_8]
    exact goW
  · intro ξ v; rfl
  · intro ξ k v S h3 hn hk
    first
    | rfl
  refine YSeq.nil fun ξ hf => ?_
  refine ⟨[(0, _), (3, _), (5, _)], _, Ent.trans (Ent.eqc rfl (by first | (simp only [upd_same, updD_same, upd_ne, updD_ne, ne_eq, Nat.reduceEqDiff, not_false_eq_true, stg_t, stg_f, vAd_s, vCap_s, blk_p, List.cons_append, List.nil_append, b2n_t, b2n_f, ownV, slV, ptV] <;> rfl) | rfl)) (Ent.sub goSub), ?_⟩
  clear hf
  repeat (first | refine InB.norm ?_ | refine Then.norm ?_)
  refine Cw.open_slot (i := 5) rfl open_exS ?_
  rintro x hx
  have kF := printFault_fn r c (by omega) (by omega) x (by omega)
  have hone : ∀ w ∈ ([⟨#[32]⟩, ⟨#[46]⟩, ⟨#[10]⟩, ⟨#[97]⟩, ⟨#[90]⟩] : List ByteArray), w.size = 1 := by
    intro w hw
    simp only [List.mem_cons, List.mem_nil_iff, or_false] at hw
    rcases hw with rfl | rfl | rfl | rfl | rfl <;> rfl
  by_cases hE : prtE r c x = 0
  · obtain ⟨h1, h2, h3⟩ := prtE_ok hE
    have h4 := rackE_bd h1
    obtain ⟨R, rfl⟩ : ∃ R : Nat, r = R := ⟨r.toNat, by omega⟩
    obtain ⟨C, rfl⟩ : ∃ C : Nat, c = C := ⟨c.toNat, by omega⟩
    have kT := layoutText_fn R C (by omega) (by omega) x (by omega) (odd_size h3)
    have hsz := layT_size C (odd_size h3) x.length
    rw [hE] at kF
    generalize layT C x x.length = t at *
    have ht : t.size ≤ 100000 := by omega
    clear h1 h2 h3 hsz
    repeat' (first | refine goH ?_ | refine goV ?_ | refine goB (fun b => ?_) | refine goI ?_ | (refine Cw.k_cond ?_; first | (refine Cw.cond_dec rfl (fun hc => ?_) (fun hc => ?_) <;> try (exfalso; omega)) | refine Cw.cond_bool rfl (fun hc => ?_) (fun hc => ?_)) | (refine Ops.k_calla ?_; first | (refine Ops.k_callf 16 ?_; refine Ops.callV kF (Evs.cons rfl (Evs.cons rfl Evs.nil)) rfl ?_) | (refine Ops.k_callf 17 ?_; refine Ops.callV kT (Evs.cons rfl (Evs.cons rfl Evs.nil)) rfl ?_) | (refine Ops.k_callf 26 ?_; (refine Ops.callG (one_gen (by repeat' (first | exact IsStrs.nil | apply IsStrs.cons)) (by simp)) (Evs.cons rfl (Evs.cons rfl Evs.nil)) goPk (by omega) rfl ?_; rintro r ⟨w, rfl, hw⟩; have hw1 := hone w hw; clear hw)) | (refine Ops.k_callf 23 ?_; (refine Ops.callG (flip_gen _ (by omega)) (Evs.cons rfl (Evs.cons rfl Evs.nil)) goPk (by omega) rfl ?_; rintro r ⟨fl, rfl⟩)) | (refine Ops.k_callf 43 ?_; (refine Ops.callG (changed_gen t w (by omega) (by omega)) (Evs.cons rfl (Evs.cons rfl (Evs.cons rfl Evs.nil))) goPk (by omega) rfl ?_; rintro r ⟨t2, rfl, ht2⟩))) | (apply OpW.k_call; first | (apply OpW.k_callf 16; exact OpW.callV kF (Evs.cons rfl (Evs.cons rfl Evs.nil))) | (apply OpW.k_callf 17; exact OpW.callV kT (Evs.cons rfl (Evs.cons rfl Evs.nil)))) | refine goR ?_ | refine goP ?_ | apply PSeq.cons | apply PSeq.yes rfl rfl rfl | exact goW | fail)
    all_goals (refine Fin.ret (Ent.strm_only goPk (by omega)) (Outs.sole rfl goOe) ⟨rfl, _, rfl, by omega⟩)
  · generalize prtE r c x = E at *
    have ht : ByteArray.size ⟨#[46, 32, 97, 10]⟩ = 4 := rfl
    repeat' (first | refine goH ?_ | refine goV ?_ | refine goB (fun b => ?_) | refine goI ?_ | (refine Cw.k_cond ?_; first | (refine Cw.cond_dec rfl (fun hc => ?_) (fun hc => ?_) <;> try (exfalso; omega)) | refine Cw.cond_bool rfl (fun hc => ?_) (fun hc => ?_)) | (refine Ops.k_calla ?_; first | (refine Ops.k_callf 16 ?_; refine Ops.callV kF (Evs.cons rfl (Evs.cons rfl Evs.nil)) rfl ?_) | (refine Ops.k_callf 26 ?_; (refine Ops.callG (one_gen (by repeat' (first | exact IsStrs.nil | apply IsStrs.cons)) (by simp)) (Evs.cons rfl (Evs.cons rfl Evs.nil)) goPk (by omega) rfl ?_; rintro r ⟨w, rfl, hw⟩; have hw1 := hone w hw; clear hw)) | (refine Ops.k_callf 23 ?_; (refine Ops.callG (flip_gen _ (by omega)) (Evs.cons rfl (Evs.cons rfl Evs.nil)) goPk (by omega) rfl ?_; rintro r ⟨fl, rfl⟩)) | (refine Ops.k_callf 43 ?_; (refine Ops.callG (changed_gen ⟨#[46, 32, 97, 10]⟩ w (by omega) (by omega)) (Evs.cons rfl (Evs.cons rfl (Evs.cons rfl Evs.nil))) goPk (by omega) rfl ?_; rintro r ⟨t2, rfl, ht2⟩))) | (apply OpW.k_call; first | (apply OpW.k_callf 16; exact OpW.callV kF (Evs.cons rfl (Evs.cons rfl Evs.nil)))) | refine goR ?_ | refine goP ?_ | apply PSeq.cons | apply PSeq.yes rfl rfl rfl | exact goW | fail)
    all_goals (refine Fin.ret (Ent.strm_only goPk (by omega)) (Outs.sole rfl goOe) ⟨rfl, _, rfl, by omega⟩)
end Lg
