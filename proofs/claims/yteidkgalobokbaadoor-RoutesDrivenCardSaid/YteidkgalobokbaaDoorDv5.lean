/- A part of the proof of a law of this seat: it adds no condition. By an AI agent. -/
import Derived.Test.YteidkgalobokbaaDoorLaw
set_option linter.all false
set_option maxRecDepth 100000
set_option maxHeartbeats 8000000
namespace Lg
open Go Go.Proofs

attribute [local irreducible] twoS intRows farI farE tourE tourS tripE drvP
theorem tourO_fn (bl : List Int) (e w q : Int) (ad : Option Addr) (cap : Nat) (hb : bl.length ≤ 1000000) : Spec Tryd.prog 15 [.tour bl e w q, .agg [.raw (.slice ad bl.length cap), .int e, .int w, .int q]] [Chunk.own ad cap 1 3 (intRows bl)] (fun r cs => r = .bool true ∧ cs = [Chunk.own ad cap 1 3 (intRows bl)]) := by
  have kE := (equalInts_fn bl bl hb hb)
  rw [decide_eq_true (rfl : bl = bl)] at kE
  have kL := PFn.lendO (pre := [.ints bl]) (suf := []) (kk := 1) (E := 3) (rows := intRows bl) (ad := ad) (cap := cap) (n := bl.length) kE (intRows_len bl).symm raw_free
  refine Spec.body Tryd.func15 rfl rfl (Tryd.ntmps15) rfl fun w0 own0 M => ?_
  repeat' (first | refine goH ?_ | (refine Ops.k_b_eql ?_; first | (refine Ops.val' rfl (OpV.eql_t rfl rfl rfl) ?_)) | refine goV ?_ | refine goB (fun b => ?_) | refine goG ?_ | (refine Ops.k_guard ?_; first | (refine Ops.guard_dec rfl rfl (fun hc => ?_) (fun hc => ?_) <;> try (exfalso; omega)) | refine Ops.guard_split rfl rfl (fun hc => ?_) (fun hc => ?_)) | refine goI ?_ | (refine Cw.k_cond ?_; first | (refine Cw.cond_dec rfl (fun hc => ?_) (fun hc => ?_) <;> try (exfalso; omega)) | refine Cw.cond_bool rfl (fun hc => ?_) (fun hc => ?_)) | (refine Ops.k_calla ?_; first | refine Ops.callS kL (Evs.cons rfl (Evs.cons rfl Evs.nil)) goPm rfl ?_) | fail)
  all_goals exact Fin.ret (Ent.take goTk) (Outs.one rfl rfl) ⟨rfl, rfl⟩
structure HidT (p : Prop) : Prop where
  h : p
theorem useTail9 {T : List Int → Int → Int → Int → Int → Option Addr → Nat → Nat → Nat → Prop} {G : Prop} (h : HidT (∀ bs e w q err ad cap b13 b16, bs.length ≤ 100 → T bs e w q err ad cap b13 b16) → G) (t : ∀ bs e w q err ad cap b13 b16, bs.length ≤ 100 → T bs e w q err ad cap b13 b16) : G := h ⟨t⟩
theorem routesDriven_law (xs : List Int) : Spec Tryd.prog 3 [Tr.ints xs] [tab10] (fun r _ => r = Tr.bool true) := by
  refine Spec.body Tryd.func3 rfl rfl (Tryd.ntmps3) rfl fun w0 own0 M => ?_
  repeat' (first | refine goH ?_ | ((fail_if_success refine Ops.k_c_call ?_); refine goV ?_) | ((fail_if_success refine Ops.k_c_call ?_); refine goB (fun b => ?_)) | ((fail_if_success refine Ops.k_c_call ?_); refine goC (fun ad cap => ?_)) | refine goG ?_ | (refine Ops.k_guard ?_; first | (refine Ops.guard_dec rfl rfl (fun hc => ?_) (fun hc => ?_) <;> try (exfalso; omega)) | refine Ops.guard_split rfl rfl (fun hc => ?_) (fun hc => ?_)) | refine goI ?_ | (refine Cw.k_cond ?_; first | (refine Cw.cond_dec rfl (fun hc => ?_) (fun hc => ?_) <;> try (exfalso; omega)) | refine Cw.cond_bool rfl (fun hc => ?_) (fun hc => ?_)) | refine Ops.shut0 (ty := 25) rfl ?_ | (refine Ops.k_calla ?_; first | (refine Ops.k_callf 4 ?_; (refine Ops.callG (stops_gen 6 (by omega)) (Evs.cons rfl (Evs.cons rfl Evs.nil)) goPk (by omega) rfl ?_; rintro r ⟨l, rfl, hll⟩)) | (refine Ops.k_callf 5 ?_; (refine Ops.callG spot_gen (Evs.cons rfl Evs.nil) goPk (by omega) rfl ?_; rintro r ⟨⟨px, py⟩, rfl, hsp⟩; unfold Spot.row; simp only)) | (refine Ops.k_callf 6 ?_; (refine Ops.callG (pick_gen (by repeat' (first | exact IsInts.nil | apply IsInts.cons)) (by simp)) (Evs.cons rfl (Evs.cons rfl Evs.nil)) goPk (by omega) rfl ?_; rintro r ⟨st, rfl, hd⟩; clear hd))) | refine goR ?_ | refine goP ?_ | apply PSeq.cons | apply PSeq.yes rfl rfl rfl | exact goW | fail)
  rename_i bs hx hy hsp1 b5
  have kf1 := farU_fn ⟨hx, hy⟩ ⟨px, py⟩
  have kf2 := farOf_fn ⟨hx, hy⟩ ⟨px, py⟩
  have kc1 := checkStops_fn l (by omega)
  have kc2 := stopsFault_fn l (by omega)
  have kr := fun n hn => route_gen n hn
  simp only [Spot.row] at kf1 kf2
  generalize (if farE _ _ ≠ 0 then (0 : Int) else farI _ _) = far at *
  generalize farE _ _ = fe at *
  repeat' (first | refine goH ?_ | (refine Ops.k_b_neq ?_; first | (refine Ops.val' rfl (OpV.neq_f rfl rfl (by omega)) ?_)) | ((fail_if_success refine Ops.k_c_call ?_); refine goV ?_) | ((fail_if_success refine Ops.k_c_call ?_); refine goB (fun b => ?_)) | ((fail_if_success refine Ops.k_c_call ?_); refine goC (fun ad cap => ?_)) | refine goG ?_ | (refine Ops.k_guard ?_; first | (refine Ops.guard_dec rfl rfl (fun hc => ?_) (fun hc => ?_) <;> try (exfalso; omega)) | refine Ops.guard_split rfl rfl (fun hc => ?_) (fun hc => ?_)) | refine goI ?_ | (refine Cw.k_cond ?_; first | (refine Cw.cond_dec rfl (fun hc => ?_) (fun hc => ?_) <;> try (exfalso; omega)) | refine Cw.cond_bool rfl (fun hc => ?_) (fun hc => ?_)) | (refine Ops.k_calla ?_; first | (refine Ops.k_callf 7 ?_; refine Ops.callV kf1 (Evs.cons rfl (Evs.cons rfl Evs.nil)) rfl ?_) | (refine Ops.k_callf 8 ?_; refine Ops.callV kf2 (Evs.cons rfl (Evs.cons rfl Evs.nil)) rfl ?_) | (refine Ops.k_callf 9 ?_; refine Ops.callV kc1 (Evs.cons rfl Evs.nil) rfl ?_) | (refine Ops.k_callf 10 ?_; refine Ops.callV kc2 (Evs.cons rfl Evs.nil) rfl ?_) | (refine Ops.k_callf 11 ?_; (refine Ops.callG (route_gen (l.map Stop.row).length (by rw [List.length_map]; omega)) (Evs.cons rfl (Evs.cons rfl Evs.nil)) goPk (by omega) rfl ?_; rintro r ⟨o, rfl, hol⟩))) | (apply OpW.k_call; first | (apply OpW.k_callf 7; exact OpW.callV kf1 (Evs.cons rfl (Evs.cons rfl Evs.nil))) | (apply OpW.k_callf 8; exact OpW.callV kf2 (Evs.cons rfl (Evs.cons rfl Evs.nil))) | (apply OpW.k_callf 9; exact OpW.callV kc1 (Evs.cons rfl Evs.nil)) | (apply OpW.k_callf 10; exact OpW.callV kc2 (Evs.cons rfl Evs.nil))) | refine goR ?_ | refine goP ?_ | apply PSeq.cons | apply PSeq.yes rfl rfl rfl | exact goW | fail)
  clear kf1 kf2 kc1 kc2 kr
  have kd := driveU_fn ⟨hx, hy⟩ l st o (by omega) (by omega)
  have kr := routeFault_fn ⟨hx, hy⟩ l st (by omega)
  simp only [Spot.row] at kd kr
  unfold drvA at kd
  refine useTail9 (T := ?T) ?main ?tailp
  case' main => intro tail
  by_cases ht0 : tripE ⟨hx, hy⟩ l st = 0
  · rw [if_neg (fun h => h ht0), drvU_eq] at kd
    rw [ht0] at kr
    have ko := driveOfO_fn ⟨hx, hy⟩ l st o ht0 (by omega)
    have hPl := drvP_len l ⟨hx, hy⟩ st o
    unfold drvO at ko
    simp only [Spot.row] at ko
    generalize drvP l ⟨hx, hy⟩ st o = PP at *
    obtain ⟨⟨bl, e, w, q⟩, err⟩ := PP
    simp only at kd hPl
    repeat' (first | refine goH ?_ | ((fail_if_success refine Ops.k_c_call ?_); refine goV ?_) | ((fail_if_success refine Ops.k_c_call ?_); refine goB (fun b => ?_)) | ((fail_if_success refine Ops.k_c_call ?_); refine goC (fun ad cap => ?_)) | refine goG ?_ | (refine Ops.k_guard ?_; first | (refine Ops.guard_dec rfl rfl (fun hc => ?_) (fun hc => ?_) <;> try (exfalso; omega)) | refine Ops.guard_split rfl rfl (fun hc => ?_) (fun hc => ?_)) | refine goI ?_ | (refine Cw.k_cond ?_; first | (refine Cw.cond_dec rfl (fun hc => ?_) (fun hc => ?_) <;> try (exfalso; omega)) | refine Cw.cond_bool rfl (fun hc => ?_) (fun hc => ?_)) | (refine Ops.k_calla ?_; first | (refine Ops.k_callf 12 ?_; refine Ops.callV kd (Evs.cons rfl (Evs.cons rfl (Evs.cons rfl (Evs.cons rfl Evs.nil)))) rfl ?_) | (refine Ops.k_callf 13 ?_; refine Ops.callV kr (Evs.cons rfl (Evs.cons rfl (Evs.cons rfl Evs.nil))) rfl ?_)) | (apply OpW.k_call; first | (apply OpW.k_callf 12; exact OpW.callV kd (Evs.cons rfl (Evs.cons rfl (Evs.cons rfl (Evs.cons rfl Evs.nil))))) | (apply OpW.k_callf 13; exact OpW.callV kr (Evs.cons rfl (Evs.cons rfl (Evs.cons rfl Evs.nil))))) | refine goR ?_ | refine goP ?_ | apply PSeq.cons | apply PSeq.yes rfl rfl rfl | exact goW | fail)
    refine Ops.call ko (Evs.cons rfl (Evs.cons rfl (Evs.cons rfl (Evs.cons rfl Evs.nil)))) goPm rfl ?_
    rintro r cs' ⟨bl2, e2, w2, q2, err2, ad, cap, bx, hU, rfl, rfl⟩
    simp only [Prod.mk.injEq] at hU
    obtain ⟨⟨rfl, rfl, rfl, rfl⟩, rfl⟩ := hU
    repeat' (first | refine goH ?_ | (refine Ops.k_b_neq ?_; first | (refine Ops.val' rfl (OpV.neq_f rfl rfl rfl) ?_)) | ((fail_if_success refine Ops.k_c_call ?_); refine goV ?_) | ((fail_if_success refine Ops.k_c_call ?_); refine goB (fun b => ?_)) | ((fail_if_success refine Ops.k_c_call ?_); refine goC (fun ad cap => ?_)) | refine goG ?_ | (refine Ops.k_guard ?_; first | (refine Ops.guard_dec rfl rfl (fun hc => ?_) (fun hc => ?_) <;> try (exfalso; omega)) | refine Ops.guard_split rfl rfl (fun hc => ?_) (fun hc => ?_)) | refine goI ?_ | (refine Cw.k_cond ?_; first | (refine Cw.cond_dec rfl (fun hc => ?_) (fun hc => ?_) <;> try (exfalso; omega)) | refine Cw.cond_bool rfl (fun hc => ?_) (fun hc => ?_)) | refine goR ?_ | refine goP ?_ | apply PSeq.cons | apply PSeq.yes rfl rfl rfl | exact goW | fail)
    rename_i b13
    refine Ops.ent (Ent.mk (env' := [(3, .ptr bs), (4, .stops l), (16, .ptr b), (88, .bool false), (89, .tour bl e w q), (90, .agg [.raw (.slice ad bl.length cap), .int e, .int w, .int q])]) (cs' := [Chunk.box b 38 [.raw (.slice ad bl.length cap), .int e, .int w, .int q], Chunk.own ad cap 1 3 (intRows bl), Chunk.strm 25 bs (intRows xs) (0 + 120 + 4 + 4 + 1 + 20), tab10]) goSub goTk) ?_
    exact tail.h bl e w q err ad cap b13 b (by omega)
  · rw [if_pos ht0] at kd
    generalize tripE ⟨hx, hy⟩ l st = err at *
    repeat' (first | refine goH ?_ | (refine Ops.k_b_neq ?_; first | (refine Ops.val' rfl (OpV.neq_f rfl rfl rfl) ?_)) | (refine Ops.k_b_eql ?_; first | (refine Ops.val' rfl (OpV.eql_f rfl rfl (by omega)) ?_)) | ((fail_if_success refine Ops.k_c_call ?_); refine goV ?_) | ((fail_if_success refine Ops.k_c_call ?_); refine goB (fun b => ?_)) | ((fail_if_success refine Ops.k_c_call ?_); refine goC (fun ad cap => ?_)) | refine goG ?_ | (refine Ops.k_guard ?_; first | (refine Ops.guard_dec rfl rfl (fun hc => ?_) (fun hc => ?_) <;> try (exfalso; omega)) | refine Ops.guard_split rfl rfl (fun hc => ?_) (fun hc => ?_)) | refine goI ?_ | (refine Cw.k_cond ?_; first | (refine Cw.cond_dec rfl (fun hc => ?_) (fun hc => ?_) <;> try (exfalso; omega)) | refine Cw.cond_bool rfl (fun hc => ?_) (fun hc => ?_)) | (refine Ops.k_calla ?_; first | (refine Ops.k_callf 12 ?_; refine Ops.callV kd (Evs.cons rfl (Evs.cons rfl (Evs.cons rfl (Evs.cons rfl Evs.nil)))) rfl ?_) | (refine Ops.k_callf 13 ?_; refine Ops.callV kr (Evs.cons rfl (Evs.cons rfl (Evs.cons rfl Evs.nil))) rfl ?_)) | (apply OpW.k_call; first | (apply OpW.k_callf 12; exact OpW.callV kd (Evs.cons rfl (Evs.cons rfl (Evs.cons rfl (Evs.cons rfl Evs.nil))))) | (apply OpW.k_callf 13; exact OpW.callV kr (Evs.cons rfl (Evs.cons rfl (Evs.cons rfl Evs.nil))))) | refine goR ?_ | refine goP ?_ | apply PSeq.cons | apply PSeq.yes rfl rfl rfl | exact goW | fail)
    rename_i b13
    refine Ops.ent (Ent.trans (Ent.nil 1 3) (Ent.mk (env' := [(3, .ptr bs), (4, .stops l), (16, .ptr b), (88, .bool false), (89, .tour [] 0 0 0), (90, .agg [.raw (.slice none 0 0), .int 0, .int 0, .int 0])]) (cs' := [Chunk.box b 38 [.raw (.slice none 0 0), .int 0, .int 0, .int 0], Chunk.own none 0 1 3 [], Chunk.strm 25 bs (intRows xs) (0 + 120 + 4 + 4 + 1 + 20), tab10]) goSub goTk)) ?_
    rw [← intRows_nil]
    exact tail.h [] 0 0 0 err none 0 b13 b (by simp)
  case tailp =>
    intro bl e w q err ad cap b13 b hbl
    clear kd kr
    have kT := tourO_fn bl e w q ad cap (by omega)
    have hL : (l.map Stop.row).length = l.length := List.length_map _
    repeat' (first | refine goH ?_ | refine goV ?_ | refine goB (fun b => ?_) | refine goC (fun ad cap => ?_) | refine goG ?_ | (refine Ops.k_guard ?_; first | (refine Ops.guard_dec rfl rfl (fun hc => ?_) (fun hc => ?_) <;> try (exfalso; omega)) | refine Ops.guard_split rfl rfl (fun hc => ?_) (fun hc => ?_)) | refine goI ?_ | (refine Cw.k_cond ?_; first | (refine Cw.cond_dec rfl (fun hc => ?_) (fun hc => ?_) <;> try (exfalso; omega)) | refine Cw.cond_bool rfl (fun hc => ?_) (fun hc => ?_)) | (refine Ops.k_calla ?_; first | (refine Ops.k_callf 15 ?_; refine Ops.callS kT (Evs.cons rfl (Evs.cons rfl Evs.nil)) goPm rfl ?_)) | (apply OpW.k_call; first | (apply OpW.k_callf 15; exact OpW.callS kT (Evs.cons rfl (Evs.cons rfl Evs.nil)) goPm)) | refine goR ?_ | refine goP ?_ | apply PSeq.cons | apply PSeq.yes rfl rfl rfl | exact goW | fail)
    clear kT
    refine Cw.loopI [(3, _), (4, _), (16, _), (99, _)] _ (fun z ee cc => ∃ (k n : Nat) (b2 : List Int) (ad : Option Addr) (cap c : Nat), z = l.length - k ∧ (k ≤ l.length ∧ b2.length = n ∧ (intRows b2).length = n ∧ n ≤ 100 + k ∧ c = 149 + k) ∧ ee = [(100, .int k)] ∧ cc = [Chunk.box b 38 [.raw (.slice ad n cap), .int e, .int w, .int q], Chunk.own ad cap 1 3 (intRows b2), Chunk.strm 25 bs (intRows xs) c]) ⟨_, _, _, (Ent.mkP goSub goPm), 0, bl.length, bl, ad, cap, 0 + 120 + 4 + 4 + 1 + 20, rfl, ⟨by omega, rfl, intRows_len bl, by omega, rfl⟩, rfl, rfl⟩ ?_
    rintro _ _ _ ⟨k, n, b2, ad2, cap2, c, rfl, ⟨hk, hb2, hr2, hn, hc⟩, rfl, rfl⟩
    by_cases hkl : (k : Int) < (l.map Stop.row).length - bl.length
    · repeat' (first | refine goH ?_ | refine goV ?_ | refine goB (fun b => ?_) | refine goC (fun ad cap => ?_) | refine goG ?_ | (refine Ops.k_guard ?_; first | (refine Ops.guard_dec rfl rfl (fun hc => ?_) (fun hc => ?_) <;> try (exfalso; omega)) | refine Ops.guard_split rfl rfl (fun hc => ?_) (fun hc => ?_)) | refine goI ?_ | (refine Cw.k_cond ?_; first | (refine Cw.cond_dec rfl (fun hc => ?_) (fun hc => ?_) <;> try (exfalso; omega)) | refine Cw.cond_bool rfl (fun hc => ?_) (fun hc => ?_)) | fail)
      first | refine Cw.region_YP (fun ξ S => Chunk.strm 25 bs (intRows xs) (c + b2n (S 4)) :: Chunk.box b 38 [stg (S 8) (Tr.raw (.slice ad2 n cap2)) (Tr.raw (.slice (vAd (ξ 6)) (n + 1) (vCap (ξ 6)))), .int e, .int w, .int q] :: stg (S 6) (Chunk.own ad2 cap2 1 3 (intRows b2)) (ownV (ξ 6) 1 3 (intRows b2 ++ [[.int (vInt (ξ 4))]])) :: tab10 :: []) rfl (by decide +kernel) rfl ((fun (ξ : Nat → Value) (S : Nat → Bool) => Chunk.strm 25 bs (intRows xs) (c + b2n (S 4)) :: Chunk.box b 38 [stg (S 8) (Tr.raw (.slice ad2 n cap2)) (Tr.raw (.slice (vAd (ξ 6)) (n + 1) (vCap (ξ 6)))), .int e, .int w, .int q] :: stg (S 6) (Chunk.own ad2 cap2 1 3 (intRows b2)) (ownV (ξ 6) 1 3 (intRows b2 ++ [[.int (vInt (ξ 4))]])) :: tab10 :: []) (fun _ => undef) (fun _ => false)) (by simp only [upd_same, updD_same, upd_ne, updD_ne, ne_eq, Nat.reduceEqDiff, not_false_eq_true, stg_t, stg_f, vAd_s, vCap_s, blk_p, List.cons_append, List.nil_append, b2n_t, b2n_f]; exact goXm) (fun _ => rfl) ?_ | fail
      apply YSeq.w (by intro _ _ _; rfl)
      · intro ξ S h1 h2 h3 h4
        have hN0_1 := closed_false h1 h3 (k := 1) rfl (by decide)
        have hN0_6 := closed_false hN0_1 h3 (k := 6) rfl (by decide)
        have hN0_8 := closed_false h1 h3 (k := 8) rfl (by decide)
        try simp only [upd_same, updD_same, upd_ne, updD_ne, ne_eq, Nat.reduceEqDiff, not_false_eq_true, stg_t, stg_f, vAd_s, vCap_s, blk_p, List.cons_append, List.nil_append, b2n_t, b2n_f, hN0_6, hN0_8]
        exact goW
      · intro ξ v; rfl
      · intro ξ k v S h3 hn hk
        first
        | rfl
      apply YSeq.w (by intro _ _ _; rfl)
      · intro ξ S h1 h2 h3 h4
        have hN1_6 := closed_false h1 h3 (k := 6) rfl (by decide)
        have hN1_8 := closed_false h1 h3 (k := 8) rfl (by decide)
        try simp only [upd_same, updD_same, upd_ne, updD_ne, ne_eq, Nat.reduceEqDiff, not_false_eq_true, stg_t, stg_f, vAd_s, vCap_s, blk_p, List.cons_append, List.nil_append, b2n_t, b2n_f, hN1_6, hN1_8]
        exact goW
      · intro ξ v; rfl
      · intro ξ k v S h3 hn hk
        first
        | rfl
      apply YSeq.w (by intro _ _ _; rfl)
      · intro ξ S h1 h2 h3 h4
        have hN2_4 := closed_false h1 h3 (k := 4) rfl (by decide)
        have hN2_6 := closed_false hN2_4 h3 (k := 6) rfl (by decide)
        have hN2_8 := closed_false h1 h3 (k := 8) rfl (by decide)
        try simp only [upd_same, updD_same, upd_ne, updD_ne, ne_eq, Nat.reduceEqDiff, not_false_eq_true, stg_t, stg_f, vAd_s, vCap_s, blk_p, List.cons_append, List.nil_append, b2n_t, b2n_f, hN2_4, hN2_6, hN2_8]
        exact goW
      · intro ξ v; rfl
      · intro ξ k v S h3 hn hk
        first
        | rfl
      apply YSeq.w (by intro _ _ _; rfl)
      · intro ξ S h1 h2 h3 h4
        have hN3_4 := closed_false h1 h3 (k := 4) rfl (by decide)
        have hN3_6 := closed_false hN3_4 h3 (k := 6) rfl (by decide)
        have hN3_8 := closed_false h1 h3 (k := 8) rfl (by decide)
        try simp only [upd_same, updD_same, upd_ne, updD_ne, ne_eq, Nat.reduceEqDiff, not_false_eq_true, stg_t, stg_f, vAd_s, vCap_s, blk_p, List.cons_append, List.nil_append, b2n_t, b2n_f, hN3_4, hN3_6, hN3_8]
        exact goW
      · intro ξ v; rfl
      · intro ξ k v S h3 hn hk
        first
        | rfl
      apply YSeq.callI (pick_gen (l := [0, 59, 1439, 14400, 14401, -1]) (by repeat' (first | exact IsInts.nil | apply IsInts.cons)) (by simp)) (fun _ => (Evs.cons rfl (Evs.cons rfl Evs.nil)))
      · intro ξ S h1 h3
        have hN4_6 := closed_false h1 h3 (k := 6) rfl (by decide)
        have hN4_8 := closed_false h1 h3 (k := 8) rfl (by decide)
        have hq4 := b2n_le (S 4)
        simp only [upd_same, updD_same, upd_ne, updD_ne, ne_eq, Nat.reduceEqDiff, not_false_eq_true, stg_t, stg_f, vAd_s, vCap_s, blk_p, List.cons_append, List.nil_append, b2n_t, b2n_f, h1, hN4_6, hN4_8]
        refine ⟨_, _, ?_, goXp, fun v => ?_⟩
        · omega
        · refine List.Perm.trans goXp (perm_strm ?_)
          omega
      apply YSeq.w (by intro _ _ _; rfl)
      · intro ξ S h1 h2 h3 h4
        have hY5_4 : S 4 = true := h2 4 (by decide)
        have hN5_6 := closed_false h1 h3 (k := 6) rfl (by decide)
        have hN5_8 := closed_false h1 h3 (k := 8) rfl (by decide)
        have hR106 := pf_int (pick_gen (l := [0, 59, 1439, 14400, 14401, -1]) (by repeat' (first | exact IsInts.nil | apply IsInts.cons)) (by simp)) (h4 4 hY5_4)
        try simp only [InRange] at hR106
        have hRn106 := hR106
        try simp only [Nat.zero_add, Nat.reduceAdd] at hRn106
        try simp only [upd_same, updD_same, upd_ne, updD_ne, ne_eq, Nat.reduceEqDiff, not_false_eq_true, stg_t, stg_f, vAd_s, vCap_s, blk_p, List.cons_append, List.nil_append, b2n_t, b2n_f, hY5_4, hN5_6, hN5_8]
        exact goW
      · intro ξ v; rfl
      · intro ξ k v S h3 hn hk
        first
        | rfl
        | skip
          have hY5_4 : S 4 = true := h3 5 _ rfl hn 4 (by decide)
          simp only [upd_S hY5_4 hk]
      apply YSeq.append (n + 1)
      · intro ξ S h1 h2 h3 h4
        have hY6_4 : S 4 = true := h2 4 (by decide)
        have hN6_8 := closed_false h1 h3 (k := 8) rfl (by decide)
        have hR106 := pf_int (pick_gen (l := [0, 59, 1439, 14400, 14401, -1]) (by repeat' (first | exact IsInts.nil | apply IsInts.cons)) (by simp)) (h4 4 hY6_4)
        try simp only [InRange] at hR106
        have hRn106 := hR106
        try simp only [Nat.zero_add, Nat.reduceAdd] at hRn106
        simp only [upd_same, updD_same, upd_ne, updD_ne, ne_eq, Nat.reduceEqDiff, not_false_eq_true, stg_t, stg_f, vAd_s, vCap_s, blk_p, List.cons_append, List.nil_append, b2n_t, b2n_f, hY6_4, h1, hN6_8]
        refine ⟨_, _, _, _, _, _, rfl, rfl, goXp, (by first | rfl | (simp; done) | omega), (by first | rfl | omega | (simp; done) | (simp; omega)), (by first | omega | (simp; done) | (simp; omega)), (by first | omega | (simp; done) | (simp; omega)), fun ad' cap' => ?_⟩
        exact goXm
      apply YSeq.w (by intro _ _ _; rfl)
      · intro ξ S h1 h2 h3 h4
        have hY7_4 : S 4 = true := h2 4 (by decide)
        have hY7_6 : S 6 = true := h2 6 (by decide)
        have hN7_8 := closed_false h1 h3 (k := 8) rfl (by decide)
        have hR106 := pf_int (pick_gen (l := [0, 59, 1439, 14400, 14401, -1]) (by repeat' (first | exact IsInts.nil | apply IsInts.cons)) (by simp)) (h4 4 hY7_4)
        try simp only [InRange] at hR106
        have hRn106 := hR106
        try simp only [Nat.zero_add, Nat.reduceAdd] at hRn106
        try simp only [upd_same, updD_same, upd_ne, updD_ne, ne_eq, Nat.reduceEqDiff, not_false_eq_true, stg_t, stg_f, vAd_s, vCap_s, blk_p, List.cons_append, List.nil_append, b2n_t, b2n_f, hY7_4, hY7_6, hN7_8]
        exact goW
      · intro ξ v; rfl
      · intro ξ k v S h3 hn hk
        first
        | rfl
        | skip
          have hY7_4 : S 4 = true := h3 7 _ rfl hn 4 (by decide)
          have hY7_6 : S 6 = true := h3 7 _ rfl hn 6 (by decide)
          simp only [upd_S hY7_4 hk, upd_S hY7_6 hk]
      apply YSeq.store
      · intro ξ S h1 h2 h3 h4
        have hY8_4 : S 4 = true := h2 4 (by decide)
        have hY8_6 : S 6 = true := h2 6 (by decide)
        have hR106 := pf_int (pick_gen (l := [0, 59, 1439, 14400, 14401, -1]) (by repeat' (first | exact IsInts.nil | apply IsInts.cons)) (by simp)) (h4 4 hY8_4)
        try simp only [InRange] at hR106
        have hRn106 := hR106
        try simp only [Nat.zero_add, Nat.reduceAdd] at hRn106
        simp only [upd_same, updD_same, upd_ne, updD_ne, ne_eq, Nat.reduceEqDiff, not_false_eq_true, stg_t, stg_f, vAd_s, vCap_s, blk_p, List.cons_append, List.nil_append, b2n_t, b2n_f, hY8_4, hY8_6, h1]
        refine ⟨_, _, _, _, _, _, _, rfl, rfl, inferInstance, goXp, rfl, Nat.le_of_ble_eq_true rfl, ?_⟩
        exact goXm
      refine YSeq.nil fun ξ hf => ?_
      have hR106 := pf_int (pick_gen (l := [0, 59, 1439, 14400, 14401, -1]) (by repeat' (first | exact IsInts.nil | apply IsInts.cons)) (by simp)) (hf 4)
      try simp only [InRange] at hR106
      refine ⟨[(3, _), (4, _), (16, _), (99, _), (100, _)], _, Ent.trans (Ent.eqc rfl (by first | (simp only [upd_same, updD_same, upd_ne, updD_ne, ne_eq, Nat.reduceEqDiff, not_false_eq_true, stg_t, stg_f, vAd_s, vCap_s, blk_p, List.cons_append, List.nil_append, b2n_t, b2n_f, ownV, slV, ptV] <;> rfl) | rfl)) (Ent.sub goSub), ?_⟩
      clear hf
      generalize vInt (ξ 4) = x106 at hR106 ⊢
      generalize vAd (ξ 6) = ad108
      generalize vCap (ξ 6) = cap108
      rw [intRows_snoc]
      repeat' (first | refine goH ?_ | refine goV ?_ | refine goB (fun b => ?_) | refine goC (fun ad cap => ?_) | refine goG ?_ | (refine Ops.k_guard ?_; first | (refine Ops.guard_dec rfl rfl (fun hc => ?_) (fun hc => ?_) <;> try (exfalso; omega)) | refine Ops.guard_split rfl rfl (fun hc => ?_) (fun hc => ?_)) | refine goI ?_ | (refine Cw.k_cond ?_; first | (refine Cw.cond_dec rfl (fun hc => ?_) (fun hc => ?_) <;> try (exfalso; omega)) | refine Cw.cond_bool rfl (fun hc => ?_) (fun hc => ?_)) | refine goR ?_ | refine goP ?_ | apply PSeq.cons | apply PSeq.yes rfl rfl rfl | exact goW | fail)
      exact ⟨_, _, _, (Ent.mk goSub goTk), ⟨k + 1, n + 1, b2 ++ [x106], _, _, c + 1, rfl, ⟨by omega, by simp [hb2], by rw [intRows_len]; simp [hb2], by omega, by omega⟩, rfl, rfl⟩, by omega⟩
    have kp := printD_fn l b2 e w q (by omega) (by omega)
    have kt := tourFault_fn l b2 e w q (by omega) (by omega)
    have kx := fun h => textR_fn l b2 e w q (by omega) h
    by_cases hE : tourE l b2 = 0
    · have kx2 := kx hE
      rw [if_pos hE, hE] at kp
      rw [hE] at kt
      clear kx
      generalize tourS l b2 ⟨#[]⟩ = txt at *
      repeat' (first | refine goH ?_ | ((fail_if_success refine Ops.k_load ?_); refine goV ?_) | ((fail_if_success refine Ops.k_load ?_); refine goB (fun b => ?_)) | ((fail_if_success refine Ops.k_load ?_); refine goC (fun ad cap => ?_)) | refine goG ?_ | (refine Ops.k_guard ?_; first | (refine Ops.guard_dec rfl rfl (fun hc => ?_) (fun hc => ?_) <;> try (exfalso; omega)) | refine Ops.guard_split rfl rfl (fun hc => ?_) (fun hc => ?_)) | refine goI ?_ | (refine Cw.k_cond ?_; first | (refine Cw.cond_dec rfl (fun hc => ?_) (fun hc => ?_) <;> try (exfalso; omega)) | refine Cw.cond_bool rfl (fun hc => ?_) (fun hc => ?_)) | refine goR ?_ | refine goP ?_ | apply PSeq.cons | apply PSeq.yes rfl rfl rfl | exact goW | fail)
      refine Ops.ent (Ent.settle_box (b := b) (i := 0) (ad := ad2) (kk := 1) (rows := intRows b2) (by exact Perm.cons' goPk (Perm.cons' goPk (List.Perm.refl _))) rfl hr2.symm rfl) ?_
      repeat' (first | refine goH ?_ | (refine Ops.k_b_eql ?_; first | (refine Ops.val' rfl (OpV.eql_t rfl rfl rfl) ?_) | (refine Ops.val' rfl (OpV.eqlS_t rfl rfl rfl) ?_)) | (refine Ops.k_b_neq ?_; first | (refine Ops.val' rfl (OpV.neq_f rfl rfl rfl) ?_)) | refine goV ?_ | refine goB (fun b => ?_) | refine goC (fun ad cap => ?_) | refine goG ?_ | (refine Ops.k_guard ?_; first | (refine Ops.guard_dec rfl rfl (fun hc => ?_) (fun hc => ?_) <;> try (exfalso; omega)) | refine Ops.guard_split rfl rfl (fun hc => ?_) (fun hc => ?_)) | refine goI ?_ | (refine Cw.k_cond ?_; first | (refine Cw.cond_dec rfl (fun hc => ?_) (fun hc => ?_) <;> try (exfalso; omega)) | refine Cw.cond_bool rfl (fun hc => ?_) (fun hc => ?_)) | (refine Ops.k_calla ?_; first | (refine Ops.k_callf 16 ?_; (refine Ops.call kp (Evs.cons rfl (Evs.cons rfl Evs.nil)) goPm rfl ?_; rintro r cs' ⟨rfl, rfl⟩)) | (refine Ops.k_callf 17 ?_; refine Ops.callV kt (Evs.cons rfl (Evs.cons rfl Evs.nil)) rfl ?_) | (refine Ops.k_callf 19 ?_; refine Ops.callV kx2 (Evs.cons rfl (Evs.cons rfl Evs.nil)) rfl ?_) | (refine Ops.k_callf 18 ?_; refine Ops.callV rounds_fn Evs.nil rfl ?_)) | (apply OpW.k_call; first | (apply OpW.k_callf 17; exact OpW.callV kt (Evs.cons rfl (Evs.cons rfl Evs.nil))) | (apply OpW.k_callf 19; exact OpW.callV kx2 (Evs.cons rfl (Evs.cons rfl Evs.nil))) | (apply OpW.k_callf 18; exact OpW.callV rounds_fn Evs.nil)) | refine goR ?_ | refine goP ?_ | apply PSeq.cons | apply PSeq.yes rfl rfl rfl | exact goW | fail)
      all_goals exact Fin.ret Ent.refl (Outs.one rfl rfl) rfl
    · rw [if_neg hE] at kp
      generalize tourE l b2 = te at *
      repeat' (first | refine goH ?_ | ((fail_if_success refine Ops.k_load ?_); refine goV ?_) | ((fail_if_success refine Ops.k_load ?_); refine goB (fun b => ?_)) | ((fail_if_success refine Ops.k_load ?_); refine goC (fun ad cap => ?_)) | refine goG ?_ | (refine Ops.k_guard ?_; first | (refine Ops.guard_dec rfl rfl (fun hc => ?_) (fun hc => ?_) <;> try (exfalso; omega)) | refine Ops.guard_split rfl rfl (fun hc => ?_) (fun hc => ?_)) | refine goI ?_ | (refine Cw.k_cond ?_; first | (refine Cw.cond_dec rfl (fun hc => ?_) (fun hc => ?_) <;> try (exfalso; omega)) | refine Cw.cond_bool rfl (fun hc => ?_) (fun hc => ?_)) | refine goR ?_ | refine goP ?_ | apply PSeq.cons | apply PSeq.yes rfl rfl rfl | exact goW | fail)
      refine Ops.ent (Ent.settle_box (b := b) (i := 0) (ad := ad2) (kk := 1) (rows := intRows b2) (by exact Perm.cons' goPk (Perm.cons' goPk (List.Perm.refl _))) rfl hr2.symm rfl) ?_
      repeat' (first | refine goH ?_ | (refine Ops.k_b_eql ?_; first | (refine Ops.val' rfl (OpV.eql_t rfl rfl rfl) ?_)) | (refine Ops.k_b_neq ?_; first | (refine Ops.val' rfl (OpV.neq_t rfl rfl (by omega)) ?_)) | refine goV ?_ | refine goB (fun b => ?_) | refine goC (fun ad cap => ?_) | refine goG ?_ | (refine Ops.k_guard ?_; first | (refine Ops.guard_dec rfl rfl (fun hc => ?_) (fun hc => ?_) <;> try (exfalso; omega)) | refine Ops.guard_split rfl rfl (fun hc => ?_) (fun hc => ?_)) | refine goI ?_ | (refine Cw.k_cond ?_; first | (refine Cw.cond_dec rfl (fun hc => ?_) (fun hc => ?_) <;> try (exfalso; omega)) | refine Cw.cond_bool rfl (fun hc => ?_) (fun hc => ?_)) | (refine Ops.k_calla ?_; first | (refine Ops.k_callf 16 ?_; (refine Ops.call kp (Evs.cons rfl (Evs.cons rfl Evs.nil)) goPm rfl ?_; rintro r cs' ⟨rfl, rfl⟩)) | (refine Ops.k_callf 17 ?_; refine Ops.callV kt (Evs.cons rfl (Evs.cons rfl Evs.nil)) rfl ?_) | (refine Ops.k_callf 18 ?_; refine Ops.callV rounds_fn Evs.nil rfl ?_)) | (apply OpW.k_call; first | (apply OpW.k_callf 17; exact OpW.callV kt (Evs.cons rfl (Evs.cons rfl Evs.nil))) | (apply OpW.k_callf 18; exact OpW.callV rounds_fn Evs.nil)) | refine goR ?_ | refine goP ?_ | apply PSeq.cons | apply PSeq.yes rfl rfl rfl | exact goW | fail)
      all_goals exact Fin.ret Ent.refl (Outs.one rfl rfl) rfl
end Lg
