/- A part of the proof of a law of this seat: it adds no condition. By an AI agent. -/
import Derived.Test.YtcojnmobcfpeeaaDoorSGen
set_option linter.all false
set_option maxRecDepth 100000
set_option maxHeartbeats 8000000
namespace Lg
open Go Go.Proofs

/-! ### configurations out of the stream -/
theorem slot_snoc (l : List SlotM) (d : SlotM) : l.map SlotM.row ++ [[.str d.key, .str d.prod, .int d.price, .int d.most, .int d.cnt]] = (l ++ [d]).map SlotM.row := by rw [List.map_append]; rfl
theorem config_gen : Gen Tryd.prog 25 4 [] 100 (fun r => ∃ (T : List Tube) (K : List Int) (L : List SlotM) (G : Int), r = .cfg T K L G ∧ T.length ≤ 10 ∧ K.length ≤ 10 ∧ L.length ≤ 10) := by
 unfold Gen
 intro bs xs N hN
 refine Spec.body Tryd.func4 rfl rfl (Tryd.ntmps4) rfl fun w0 own0 M => ?_
 repeat' (first | refine goH ?_ | ((fail_if_success refine Ops.k_buildSlice ?_); refine goV ?_) | ((fail_if_success refine Ops.k_buildSlice ?_); refine goB (fun b => ?_)) | ((fail_if_success refine Ops.k_buildSlice ?_); refine goC (fun ad cap => ?_)) | refine goG ?_ | (refine Ops.k_guard ?_; first | (refine Ops.guard_dec rfl rfl ?_ ?_ <;> intro hc <;> try omega) | refine Ops.guard_split rfl rfl ?_ ?_ <;> intro hc) | refine goI ?_ | (refine Cw.k_cond ?_; first | (refine Cw.cond_dec rfl ?_ ?_ <;> intro hc <;> try omega) | refine Cw.cond_bool rfl ?_ ?_ <;> intro hc) | (refine Ops.k_calla ?_; first | (refine Ops.k_callf 36 ?_; (refine Ops.callGO rightTubes_gen (Evs.cons rfl Evs.nil) goPk (by omega) rfl (fun ad cap rows hr => ?_); obtain ⟨l, hrows, hl⟩ := hr; have hrl : rows.length = l.length := (by rw [hrows]; simp)))) | refine goR ?_ | refine goP ?_ | apply PSeq.cons | apply PSeq.yes rfl rfl rfl | exact goW | fail)
 generalize b = b2 at *
 refine Ops.buildSlice_own (E := 3) (by exact Parts.cons rfl rfl rfl (by exact Parts.cons rfl rfl rfl (by exact Parts.cons rfl rfl rfl (by exact Parts.cons rfl rfl rfl (by exact Parts.cons rfl rfl rfl (by exact Parts.cons rfl rfl rfl (by exact Parts.nil))))))) goNt rfl rfl (fun aK cK => ?_)
 repeat' (first | refine goH ?_ | refine goV ?_ | refine goB (fun b => ?_) | refine goC (fun ad cap => ?_) | refine goG ?_ | (refine Ops.k_guard ?_; first | (refine Ops.guard_dec rfl rfl ?_ ?_ <;> intro hc <;> try omega) | refine Ops.guard_split rfl rfl ?_ ?_ <;> intro hc) | refine goI ?_ | (refine Cw.k_cond ?_; first | (refine Cw.cond_dec rfl ?_ ?_ <;> intro hc <;> try omega) | refine Cw.cond_bool rfl ?_ ?_ <;> intro hc) | (refine Ops.k_calla ?_; first | (refine Ops.k_callf 12 ?_; (refine Ops.callG (pick_gen (by repeat' (first | exact IsInts.nil | apply IsInts.cons)) (by simp)) (Evs.cons rfl (Evs.cons rfl Evs.nil)) goPk (by omega) rfl ?_; rintro r ⟨G, rfl, hG⟩; clear hG))) | fail)
 obtain ⟨A, hA, hAl⟩ : ∃ A : List ByteArray, A = [⟨#[97]⟩, ⟨#[98]⟩, ⟨#[99]⟩] ∧ A.length = 3 := ⟨_, rfl, rfl⟩
 have hAr : ([[Tr.raw (Value.string { data := #[97] })], [Tr.raw (Value.string { data := #[98] })], [Tr.raw (Value.string { data := #[99] })]] : List (List Tr)) = strRows A := by rw [hA]; rfl
 rw [hAr]
 have hAL := strRows_len A
 rw [hAl] at hAL
 clear hAr hA
 refine Cw.loopI [(0, _), (2, _), (3, _), (14, _), (15, _)] _ (fun q e cc => ∃ (k c n cL : Nat) (aL : Option Addr) (L : List SlotM) (rL : List (List Tr)), q = 3 - k ∧ (k ≤ 3 ∧ c ≤ N + 16 + 10 * k ∧ rL = L.map SlotM.row ∧ n = rL.length ∧ L.length ≤ k) ∧ e = [(16, .int k)] ∧ cc = [Chunk.box b 29 [Tr.raw (.slice ad rows.length cap), Tr.raw (.slice aK 6 cK), Tr.raw (.slice aL n cL), .int G], Chunk.own aL cL 5 63 rL, Chunk.strm 25 bs (intRows xs) c])
  ⟨_, _, _, Ent.trans (Ent.nil 5 63) (Ent.mkP goSub goPm), 0, _, 0, 0, none, [], [], rfl, ⟨by omega, by omega, rfl, rfl, by simp⟩, rfl, rfl⟩ ?_
 rintro _ _ _ ⟨k, c, n, cL, aL, L, rL, rfl, ⟨hk, hc, hrL, hn, hLk⟩, rfl, rfl⟩
 have hrL2 : rL.length ≤ k := by rw [hrL, List.length_map]; exact hLk
 have hK6 : (intRows [5, 10, 25, 50, 100, 200]).length = 6 := rfl
 by_cases hk3 : k < 3
 ·obtain ⟨ky, hky⟩ := at_lt (l := A) (k := k) (by omega)
  have hrow : (strRows A)[k]? = some [.str ky] := strRows_at hky
  have hK : ([[Tr.raw (Value.int IntKind.i64 5)], [Tr.raw (Value.int IntKind.i64 10)], [Tr.raw (Value.int IntKind.i64 25)], [Tr.raw (Value.int IntKind.i64 50)], [Tr.raw (Value.int IntKind.i64 100)], [Tr.raw (Value.int IntKind.i64 200)]] : List (List Tr)) = intRows [5, 10, 25, 50, 100, 200] := rfl
  by_cases hka : ky = ⟨#[97]⟩
  ·repeat' (first | refine goH ?_ | (refine Ops.k_b_eql ?_; first | (refine Ops.val' rfl (OpV.eqlS_t rfl rfl hka) ?_)) | refine goV ?_ | refine goB (fun b => ?_) | refine goC (fun ad cap => ?_) | refine goG ?_ | (refine Ops.k_guard ?_; first | (refine Ops.guard_dec rfl rfl ?_ ?_ <;> intro hc <;> try omega) | refine Ops.guard_split rfl rfl ?_ ?_ <;> intro hc) | refine goI ?_ | (refine Cw.k_cond ?_; first | (refine Cw.cond_dec rfl ?_ ?_ <;> intro hc <;> try omega) | refine Cw.cond_bool rfl ?_ ?_ <;> intro hc) | (refine Ops.k_calla ?_; first | (refine Ops.k_callf 20 ?_; (refine Ops.callG (flip_gen _ (by omega)) (Evs.cons rfl (Evs.cons rfl Evs.nil)) goPk (by omega) rfl ?_; rintro r ⟨v1, rfl⟩; cases v1)) | (refine Ops.k_callf 12 ?_; (refine Ops.callG (pick_gen (by repeat' (first | exact IsInts.nil | apply IsInts.cons)) (by simp)) (Evs.cons rfl (Evs.cons rfl Evs.nil)) goPk (by omega) rfl ?_; rintro r ⟨m, rfl, hm⟩; have hmb : 0 ≤ m ∧ m ≤ 5 := (by simp at hm; omega); clear hm))) | fail)
   rw [hK]
   first | refine Cw.region_YP (fun ξ S => Chunk.strm 25 bs (intRows xs) (c + 1 + b2n (S 5) + b2n (S 8) + b2n (S 13)) :: Chunk.box b 29 [Tr.raw (.slice ad rows.length cap), Tr.raw (.slice aK 6 cK), stg (S 18) (Tr.raw (.slice aL n cL)) (slV (ξ 16) (n + 1)), .int G] :: stg (S 16) (Chunk.own aL cL 5 63 rL) (ownV (ξ 16) 5 63 (rL ++ [[.str ky, .str (vStr (ξ 5)), .int (vInt (ξ 8)), .int m, .int (vInt (ξ 13))]])) :: Chunk.own aK cK 1 3 (intRows [5, 10, 25, 50, 100, 200]) :: Chunk.own ad cap 3 65 rows :: Chunk.box b2 29 (List.map Tr.raw [Value.slice none 0 0, Value.slice none 0 0, Value.slice none 0 0, Value.int IntKind.i64 0]) :: []) rfl (by decide +kernel) rfl ((fun (ξ : Nat → Value) (S : Nat → Bool) => Chunk.strm 25 bs (intRows xs) (c + 1 + b2n (S 5) + b2n (S 8) + b2n (S 13)) :: Chunk.box b 29 [Tr.raw (.slice ad rows.length cap), Tr.raw (.slice aK 6 cK), stg (S 18) (Tr.raw (.slice aL n cL)) (slV (ξ 16) (n + 1)), .int G] :: stg (S 16) (Chunk.own aL cL 5 63 rL) (ownV (ξ 16) 5 63 (rL ++ [[.str ky, .str (vStr (ξ 5)), .int (vInt (ξ 8)), .int m, .int (vInt (ξ 13))]])) :: Chunk.own aK cK 1 3 (intRows [5, 10, 25, 50, 100, 200]) :: Chunk.own ad cap 3 65 rows :: Chunk.box b2 29 (List.map Tr.raw [Value.slice none 0 0, Value.slice none 0 0, Value.slice none 0 0, Value.int IntKind.i64 0]) :: []) (fun _ => undef) (fun _ => false)) (by simp only [upd_same, updD_same, upd_ne, updD_ne, ne_eq, Nat.reduceEqDiff, not_false_eq_true, stg_t, stg_f, vAd_s, vCap_s, blk_p, List.cons_append, List.nil_append, b2n_t, b2n_f]; exact goXm) (fun _ => rfl) ?_ | fail
   apply YSeq.w (by intro _ _ _; rfl)
   ·intro ξ S h1 h2 h3 h4
    have hN0_1 := closed_false h1 h3 (k := 1) rfl (by decide)
    have hN0_16 := closed_false hN0_1 h3 (k := 16) rfl (by decide)
    have hN0_18 := closed_false h1 h3 (k := 18) rfl (by decide)
    try simp only [upd_same, updD_same, upd_ne, updD_ne, ne_eq, Nat.reduceEqDiff, not_false_eq_true, stg_t, stg_f, vAd_s, vCap_s, blk_p, List.cons_append, List.nil_append, b2n_t, b2n_f, hN0_16, hN0_18]
    exact goW
   ·intro ξ v; rfl
   ·intro ξ k v S h3 hn hk
    first
    |rfl
   apply YSeq.w (by intro _ _ _; rfl)
   ·intro ξ S h1 h2 h3 h4
    have hN1_16 := closed_false h1 h3 (k := 16) rfl (by decide)
    have hN1_18 := closed_false h1 h3 (k := 18) rfl (by decide)
    try simp only [upd_same, updD_same, upd_ne, updD_ne, ne_eq, Nat.reduceEqDiff, not_false_eq_true, stg_t, stg_f, vAd_s, vCap_s, blk_p, List.cons_append, List.nil_append, b2n_t, b2n_f, hN1_16, hN1_18]
    exact goW
   ·intro ξ v; rfl
   ·intro ξ k v S h3 hn hk
    first
    |rfl
   apply YSeq.w (by intro _ _ _; rfl)
   ·intro ξ S h1 h2 h3 h4
    have hN2_14 := closed_false h1 h3 (k := 14) rfl (by decide)
    have hN2_15 := closed_false hN2_14 h3 (k := 15) rfl (by decide)
    have hN2_16 := closed_false hN2_15 h3 (k := 16) rfl (by decide)
    have hN2_18 := closed_false h1 h3 (k := 18) rfl (by decide)
    try simp only [upd_same, updD_same, upd_ne, updD_ne, ne_eq, Nat.reduceEqDiff, not_false_eq_true, stg_t, stg_f, vAd_s, vCap_s, blk_p, List.cons_append, List.nil_append, b2n_t, b2n_f, hN2_16, hN2_18]
    exact goW
   ·intro ξ v; rfl
   ·intro ξ k v S h3 hn hk
    first
    |rfl
   apply YSeq.w (by intro _ _ _; rfl)
   ·intro ξ S h1 h2 h3 h4
    have hN3_5 := closed_false h1 h3 (k := 5) rfl (by decide)
    have hN3_8 := closed_false hN3_5 h3 (k := 8) rfl (by decide)
    have hN3_13 := closed_false hN3_8 h3 (k := 13) rfl (by decide)
    have hN3_16 := closed_false hN3_13 h3 (k := 16) rfl (by decide)
    have hN3_18 := closed_false h1 h3 (k := 18) rfl (by decide)
    try simp only [upd_same, updD_same, upd_ne, updD_ne, ne_eq, Nat.reduceEqDiff, not_false_eq_true, stg_t, stg_f, vAd_s, vCap_s, blk_p, List.cons_append, List.nil_append, b2n_t, b2n_f, hN3_5, hN3_8, hN3_13, hN3_16, hN3_18]
    exact goW
   ·intro ξ v; rfl
   ·intro ξ k v S h3 hn hk
    first
    |rfl
   apply YSeq.w (by intro _ _ _; rfl)
   ·intro ξ S h1 h2 h3 h4
    have hN4_5 := closed_false h1 h3 (k := 5) rfl (by decide)
    have hN4_8 := closed_false hN4_5 h3 (k := 8) rfl (by decide)
    have hN4_13 := closed_false hN4_8 h3 (k := 13) rfl (by decide)
    have hN4_16 := closed_false hN4_13 h3 (k := 16) rfl (by decide)
    have hN4_18 := closed_false h1 h3 (k := 18) rfl (by decide)
    try simp only [upd_same, updD_same, upd_ne, updD_ne, ne_eq, Nat.reduceEqDiff, not_false_eq_true, stg_t, stg_f, vAd_s, vCap_s, blk_p, List.cons_append, List.nil_append, b2n_t, b2n_f, hN4_5, hN4_8, hN4_13, hN4_16, hN4_18]
    exact goW
   ·intro ξ v; rfl
   ·intro ξ k v S h3 hn hk
    first
    |rfl
   apply YSeq.callS (one_gen (l := [⟨#[99, 97, 110]⟩, ⟨#[98, 97, 114]⟩]) (by repeat' (first | exact IsStrs.nil | apply IsStrs.cons)) (by simp)) (fun _ => (Evs.cons rfl (Evs.cons rfl Evs.nil)))
   ·intro ξ S h1 h3
    have hN5_8 := closed_false h1 h3 (k := 8) rfl (by decide)
    have hN5_13 := closed_false hN5_8 h3 (k := 13) rfl (by decide)
    have hN5_16 := closed_false hN5_13 h3 (k := 16) rfl (by decide)
    have hN5_18 := closed_false h1 h3 (k := 18) rfl (by decide)
    have hq5 := b2n_le (S 5)
    have hq8 := b2n_le (S 8)
    have hq13 := b2n_le (S 13)
    simp only [upd_same, updD_same, upd_ne, updD_ne, ne_eq, Nat.reduceEqDiff, not_false_eq_true, stg_t, stg_f, vAd_s, vCap_s, blk_p, List.cons_append, List.nil_append, b2n_t, b2n_f, h1, hN5_8, hN5_13, hN5_16, hN5_18]
    refine ⟨_, _, ?_, goXp, fun v => ?_⟩
    ·omega
    ·refine List.Perm.trans goXp (perm_strm ?_)
     omega
   apply YSeq.w (by intro _ _ _; rfl)
   ·intro ξ S h1 h2 h3 h4
    have hN6_8 := closed_false h1 h3 (k := 8) rfl (by decide)
    have hN6_13 := closed_false hN6_8 h3 (k := 13) rfl (by decide)
    have hN6_16 := closed_false hN6_13 h3 (k := 16) rfl (by decide)
    have hN6_18 := closed_false h1 h3 (k := 18) rfl (by decide)
    try simp only [upd_same, updD_same, upd_ne, updD_ne, ne_eq, Nat.reduceEqDiff, not_false_eq_true, stg_t, stg_f, vAd_s, vCap_s, blk_p, List.cons_append, List.nil_append, b2n_t, b2n_f, hN6_8, hN6_13, hN6_16, hN6_18]
    exact goW
   ·intro ξ v; rfl
   ·intro ξ k v S h3 hn hk
    first
    |rfl
   apply YSeq.w (by intro _ _ _; rfl)
   ·intro ξ S h1 h2 h3 h4
    have hN7_8 := closed_false h1 h3 (k := 8) rfl (by decide)
    have hN7_13 := closed_false hN7_8 h3 (k := 13) rfl (by decide)
    have hN7_16 := closed_false hN7_13 h3 (k := 16) rfl (by decide)
    have hN7_18 := closed_false h1 h3 (k := 18) rfl (by decide)
    try simp only [upd_same, updD_same, upd_ne, updD_ne, ne_eq, Nat.reduceEqDiff, not_false_eq_true, stg_t, stg_f, vAd_s, vCap_s, blk_p, List.cons_append, List.nil_append, b2n_t, b2n_f, hN7_8, hN7_13, hN7_16, hN7_18]
    exact goW
   ·intro ξ v; rfl
   ·intro ξ k v S h3 hn hk
    first
    |rfl
   apply YSeq.callI (pick_gen (l := [15, 35, 50, 80, 95]) (by repeat' (first | exact IsInts.nil | apply IsInts.cons)) (by simp)) (fun _ => (Evs.cons rfl (Evs.cons rfl Evs.nil)))
   ·intro ξ S h1 h3
    have hN8_13 := closed_false h1 h3 (k := 13) rfl (by decide)
    have hN8_16 := closed_false hN8_13 h3 (k := 16) rfl (by decide)
    have hN8_18 := closed_false h1 h3 (k := 18) rfl (by decide)
    have hq5 := b2n_le (S 5)
    have hq8 := b2n_le (S 8)
    have hq13 := b2n_le (S 13)
    simp only [upd_same, updD_same, upd_ne, updD_ne, ne_eq, Nat.reduceEqDiff, not_false_eq_true, stg_t, stg_f, vAd_s, vCap_s, blk_p, List.cons_append, List.nil_append, b2n_t, b2n_f, h1, hN8_13, hN8_16, hN8_18]
    refine ⟨_, _, ?_, goXp, fun v => ?_⟩
    ·omega
    ·refine List.Perm.trans goXp (perm_strm ?_)
     omega
   apply YSeq.w (by intro _ _ _; rfl)
   ·intro ξ S h1 h2 h3 h4
    have hN9_14 := closed_false h1 h3 (k := 14) rfl (by decide)
    have hN9_15 := closed_false hN9_14 h3 (k := 15) rfl (by decide)
    have hN9_16 := closed_false hN9_15 h3 (k := 16) rfl (by decide)
    have hN9_18 := closed_false h1 h3 (k := 18) rfl (by decide)
    try simp only [upd_same, updD_same, upd_ne, updD_ne, ne_eq, Nat.reduceEqDiff, not_false_eq_true, stg_t, stg_f, vAd_s, vCap_s, blk_p, List.cons_append, List.nil_append, b2n_t, b2n_f, hN9_16, hN9_18]
    exact goW
   ·intro ξ v; rfl
   ·intro ξ k v S h3 hn hk
    first
    |rfl
   apply YSeq.w (by intro _ _ _; rfl)
   ·intro ξ S h1 h2 h3 h4
    have hN10_13 := closed_false h1 h3 (k := 13) rfl (by decide)
    have hN10_16 := closed_false hN10_13 h3 (k := 16) rfl (by decide)
    have hN10_18 := closed_false h1 h3 (k := 18) rfl (by decide)
    try simp only [upd_same, updD_same, upd_ne, updD_ne, ne_eq, Nat.reduceEqDiff, not_false_eq_true, stg_t, stg_f, vAd_s, vCap_s, blk_p, List.cons_append, List.nil_append, b2n_t, b2n_f, hN10_13, hN10_16, hN10_18]
    exact goW
   ·intro ξ v; rfl
   ·intro ξ k v S h3 hn hk
    first
    |rfl
   apply YSeq.w (by intro _ _ _; rfl)
   ·intro ξ S h1 h2 h3 h4
    have hN11_12 := closed_false h1 h3 (k := 12) rfl (by decide)
    have hN11_13 := closed_false hN11_12 h3 (k := 13) rfl (by decide)
    have hN11_16 := closed_false hN11_13 h3 (k := 16) rfl (by decide)
    have hN11_18 := closed_false h1 h3 (k := 18) rfl (by decide)
    try simp only [upd_same, updD_same, upd_ne, updD_ne, ne_eq, Nat.reduceEqDiff, not_false_eq_true, stg_t, stg_f, vAd_s, vCap_s, blk_p, List.cons_append, List.nil_append, b2n_t, b2n_f, hN11_13, hN11_16, hN11_18]
    exact goW
   ·intro ξ v; rfl
   ·intro ξ k v S h3 hn hk
    first
    |rfl
   apply YSeq.w (by intro _ _ _; rfl)
   ·intro ξ S h1 h2 h3 h4
    have hN12_13 := closed_false h1 h3 (k := 13) rfl (by decide)
    have hN12_16 := closed_false hN12_13 h3 (k := 16) rfl (by decide)
    have hN12_18 := closed_false h1 h3 (k := 18) rfl (by decide)
    try simp only [upd_same, updD_same, upd_ne, updD_ne, ne_eq, Nat.reduceEqDiff, not_false_eq_true, stg_t, stg_f, vAd_s, vCap_s, blk_p, List.cons_append, List.nil_append, b2n_t, b2n_f, hN12_13, hN12_16, hN12_18]
    exact goW
   ·intro ξ v; rfl
   ·intro ξ k v S h3 hn hk
    first
    |rfl
   apply YSeq.callI (next_gen (m + 1) (by omega)) (fun _ => (Evs.cons rfl (Evs.cons rfl Evs.nil)))
   ·intro ξ S h1 h3
    have hN13_16 := closed_false h1 h3 (k := 16) rfl (by decide)
    have hN13_18 := closed_false h1 h3 (k := 18) rfl (by decide)
    have hq5 := b2n_le (S 5)
    have hq8 := b2n_le (S 8)
    have hq13 := b2n_le (S 13)
    simp only [upd_same, updD_same, upd_ne, updD_ne, ne_eq, Nat.reduceEqDiff, not_false_eq_true, stg_t, stg_f, vAd_s, vCap_s, blk_p, List.cons_append, List.nil_append, b2n_t, b2n_f, h1, hN13_16, hN13_18]
    refine ⟨_, _, ?_, goXp, fun v => ?_⟩
    ·omega
    ·refine List.Perm.trans goXp (perm_strm ?_)
     omega
   apply YSeq.w (by intro _ _ _; rfl)
   ·intro ξ S h1 h2 h3 h4
    have hY14_5 : S 5 = true := h2 5 (by decide)
    have hY14_8 : S 8 = true := h2 8 (by decide)
    have hY14_13 : S 13 = true := h2 13 (by decide)
    have hN14_15 := closed_false h1 h3 (k := 15) rfl (by decide)
    have hN14_16 := closed_false hN14_15 h3 (k := 16) rfl (by decide)
    have hN14_18 := closed_false h1 h3 (k := 18) rfl (by decide)
    have hR34 := pf_str (one_gen (l := [⟨#[99, 97, 110]⟩, ⟨#[98, 97, 114]⟩]) (by repeat' (first | exact IsStrs.nil | apply IsStrs.cons)) (by simp)) (h4 5 hY14_5)
    try simp only [InRange] at hR34
    have hRn34 := hR34
    try simp only [Nat.zero_add, Nat.reduceAdd] at hRn34
    have hR37 := pf_int (pick_gen (l := [15, 35, 50, 80, 95]) (by repeat' (first | exact IsInts.nil | apply IsInts.cons)) (by simp)) (h4 8 hY14_8)
    try simp only [InRange] at hR37
    have hRn37 := hR37
    try simp only [Nat.zero_add, Nat.reduceAdd] at hRn37
    have hR42 := pf_int (next_gen (m + 1) (by omega)) (h4 13 hY14_13)
    try simp only [InRange] at hR42
    have hRn42 := hR42
    try simp only [Nat.zero_add, Nat.reduceAdd] at hRn42
    try simp only [upd_same, updD_same, upd_ne, updD_ne, ne_eq, Nat.reduceEqDiff, not_false_eq_true, stg_t, stg_f, vAd_s, vCap_s, blk_p, List.cons_append, List.nil_append, b2n_t, b2n_f, hY14_5, hY14_8, hY14_13, hN14_16, hN14_18]
    exact goW
   ·intro ξ v; rfl
   ·intro ξ k v S h3 hn hk
    first
    |rfl
    |skip
     have hY14_5 : S 5 = true := h3 14 _ rfl hn 5 (by decide)
     have hY14_8 : S 8 = true := h3 14 _ rfl hn 8 (by decide)
     have hY14_13 : S 13 = true := h3 14 _ rfl hn 13 (by decide)
     simp only [upd_S hY14_5 hk, upd_S hY14_8 hk, upd_S hY14_13 hk]
   apply YSeq.w (by intro _ _ _; rfl)
   ·intro ξ S h1 h2 h3 h4
    have hY15_14 : S 14 = true := h2 14 (by decide)
    have hY15_5 : S 5 = true := h3 14 _ rfl hY15_14 5 (by decide)
    have hY15_8 : S 8 = true := h3 14 _ rfl hY15_14 8 (by decide)
    have hY15_13 : S 13 = true := h3 14 _ rfl hY15_14 13 (by decide)
    have hN15_16 := closed_false h1 h3 (k := 16) rfl (by decide)
    have hN15_18 := closed_false h1 h3 (k := 18) rfl (by decide)
    have hR34 := pf_str (one_gen (l := [⟨#[99, 97, 110]⟩, ⟨#[98, 97, 114]⟩]) (by repeat' (first | exact IsStrs.nil | apply IsStrs.cons)) (by simp)) (h4 5 hY15_5)
    try simp only [InRange] at hR34
    have hRn34 := hR34
    try simp only [Nat.zero_add, Nat.reduceAdd] at hRn34
    have hR37 := pf_int (pick_gen (l := [15, 35, 50, 80, 95]) (by repeat' (first | exact IsInts.nil | apply IsInts.cons)) (by simp)) (h4 8 hY15_8)
    try simp only [InRange] at hR37
    have hRn37 := hR37
    try simp only [Nat.zero_add, Nat.reduceAdd] at hRn37
    have hR42 := pf_int (next_gen (m + 1) (by omega)) (h4 13 hY15_13)
    try simp only [InRange] at hR42
    have hRn42 := hR42
    try simp only [Nat.zero_add, Nat.reduceAdd] at hRn42
    try simp only [upd_same, updD_same, upd_ne, updD_ne, ne_eq, Nat.reduceEqDiff, not_false_eq_true, stg_t, stg_f, vAd_s, vCap_s, blk_p, List.cons_append, List.nil_append, b2n_t, b2n_f, hY15_5, hY15_8, hY15_13, hN15_16, hN15_18]
    exact goW
   ·intro ξ v; rfl
   ·intro ξ k v S h3 hn hk
    first
    |rfl
    |skip
     have hY15_14 : S 14 = true := h3 15 _ rfl hn 14 (by decide)
     have hY15_5 : S 5 = true := h3 14 _ rfl hY15_14 5 (by decide)
     have hY15_8 : S 8 = true := h3 14 _ rfl hY15_14 8 (by decide)
     have hY15_13 : S 13 = true := h3 14 _ rfl hY15_14 13 (by decide)
     simp only [upd_S hY15_5 hk, upd_S hY15_8 hk, upd_S hY15_13 hk]
   apply YSeq.append ((n + 1))
   ·intro ξ S h1 h2 h3 h4
    have hY16_13 : S 13 = true := h2 13 (by decide)
    have hY16_8 : S 8 = true := h3 13 _ rfl hY16_13 8 (by decide)
    have hY16_5 : S 5 = true := h3 8 _ rfl hY16_8 5 (by decide)
    have hN16_18 := closed_false h1 h3 (k := 18) rfl (by decide)
    have hR34 := pf_str (one_gen (l := [⟨#[99, 97, 110]⟩, ⟨#[98, 97, 114]⟩]) (by repeat' (first | exact IsStrs.nil | apply IsStrs.cons)) (by simp)) (h4 5 hY16_5)
    try simp only [InRange] at hR34
    have hRn34 := hR34
    try simp only [Nat.zero_add, Nat.reduceAdd] at hRn34
    have hR37 := pf_int (pick_gen (l := [15, 35, 50, 80, 95]) (by repeat' (first | exact IsInts.nil | apply IsInts.cons)) (by simp)) (h4 8 hY16_8)
    try simp only [InRange] at hR37
    have hRn37 := hR37
    try simp only [Nat.zero_add, Nat.reduceAdd] at hRn37
    have hR42 := pf_int (next_gen (m + 1) (by omega)) (h4 13 hY16_13)
    try simp only [InRange] at hR42
    have hRn42 := hR42
    try simp only [Nat.zero_add, Nat.reduceAdd] at hRn42
    simp only [upd_same, updD_same, upd_ne, updD_ne, ne_eq, Nat.reduceEqDiff, not_false_eq_true, stg_t, stg_f, vAd_s, vCap_s, blk_p, List.cons_append, List.nil_append, b2n_t, b2n_f, hY16_5, hY16_8, hY16_13, h1, hN16_18]
    refine ⟨_, _, _, _, _, _, rfl, rfl, goXp, (by first | rfl | (simp; done) | omega), (by first | rfl | omega | (simp; done) | (simp; omega)), (by first | omega | (simp; done) | (simp; omega)), (by first | omega | (simp; done) | (simp; omega)), fun ad' cap' => ?_⟩
    exact goXm
   apply YSeq.w (by intro _ _ _; rfl)
   ·intro ξ S h1 h2 h3 h4
    have hY17_5 : S 5 = true := h2 5 (by decide)
    have hY17_8 : S 8 = true := h2 8 (by decide)
    have hY17_13 : S 13 = true := h2 13 (by decide)
    have hY17_16 : S 16 = true := h2 16 (by decide)
    have hN17_18 := closed_false h1 h3 (k := 18) rfl (by decide)
    have hR34 := pf_str (one_gen (l := [⟨#[99, 97, 110]⟩, ⟨#[98, 97, 114]⟩]) (by repeat' (first | exact IsStrs.nil | apply IsStrs.cons)) (by simp)) (h4 5 hY17_5)
    try simp only [InRange] at hR34
    have hRn34 := hR34
    try simp only [Nat.zero_add, Nat.reduceAdd] at hRn34
    have hR37 := pf_int (pick_gen (l := [15, 35, 50, 80, 95]) (by repeat' (first | exact IsInts.nil | apply IsInts.cons)) (by simp)) (h4 8 hY17_8)
    try simp only [InRange] at hR37
    have hRn37 := hR37
    try simp only [Nat.zero_add, Nat.reduceAdd] at hRn37
    have hR42 := pf_int (next_gen (m + 1) (by omega)) (h4 13 hY17_13)
    try simp only [InRange] at hR42
    have hRn42 := hR42
    try simp only [Nat.zero_add, Nat.reduceAdd] at hRn42
    try simp only [upd_same, updD_same, upd_ne, updD_ne, ne_eq, Nat.reduceEqDiff, not_false_eq_true, stg_t, stg_f, vAd_s, vCap_s, blk_p, List.cons_append, List.nil_append, b2n_t, b2n_f, hY17_5, hY17_8, hY17_13, hY17_16, hN17_18]
    exact goW
   ·intro ξ v; rfl
   ·intro ξ k v S h3 hn hk
    first
    |rfl
    |skip
     have hY17_5 : S 5 = true := h3 17 _ rfl hn 5 (by decide)
     have hY17_8 : S 8 = true := h3 17 _ rfl hn 8 (by decide)
     have hY17_13 : S 13 = true := h3 17 _ rfl hn 13 (by decide)
     have hY17_16 : S 16 = true := h3 17 _ rfl hn 16 (by decide)
     simp only [upd_S hY17_5 hk, upd_S hY17_8 hk, upd_S hY17_13 hk, upd_S hY17_16 hk]
   apply YSeq.store
   ·intro ξ S h1 h2 h3 h4
    have hY18_5 : S 5 = true := h2 5 (by decide)
    have hY18_8 : S 8 = true := h2 8 (by decide)
    have hY18_13 : S 13 = true := h2 13 (by decide)
    have hY18_16 : S 16 = true := h2 16 (by decide)
    have hR34 := pf_str (one_gen (l := [⟨#[99, 97, 110]⟩, ⟨#[98, 97, 114]⟩]) (by repeat' (first | exact IsStrs.nil | apply IsStrs.cons)) (by simp)) (h4 5 hY18_5)
    try simp only [InRange] at hR34
    have hRn34 := hR34
    try simp only [Nat.zero_add, Nat.reduceAdd] at hRn34
    have hR37 := pf_int (pick_gen (l := [15, 35, 50, 80, 95]) (by repeat' (first | exact IsInts.nil | apply IsInts.cons)) (by simp)) (h4 8 hY18_8)
    try simp only [InRange] at hR37
    have hRn37 := hR37
    try simp only [Nat.zero_add, Nat.reduceAdd] at hRn37
    have hR42 := pf_int (next_gen (m + 1) (by omega)) (h4 13 hY18_13)
    try simp only [InRange] at hR42
    have hRn42 := hR42
    try simp only [Nat.zero_add, Nat.reduceAdd] at hRn42
    simp only [upd_same, updD_same, upd_ne, updD_ne, ne_eq, Nat.reduceEqDiff, not_false_eq_true, stg_t, stg_f, vAd_s, vCap_s, blk_p, List.cons_append, List.nil_append, b2n_t, b2n_f, hY18_5, hY18_8, hY18_13, hY18_16, h1]
    refine ⟨_, _, _, _, _, _, _, rfl, rfl, inferInstance, goXp, rfl, Nat.le_of_ble_eq_true rfl, ?_⟩
    exact goXm
   refine YSeq.nil fun ξ hf => ?_
   have hR34 := pf_str (one_gen (l := [⟨#[99, 97, 110]⟩, ⟨#[98, 97, 114]⟩]) (by repeat' (first | exact IsStrs.nil | apply IsStrs.cons)) (by simp)) (hf 5)
   try simp only [InRange] at hR34
   have hR37 := pf_int (pick_gen (l := [15, 35, 50, 80, 95]) (by repeat' (first | exact IsInts.nil | apply IsInts.cons)) (by simp)) (hf 8)
   try simp only [InRange] at hR37
   have hR42 := pf_int (next_gen (m + 1) (by omega)) (hf 13)
   try simp only [InRange] at hR42
   refine ⟨[(0, _), (2, _), (3, _), (14, _), (15, _), (16, _)], _, Ent.trans (Ent.eqc rfl (by first | (simp only [upd_same, updD_same, upd_ne, updD_ne, ne_eq, Nat.reduceEqDiff, not_false_eq_true, stg_t, stg_f, vAd_s, vCap_s, blk_p, List.cons_append, List.nil_append, b2n_t, b2n_f, ownV, slV, ptV] <;> rfl) | rfl)) (Ent.sub goSub), ?_⟩
   clear hf
   generalize vStr (ξ 5) = x34 at hR34 ⊢
   generalize vInt (ξ 8) = x37 at hR37 ⊢
   generalize vInt (ξ 13) = x42 at hR42 ⊢
   generalize vAd (ξ 16) = ad45
   generalize vCap (ξ 16) = cap45
   repeat (first | refine InB.norm ?_ | refine Then.norm ?_)
   repeat' (first | refine goH ?_ | refine goV ?_ | refine goB (fun b => ?_) | refine goC (fun ad cap => ?_) | refine goG ?_ | (refine Ops.k_guard ?_; first | (refine Ops.guard_dec rfl rfl ?_ ?_ <;> intro hc <;> try omega) | refine Ops.guard_split rfl rfl ?_ ?_ <;> intro hc) | refine goI ?_ | (refine Cw.k_cond ?_; first | (refine Cw.cond_dec rfl ?_ ?_ <;> intro hc <;> try omega) | refine Cw.cond_bool rfl ?_ ?_ <;> intro hc) | refine goR ?_ | refine goP ?_ | apply PSeq.cons | apply PSeq.yes rfl rfl rfl | exact goW | fail)
   have hsn := slot_snoc L ⟨ky, x34, x37, m, x42⟩
   rw [← hrL] at hsn
   exact ⟨_, _, _, (Ent.mk goSub goTk), ⟨k + 1, _, _, _, _, _, _, rfl, ⟨by omega, by omega, hsn, by rw [List.length_append, ← hn]; rfl, by rw [List.length_append]; simp; omega⟩, rfl, rfl⟩, by omega⟩
  ·repeat' (first | refine goH ?_ | (refine Ops.k_b_eql ?_; first | (refine Ops.val' rfl (OpV.eqlS_f rfl rfl hka) ?_)) | refine goV ?_ | refine goB (fun b => ?_) | refine goC (fun ad cap => ?_) | refine goG ?_ | (refine Ops.k_guard ?_; first | (refine Ops.guard_dec rfl rfl ?_ ?_ <;> intro hc <;> try omega) | refine Ops.guard_split rfl rfl ?_ ?_ <;> intro hc) | refine goI ?_ | (refine Cw.k_cond ?_; first | (refine Cw.cond_dec rfl ?_ ?_ <;> intro hc <;> try omega) | refine Cw.cond_bool rfl ?_ ?_ <;> intro hc) | (refine Ops.k_calla ?_; first | (refine Ops.k_callf 20 ?_; (refine Ops.callG (flip_gen _ (by omega)) (Evs.cons rfl (Evs.cons rfl Evs.nil)) goPk (by omega) rfl ?_; rintro r ⟨v1, rfl⟩; cases v1)) | (refine Ops.k_callf 12 ?_; (refine Ops.callG (pick_gen (by repeat' (first | exact IsInts.nil | apply IsInts.cons)) (by simp)) (Evs.cons rfl (Evs.cons rfl Evs.nil)) goPk (by omega) rfl ?_; rintro r ⟨m, rfl, hm⟩; have hmb : 0 ≤ m ∧ m ≤ 5 := (by simp at hm; omega); clear hm))) | fail)
   ·exact ⟨_, _, _, (Ent.mk goSub goTk), ⟨k + 1, _, _, _, _, _, _, rfl, ⟨by omega, by omega, hrL, hn, by omega⟩, rfl, rfl⟩, by omega⟩
   ·rw [hK]
    first | refine Cw.region_YP (fun ξ S => Chunk.strm 25 bs (intRows xs) (c + 1 + 1 + b2n (S 5) + b2n (S 8) + b2n (S 13)) :: Chunk.box b 29 [Tr.raw (.slice ad rows.length cap), Tr.raw (.slice aK 6 cK), stg (S 18) (Tr.raw (.slice aL n cL)) (slV (ξ 16) (n + 1)), .int G] :: stg (S 16) (Chunk.own aL cL 5 63 rL) (ownV (ξ 16) 5 63 (rL ++ [[.str ky, .str (vStr (ξ 5)), .int (vInt (ξ 8)), .int m, .int (vInt (ξ 13))]])) :: Chunk.own aK cK 1 3 (intRows [5, 10, 25, 50, 100, 200]) :: Chunk.own ad cap 3 65 rows :: Chunk.box b2 29 (List.map Tr.raw [Value.slice none 0 0, Value.slice none 0 0, Value.slice none 0 0, Value.int IntKind.i64 0]) :: []) rfl (by decide +kernel) rfl ((fun (ξ : Nat → Value) (S : Nat → Bool) => Chunk.strm 25 bs (intRows xs) (c + 1 + 1 + b2n (S 5) + b2n (S 8) + b2n (S 13)) :: Chunk.box b 29 [Tr.raw (.slice ad rows.length cap), Tr.raw (.slice aK 6 cK), stg (S 18) (Tr.raw (.slice aL n cL)) (slV (ξ 16) (n + 1)), .int G] :: stg (S 16) (Chunk.own aL cL 5 63 rL) (ownV (ξ 16) 5 63 (rL ++ [[.str ky, .str (vStr (ξ 5)), .int (vInt (ξ 8)), .int m, .int (vInt (ξ 13))]])) :: Chunk.own aK cK 1 3 (intRows [5, 10, 25, 50, 100, 200]) :: Chunk.own ad cap 3 65 rows :: Chunk.box b2 29 (List.map Tr.raw [Value.slice none 0 0, Value.slice none 0 0, Value.slice none 0 0, Value.int IntKind.i64 0]) :: []) (fun _ => undef) (fun _ => false)) (by simp only [upd_same, updD_same, upd_ne, updD_ne, ne_eq, Nat.reduceEqDiff, not_false_eq_true, stg_t, stg_f, vAd_s, vCap_s, blk_p, List.cons_append, List.nil_append, b2n_t, b2n_f]; exact goXm) (fun _ => rfl) ?_ | fail
    apply YSeq.w (by intro _ _ _; rfl)
    ·intro ξ S h1 h2 h3 h4
     have hN0_1 := closed_false h1 h3 (k := 1) rfl (by decide)
     have hN0_16 := closed_false hN0_1 h3 (k := 16) rfl (by decide)
     have hN0_18 := closed_false h1 h3 (k := 18) rfl (by decide)
     try simp only [upd_same, updD_same, upd_ne, updD_ne, ne_eq, Nat.reduceEqDiff, not_false_eq_true, stg_t, stg_f, vAd_s, vCap_s, blk_p, List.cons_append, List.nil_append, b2n_t, b2n_f, hN0_16, hN0_18]
     exact goW
    ·intro ξ v; rfl
    ·intro ξ k v S h3 hn hk
     first
     |rfl
    apply YSeq.w (by intro _ _ _; rfl)
    ·intro ξ S h1 h2 h3 h4
     have hN1_16 := closed_false h1 h3 (k := 16) rfl (by decide)
     have hN1_18 := closed_false h1 h3 (k := 18) rfl (by decide)
     try simp only [upd_same, updD_same, upd_ne, updD_ne, ne_eq, Nat.reduceEqDiff, not_false_eq_true, stg_t, stg_f, vAd_s, vCap_s, blk_p, List.cons_append, List.nil_append, b2n_t, b2n_f, hN1_16, hN1_18]
     exact goW
    ·intro ξ v; rfl
    ·intro ξ k v S h3 hn hk
     first
     |rfl
    apply YSeq.w (by intro _ _ _; rfl)
    ·intro ξ S h1 h2 h3 h4
     have hN2_14 := closed_false h1 h3 (k := 14) rfl (by decide)
     have hN2_15 := closed_false hN2_14 h3 (k := 15) rfl (by decide)
     have hN2_16 := closed_false hN2_15 h3 (k := 16) rfl (by decide)
     have hN2_18 := closed_false h1 h3 (k := 18) rfl (by decide)
     try simp only [upd_same, updD_same, upd_ne, updD_ne, ne_eq, Nat.reduceEqDiff, not_false_eq_true, stg_t, stg_f, vAd_s, vCap_s, blk_p, List.cons_append, List.nil_append, b2n_t, b2n_f, hN2_16, hN2_18]
     exact goW
    ·intro ξ v; rfl
    ·intro ξ k v S h3 hn hk
     first
     |rfl
    apply YSeq.w (by intro _ _ _; rfl)
    ·intro ξ S h1 h2 h3 h4
     have hN3_5 := closed_false h1 h3 (k := 5) rfl (by decide)
     have hN3_8 := closed_false hN3_5 h3 (k := 8) rfl (by decide)
     have hN3_13 := closed_false hN3_8 h3 (k := 13) rfl (by decide)
     have hN3_16 := closed_false hN3_13 h3 (k := 16) rfl (by decide)
     have hN3_18 := closed_false h1 h3 (k := 18) rfl (by decide)
     try simp only [upd_same, updD_same, upd_ne, updD_ne, ne_eq, Nat.reduceEqDiff, not_false_eq_true, stg_t, stg_f, vAd_s, vCap_s, blk_p, List.cons_append, List.nil_append, b2n_t, b2n_f, hN3_5, hN3_8, hN3_13, hN3_16, hN3_18]
     exact goW
    ·intro ξ v; rfl
    ·intro ξ k v S h3 hn hk
     first
     |rfl
    apply YSeq.w (by intro _ _ _; rfl)
    ·intro ξ S h1 h2 h3 h4
     have hN4_5 := closed_false h1 h3 (k := 5) rfl (by decide)
     have hN4_8 := closed_false hN4_5 h3 (k := 8) rfl (by decide)
     have hN4_13 := closed_false hN4_8 h3 (k := 13) rfl (by decide)
     have hN4_16 := closed_false hN4_13 h3 (k := 16) rfl (by decide)
     have hN4_18 := closed_false h1 h3 (k := 18) rfl (by decide)
     try simp only [upd_same, updD_same, upd_ne, updD_ne, ne_eq, Nat.reduceEqDiff, not_false_eq_true, stg_t, stg_f, vAd_s, vCap_s, blk_p, List.cons_append, List.nil_append, b2n_t, b2n_f, hN4_5, hN4_8, hN4_13, hN4_16, hN4_18]
     exact goW
    ·intro ξ v; rfl
    ·intro ξ k v S h3 hn hk
     first
     |rfl
    apply YSeq.callS (one_gen (l := [⟨#[99, 97, 110]⟩, ⟨#[98, 97, 114]⟩]) (by repeat' (first | exact IsStrs.nil | apply IsStrs.cons)) (by simp)) (fun _ => (Evs.cons rfl (Evs.cons rfl Evs.nil)))
    ·intro ξ S h1 h3
     have hN5_8 := closed_false h1 h3 (k := 8) rfl (by decide)
     have hN5_13 := closed_false hN5_8 h3 (k := 13) rfl (by decide)
     have hN5_16 := closed_false hN5_13 h3 (k := 16) rfl (by decide)
     have hN5_18 := closed_false h1 h3 (k := 18) rfl (by decide)
     have hq5 := b2n_le (S 5)
     have hq8 := b2n_le (S 8)
     have hq13 := b2n_le (S 13)
     simp only [upd_same, updD_same, upd_ne, updD_ne, ne_eq, Nat.reduceEqDiff, not_false_eq_true, stg_t, stg_f, vAd_s, vCap_s, blk_p, List.cons_append, List.nil_append, b2n_t, b2n_f, h1, hN5_8, hN5_13, hN5_16, hN5_18]
     refine ⟨_, _, ?_, goXp, fun v => ?_⟩
     ·omega
     ·refine List.Perm.trans goXp (perm_strm ?_)
      omega
    apply YSeq.w (by intro _ _ _; rfl)
    ·intro ξ S h1 h2 h3 h4
     have hN6_8 := closed_false h1 h3 (k := 8) rfl (by decide)
     have hN6_13 := closed_false hN6_8 h3 (k := 13) rfl (by decide)
     have hN6_16 := closed_false hN6_13 h3 (k := 16) rfl (by decide)
     have hN6_18 := closed_false h1 h3 (k := 18) rfl (by decide)
     try simp only [upd_same, updD_same, upd_ne, updD_ne, ne_eq, Nat.reduceEqDiff, not_false_eq_true, stg_t, stg_f, vAd_s, vCap_s, blk_p, List.cons_append, List.nil_append, b2n_t, b2n_f, hN6_8, hN6_13, hN6_16, hN6_18]
     exact goW
    ·intro ξ v; rfl
    ·intro ξ k v S h3 hn hk
     first
     |rfl
    apply YSeq.w (by intro _ _ _; rfl)
    ·intro ξ S h1 h2 h3 h4
     have hN7_8 := closed_false h1 h3 (k := 8) rfl (by decide)
     have hN7_13 := closed_false hN7_8 h3 (k := 13) rfl (by decide)
     have hN7_16 := closed_false hN7_13 h3 (k := 16) rfl (by decide)
     have hN7_18 := closed_false h1 h3 (k := 18) rfl (by decide)
     try simp only [upd_same, updD_same, upd_ne, updD_ne, ne_eq, Nat.reduceEqDiff, not_false_eq_true, stg_t, stg_f, vAd_s, vCap_s, blk_p, List.cons_append, List.nil_append, b2n_t, b2n_f, hN7_8, hN7_13, hN7_16, hN7_18]
     exact goW
    ·intro ξ v; rfl
    ·intro ξ k v S h3 hn hk
     first
     |rfl
    apply YSeq.callI (pick_gen (l := [15, 35, 50, 80, 95]) (by repeat' (first | exact IsInts.nil | apply IsInts.cons)) (by simp)) (fun _ => (Evs.cons rfl (Evs.cons rfl Evs.nil)))
    ·intro ξ S h1 h3
     have hN8_13 := closed_false h1 h3 (k := 13) rfl (by decide)
     have hN8_16 := closed_false hN8_13 h3 (k := 16) rfl (by decide)
     have hN8_18 := closed_false h1 h3 (k := 18) rfl (by decide)
     have hq5 := b2n_le (S 5)
     have hq8 := b2n_le (S 8)
     have hq13 := b2n_le (S 13)
     simp only [upd_same, updD_same, upd_ne, updD_ne, ne_eq, Nat.reduceEqDiff, not_false_eq_true, stg_t, stg_f, vAd_s, vCap_s, blk_p, List.cons_append, List.nil_append, b2n_t, b2n_f, h1, hN8_13, hN8_16, hN8_18]
     refine ⟨_, _, ?_, goXp, fun v => ?_⟩
     ·omega
     ·refine List.Perm.trans goXp (perm_strm ?_)
      omega
    apply YSeq.w (by intro _ _ _; rfl)
    ·intro ξ S h1 h2 h3 h4
     have hN9_14 := closed_false h1 h3 (k := 14) rfl (by decide)
     have hN9_15 := closed_false hN9_14 h3 (k := 15) rfl (by decide)
     have hN9_16 := closed_false hN9_15 h3 (k := 16) rfl (by decide)
     have hN9_18 := closed_false h1 h3 (k := 18) rfl (by decide)
     try simp only [upd_same, updD_same, upd_ne, updD_ne, ne_eq, Nat.reduceEqDiff, not_false_eq_true, stg_t, stg_f, vAd_s, vCap_s, blk_p, List.cons_append, List.nil_append, b2n_t, b2n_f, hN9_16, hN9_18]
     exact goW
    ·intro ξ v; rfl
    ·intro ξ k v S h3 hn hk
     first
     |rfl
    apply YSeq.w (by intro _ _ _; rfl)
    ·intro ξ S h1 h2 h3 h4
     have hN10_13 := closed_false h1 h3 (k := 13) rfl (by decide)
     have hN10_16 := closed_false hN10_13 h3 (k := 16) rfl (by decide)
     have hN10_18 := closed_false h1 h3 (k := 18) rfl (by decide)
     try simp only [upd_same, updD_same, upd_ne, updD_ne, ne_eq, Nat.reduceEqDiff, not_false_eq_true, stg_t, stg_f, vAd_s, vCap_s, blk_p, List.cons_append, List.nil_append, b2n_t, b2n_f, hN10_13, hN10_16, hN10_18]
     exact goW
    ·intro ξ v; rfl
    ·intro ξ k v S h3 hn hk
     first
     |rfl
    apply YSeq.w (by intro _ _ _; rfl)
    ·intro ξ S h1 h2 h3 h4
     have hN11_12 := closed_false h1 h3 (k := 12) rfl (by decide)
     have hN11_13 := closed_false hN11_12 h3 (k := 13) rfl (by decide)
     have hN11_16 := closed_false hN11_13 h3 (k := 16) rfl (by decide)
     have hN11_18 := closed_false h1 h3 (k := 18) rfl (by decide)
     try simp only [upd_same, updD_same, upd_ne, updD_ne, ne_eq, Nat.reduceEqDiff, not_false_eq_true, stg_t, stg_f, vAd_s, vCap_s, blk_p, List.cons_append, List.nil_append, b2n_t, b2n_f, hN11_13, hN11_16, hN11_18]
     exact goW
    ·intro ξ v; rfl
    ·intro ξ k v S h3 hn hk
     first
     |rfl
    apply YSeq.w (by intro _ _ _; rfl)
    ·intro ξ S h1 h2 h3 h4
     have hN12_13 := closed_false h1 h3 (k := 13) rfl (by decide)
     have hN12_16 := closed_false hN12_13 h3 (k := 16) rfl (by decide)
     have hN12_18 := closed_false h1 h3 (k := 18) rfl (by decide)
     try simp only [upd_same, updD_same, upd_ne, updD_ne, ne_eq, Nat.reduceEqDiff, not_false_eq_true, stg_t, stg_f, vAd_s, vCap_s, blk_p, List.cons_append, List.nil_append, b2n_t, b2n_f, hN12_13, hN12_16, hN12_18]
     exact goW
    ·intro ξ v; rfl
    ·intro ξ k v S h3 hn hk
     first
     |rfl
    apply YSeq.callI (next_gen (m + 1) (by omega)) (fun _ => (Evs.cons rfl (Evs.cons rfl Evs.nil)))
    ·intro ξ S h1 h3
     have hN13_16 := closed_false h1 h3 (k := 16) rfl (by decide)
     have hN13_18 := closed_false h1 h3 (k := 18) rfl (by decide)
     have hq5 := b2n_le (S 5)
     have hq8 := b2n_le (S 8)
     have hq13 := b2n_le (S 13)
     simp only [upd_same, updD_same, upd_ne, updD_ne, ne_eq, Nat.reduceEqDiff, not_false_eq_true, stg_t, stg_f, vAd_s, vCap_s, blk_p, List.cons_append, List.nil_append, b2n_t, b2n_f, h1, hN13_16, hN13_18]
     refine ⟨_, _, ?_, goXp, fun v => ?_⟩
     ·omega
     ·refine List.Perm.trans goXp (perm_strm ?_)
      omega
    apply YSeq.w (by intro _ _ _; rfl)
    ·intro ξ S h1 h2 h3 h4
     have hY14_5 : S 5 = true := h2 5 (by decide)
     have hY14_8 : S 8 = true := h2 8 (by decide)
     have hY14_13 : S 13 = true := h2 13 (by decide)
     have hN14_15 := closed_false h1 h3 (k := 15) rfl (by decide)
     have hN14_16 := closed_false hN14_15 h3 (k := 16) rfl (by decide)
     have hN14_18 := closed_false h1 h3 (k := 18) rfl (by decide)
     have hR34 := pf_str (one_gen (l := [⟨#[99, 97, 110]⟩, ⟨#[98, 97, 114]⟩]) (by repeat' (first | exact IsStrs.nil | apply IsStrs.cons)) (by simp)) (h4 5 hY14_5)
     try simp only [InRange] at hR34
     have hRn34 := hR34
     try simp only [Nat.zero_add, Nat.reduceAdd] at hRn34
     have hR37 := pf_int (pick_gen (l := [15, 35, 50, 80, 95]) (by repeat' (first | exact IsInts.nil | apply IsInts.cons)) (by simp)) (h4 8 hY14_8)
     try simp only [InRange] at hR37
     have hRn37 := hR37
     try simp only [Nat.zero_add, Nat.reduceAdd] at hRn37
     have hR42 := pf_int (next_gen (m + 1) (by omega)) (h4 13 hY14_13)
     try simp only [InRange] at hR42
     have hRn42 := hR42
     try simp only [Nat.zero_add, Nat.reduceAdd] at hRn42
     try simp only [upd_same, updD_same, upd_ne, updD_ne, ne_eq, Nat.reduceEqDiff, not_false_eq_true, stg_t, stg_f, vAd_s, vCap_s, blk_p, List.cons_append, List.nil_append, b2n_t, b2n_f, hY14_5, hY14_8, hY14_13, hN14_16, hN14_18]
     exact goW
    ·intro ξ v; rfl
    ·intro ξ k v S h3 hn hk
     first
     |rfl
     |skip
      have hY14_5 : S 5 = true := h3 14 _ rfl hn 5 (by decide)
      have hY14_8 : S 8 = true := h3 14 _ rfl hn 8 (by decide)
      have hY14_13 : S 13 = true := h3 14 _ rfl hn 13 (by decide)
      simp only [upd_S hY14_5 hk, upd_S hY14_8 hk, upd_S hY14_13 hk]
    apply YSeq.w (by intro _ _ _; rfl)
    ·intro ξ S h1 h2 h3 h4
     have hY15_14 : S 14 = true := h2 14 (by decide)
     have hY15_5 : S 5 = true := h3 14 _ rfl hY15_14 5 (by decide)
     have hY15_8 : S 8 = true := h3 14 _ rfl hY15_14 8 (by decide)
     have hY15_13 : S 13 = true := h3 14 _ rfl hY15_14 13 (by decide)
     have hN15_16 := closed_false h1 h3 (k := 16) rfl (by decide)
     have hN15_18 := closed_false h1 h3 (k := 18) rfl (by decide)
     have hR34 := pf_str (one_gen (l := [⟨#[99, 97, 110]⟩, ⟨#[98, 97, 114]⟩]) (by repeat' (first | exact IsStrs.nil | apply IsStrs.cons)) (by simp)) (h4 5 hY15_5)
     try simp only [InRange] at hR34
     have hRn34 := hR34
     try simp only [Nat.zero_add, Nat.reduceAdd] at hRn34
     have hR37 := pf_int (pick_gen (l := [15, 35, 50, 80, 95]) (by repeat' (first | exact IsInts.nil | apply IsInts.cons)) (by simp)) (h4 8 hY15_8)
     try simp only [InRange] at hR37
     have hRn37 := hR37
     try simp only [Nat.zero_add, Nat.reduceAdd] at hRn37
     have hR42 := pf_int (next_gen (m + 1) (by omega)) (h4 13 hY15_13)
     try simp only [InRange] at hR42
     have hRn42 := hR42
     try simp only [Nat.zero_add, Nat.reduceAdd] at hRn42
     try simp only [upd_same, updD_same, upd_ne, updD_ne, ne_eq, Nat.reduceEqDiff, not_false_eq_true, stg_t, stg_f, vAd_s, vCap_s, blk_p, List.cons_append, List.nil_append, b2n_t, b2n_f, hY15_5, hY15_8, hY15_13, hN15_16, hN15_18]
     exact goW
    ·intro ξ v; rfl
    ·intro ξ k v S h3 hn hk
     first
     |rfl
     |skip
      have hY15_14 : S 14 = true := h3 15 _ rfl hn 14 (by decide)
      have hY15_5 : S 5 = true := h3 14 _ rfl hY15_14 5 (by decide)
      have hY15_8 : S 8 = true := h3 14 _ rfl hY15_14 8 (by decide)
      have hY15_13 : S 13 = true := h3 14 _ rfl hY15_14 13 (by decide)
      simp only [upd_S hY15_5 hk, upd_S hY15_8 hk, upd_S hY15_13 hk]
    apply YSeq.append ((n + 1))
    ·intro ξ S h1 h2 h3 h4
     have hY16_13 : S 13 = true := h2 13 (by decide)
     have hY16_8 : S 8 = true := h3 13 _ rfl hY16_13 8 (by decide)
     have hY16_5 : S 5 = true := h3 8 _ rfl hY16_8 5 (by decide)
     have hN16_18 := closed_false h1 h3 (k := 18) rfl (by decide)
     have hR34 := pf_str (one_gen (l := [⟨#[99, 97, 110]⟩, ⟨#[98, 97, 114]⟩]) (by repeat' (first | exact IsStrs.nil | apply IsStrs.cons)) (by simp)) (h4 5 hY16_5)
     try simp only [InRange] at hR34
     have hRn34 := hR34
     try simp only [Nat.zero_add, Nat.reduceAdd] at hRn34
     have hR37 := pf_int (pick_gen (l := [15, 35, 50, 80, 95]) (by repeat' (first | exact IsInts.nil | apply IsInts.cons)) (by simp)) (h4 8 hY16_8)
     try simp only [InRange] at hR37
     have hRn37 := hR37
     try simp only [Nat.zero_add, Nat.reduceAdd] at hRn37
     have hR42 := pf_int (next_gen (m + 1) (by omega)) (h4 13 hY16_13)
     try simp only [InRange] at hR42
     have hRn42 := hR42
     try simp only [Nat.zero_add, Nat.reduceAdd] at hRn42
     simp only [upd_same, updD_same, upd_ne, updD_ne, ne_eq, Nat.reduceEqDiff, not_false_eq_true, stg_t, stg_f, vAd_s, vCap_s, blk_p, List.cons_append, List.nil_append, b2n_t, b2n_f, hY16_5, hY16_8, hY16_13, h1, hN16_18]
     refine ⟨_, _, _, _, _, _, rfl, rfl, goXp, (by first | rfl | (simp; done) | omega), (by first | rfl | omega | (simp; done) | (simp; omega)), (by first | omega | (simp; done) | (simp; omega)), (by first | omega | (simp; done) | (simp; omega)), fun ad' cap' => ?_⟩
     exact goXm
    apply YSeq.w (by intro _ _ _; rfl)
    ·intro ξ S h1 h2 h3 h4
     have hY17_5 : S 5 = true := h2 5 (by decide)
     have hY17_8 : S 8 = true := h2 8 (by decide)
     have hY17_13 : S 13 = true := h2 13 (by decide)
     have hY17_16 : S 16 = true := h2 16 (by decide)
     have hN17_18 := closed_false h1 h3 (k := 18) rfl (by decide)
     have hR34 := pf_str (one_gen (l := [⟨#[99, 97, 110]⟩, ⟨#[98, 97, 114]⟩]) (by repeat' (first | exact IsStrs.nil | apply IsStrs.cons)) (by simp)) (h4 5 hY17_5)
     try simp only [InRange] at hR34
     have hRn34 := hR34
     try simp only [Nat.zero_add, Nat.reduceAdd] at hRn34
     have hR37 := pf_int (pick_gen (l := [15, 35, 50, 80, 95]) (by repeat' (first | exact IsInts.nil | apply IsInts.cons)) (by simp)) (h4 8 hY17_8)
     try simp only [InRange] at hR37
     have hRn37 := hR37
     try simp only [Nat.zero_add, Nat.reduceAdd] at hRn37
     have hR42 := pf_int (next_gen (m + 1) (by omega)) (h4 13 hY17_13)
     try simp only [InRange] at hR42
     have hRn42 := hR42
     try simp only [Nat.zero_add, Nat.reduceAdd] at hRn42
     try simp only [upd_same, updD_same, upd_ne, updD_ne, ne_eq, Nat.reduceEqDiff, not_false_eq_true, stg_t, stg_f, vAd_s, vCap_s, blk_p, List.cons_append, List.nil_append, b2n_t, b2n_f, hY17_5, hY17_8, hY17_13, hY17_16, hN17_18]
     exact goW
    ·intro ξ v; rfl
    ·intro ξ k v S h3 hn hk
     first
     |rfl
     |skip
      have hY17_5 : S 5 = true := h3 17 _ rfl hn 5 (by decide)
      have hY17_8 : S 8 = true := h3 17 _ rfl hn 8 (by decide)
      have hY17_13 : S 13 = true := h3 17 _ rfl hn 13 (by decide)
      have hY17_16 : S 16 = true := h3 17 _ rfl hn 16 (by decide)
      simp only [upd_S hY17_5 hk, upd_S hY17_8 hk, upd_S hY17_13 hk, upd_S hY17_16 hk]
    apply YSeq.store
    ·intro ξ S h1 h2 h3 h4
     have hY18_5 : S 5 = true := h2 5 (by decide)
     have hY18_8 : S 8 = true := h2 8 (by decide)
     have hY18_13 : S 13 = true := h2 13 (by decide)
     have hY18_16 : S 16 = true := h2 16 (by decide)
     have hR34 := pf_str (one_gen (l := [⟨#[99, 97, 110]⟩, ⟨#[98, 97, 114]⟩]) (by repeat' (first | exact IsStrs.nil | apply IsStrs.cons)) (by simp)) (h4 5 hY18_5)
     try simp only [InRange] at hR34
     have hRn34 := hR34
     try simp only [Nat.zero_add, Nat.reduceAdd] at hRn34
     have hR37 := pf_int (pick_gen (l := [15, 35, 50, 80, 95]) (by repeat' (first | exact IsInts.nil | apply IsInts.cons)) (by simp)) (h4 8 hY18_8)
     try simp only [InRange] at hR37
     have hRn37 := hR37
     try simp only [Nat.zero_add, Nat.reduceAdd] at hRn37
     have hR42 := pf_int (next_gen (m + 1) (by omega)) (h4 13 hY18_13)
     try simp only [InRange] at hR42
     have hRn42 := hR42
     try simp only [Nat.zero_add, Nat.reduceAdd] at hRn42
     simp only [upd_same, updD_same, upd_ne, updD_ne, ne_eq, Nat.reduceEqDiff, not_false_eq_true, stg_t, stg_f, vAd_s, vCap_s, blk_p, List.cons_append, List.nil_append, b2n_t, b2n_f, hY18_5, hY18_8, hY18_13, hY18_16, h1]
     refine ⟨_, _, _, _, _, _, _, rfl, rfl, inferInstance, goXp, rfl, Nat.le_of_ble_eq_true rfl, ?_⟩
     exact goXm
    refine YSeq.nil fun ξ hf => ?_
    have hR34 := pf_str (one_gen (l := [⟨#[99, 97, 110]⟩, ⟨#[98, 97, 114]⟩]) (by repeat' (first | exact IsStrs.nil | apply IsStrs.cons)) (by simp)) (hf 5)
    try simp only [InRange] at hR34
    have hR37 := pf_int (pick_gen (l := [15, 35, 50, 80, 95]) (by repeat' (first | exact IsInts.nil | apply IsInts.cons)) (by simp)) (hf 8)
    try simp only [InRange] at hR37
    have hR42 := pf_int (next_gen (m + 1) (by omega)) (hf 13)
    try simp only [InRange] at hR42
    refine ⟨[(0, _), (2, _), (3, _), (14, _), (15, _), (16, _)], _, Ent.trans (Ent.eqc rfl (by first | (simp only [upd_same, updD_same, upd_ne, updD_ne, ne_eq, Nat.reduceEqDiff, not_false_eq_true, stg_t, stg_f, vAd_s, vCap_s, blk_p, List.cons_append, List.nil_append, b2n_t, b2n_f, ownV, slV, ptV] <;> rfl) | rfl)) (Ent.sub goSub), ?_⟩
    clear hf
    generalize vStr (ξ 5) = x34 at hR34 ⊢
    generalize vInt (ξ 8) = x37 at hR37 ⊢
    generalize vInt (ξ 13) = x42 at hR42 ⊢
    generalize vAd (ξ 16) = ad45
    generalize vCap (ξ 16) = cap45
    repeat (first | refine InB.norm ?_ | refine Then.norm ?_)
    repeat' (first | refine goH ?_ | refine goV ?_ | refine goB (fun b => ?_) | refine goC (fun ad cap => ?_) | refine goG ?_ | (refine Ops.k_guard ?_; first | (refine Ops.guard_dec rfl rfl ?_ ?_ <;> intro hc <;> try omega) | refine Ops.guard_split rfl rfl ?_ ?_ <;> intro hc) | refine goI ?_ | (refine Cw.k_cond ?_; first | (refine Cw.cond_dec rfl ?_ ?_ <;> intro hc <;> try omega) | refine Cw.cond_bool rfl ?_ ?_ <;> intro hc) | refine goR ?_ | refine goP ?_ | apply PSeq.cons | apply PSeq.yes rfl rfl rfl | exact goW | fail)
    have hsn := slot_snoc L ⟨ky, x34, x37, m, x42⟩
    rw [← hrL] at hsn
    exact ⟨_, _, _, (Ent.mk goSub goTk), ⟨k + 1, _, _, _, _, _, _, rfl, ⟨by omega, by omega, hsn, by rw [List.length_append, ← hn]; rfl, by rw [List.length_append]; simp; omega⟩, rfl, rfl⟩, by omega⟩
 ·have hK : ([[Tr.raw (Value.int IntKind.i64 5)], [Tr.raw (Value.int IntKind.i64 10)], [Tr.raw (Value.int IntKind.i64 25)], [Tr.raw (Value.int IntKind.i64 50)], [Tr.raw (Value.int IntKind.i64 100)], [Tr.raw (Value.int IntKind.i64 200)]] : List (List Tr)) = intRows [5, 10, 25, 50, 100, 200] := rfl
  rw [hK]
  repeat' (first | refine goH ?_ | ((fail_if_success refine Ops.k_load ?_); refine goV ?_) | ((fail_if_success refine Ops.k_load ?_); refine goB (fun b => ?_)) | ((fail_if_success refine Ops.k_load ?_); refine goC (fun ad cap => ?_)) | refine goG ?_ | (refine Ops.k_guard ?_; first | (refine Ops.guard_dec rfl rfl ?_ ?_ <;> intro hc <;> try omega) | refine Ops.guard_split rfl rfl ?_ ?_ <;> intro hc) | refine goI ?_ | (refine Cw.k_cond ?_; first | (refine Cw.cond_dec rfl ?_ ?_ <;> intro hc <;> try omega) | refine Cw.cond_bool rfl ?_ ?_ <;> intro hc) | (refine Ops.k_calla ?_; first | (refine Ops.k_callf 20 ?_; (refine Ops.callG (flip_gen _ (by omega)) (Evs.cons rfl (Evs.cons rfl Evs.nil)) goPk (by omega) rfl ?_; rintro r ⟨v1, rfl⟩; cases v1)) | (refine Ops.k_callf 10 ?_; (refine Ops.callG (next_gen _ (by omega)) (Evs.cons rfl (Evs.cons rfl Evs.nil)) goPk (by omega) rfl ?_; rintro r ⟨v, rfl, hv⟩; unfold InRange at hv; have hv6 : v = 0 ∨ v = 1 ∨ v = 2 ∨ v = 3 ∨ v = 4 ∨ v = 5 := (by omega); clear hv; rcases hv6 with rfl | rfl | rfl | rfl | rfl | rfl)) | (refine Ops.k_callf 12 ?_; (refine Ops.callG (pick_gen (by repeat' (first | exact IsInts.nil | apply IsInts.cons)) (by simp)) (Evs.cons rfl (Evs.cons rfl Evs.nil)) goPk (by omega) rfl ?_; rintro r ⟨G2, rfl, hG2⟩; clear hG2))) | fail)
  ·refine Ops.ent (Ent.settle_box (b := b) (i := 0) (kk := 3) (rows := rows) (ts' := [.tubes l, Tr.raw (.slice aK 6 cK), Tr.raw (.slice aL n cL), .int G]) (by exact Perm.cons' goPk (Perm.cons' goPk (List.Perm.refl _))) rfl rfl (by rw [hrows]; rfl)) ?_
   refine Ops.ent (Ent.settle_box (b := b) (i := 1) (kk := 1) (rows := (intRows [5, 10, 25, 50, 100, 200])) (ts' := [.tubes l, .ints [5, 10, 25, 50, 100, 200], Tr.raw (.slice aL n cL), .int G]) (by exact Perm.cons' goPk (Perm.cons' goPk (List.Perm.refl _))) rfl rfl rfl) ?_
   refine Ops.ent (Ent.settle_box (b := b) (i := 2) (kk := 5) (rows := rL) (ts' := [.tubes l, .ints [5, 10, 25, 50, 100, 200], .slots L, .int G]) (by exact Perm.cons' goPk (Perm.cons' goPk (List.Perm.refl _))) rfl hn (by rw [hrL]; rfl)) ?_
   repeat' (first | refine goH ?_ | refine goV ?_ | refine goB (fun b => ?_) | refine goC (fun ad cap => ?_) | refine goG ?_ | (refine Ops.k_guard ?_; first | (refine Ops.guard_dec rfl rfl ?_ ?_ <;> intro hc <;> try omega) | refine Ops.guard_split rfl rfl ?_ ?_ <;> intro hc) | refine goI ?_ | (refine Cw.k_cond ?_; first | (refine Cw.cond_dec rfl ?_ ?_ <;> intro hc <;> try omega) | refine Cw.cond_bool rfl ?_ ?_ <;> intro hc) | refine goR ?_ | refine goP ?_ | apply PSeq.cons | apply PSeq.yes rfl rfl rfl | exact goW | fail)
   exact Fin.ret (Ent.trans (Ent.setbox (s := 2) rfl goPk) (Ent.strm_only goPk (by omega))) (Outs.sole rfl goOe) ⟨rfl, l, _, L, G, rfl, by (first | omega | (simp; done) | (simp; omega)), by (first | decide | simp), by (first | omega | (simp; done) | (simp; omega))⟩
  ·first | refine Cw.region_YP (fun ξ S => Chunk.strm 25 bs (intRows xs) (c + 1 + 1 + b2n (S 4) + b2n (S 7)) :: Chunk.box b 29 [stg (S 12) (Tr.raw (.slice ad rows.length cap)) (slV (ξ 10) (rows.length + 1)), Tr.raw (.slice aK 6 cK), Tr.raw (.slice aL n cL), .int G] :: stg (S 10) (Chunk.own ad cap 3 65 rows) (ownV (ξ 10) 3 65 (rows ++ [[.int (vInt (ξ 4)), .int 0, .int (vInt (ξ 7))]])) :: Chunk.own aL cL 5 63 rL :: Chunk.own aK cK 1 3 (intRows [5, 10, 25, 50, 100, 200]) :: Chunk.box b2 29 (List.map Tr.raw [Value.slice none 0 0, Value.slice none 0 0, Value.slice none 0 0, Value.int IntKind.i64 0]) :: []) rfl (by decide +kernel) rfl ((fun (ξ : Nat → Value) (S : Nat → Bool) => Chunk.strm 25 bs (intRows xs) (c + 1 + 1 + b2n (S 4) + b2n (S 7)) :: Chunk.box b 29 [stg (S 12) (Tr.raw (.slice ad rows.length cap)) (slV (ξ 10) (rows.length + 1)), Tr.raw (.slice aK 6 cK), Tr.raw (.slice aL n cL), .int G] :: stg (S 10) (Chunk.own ad cap 3 65 rows) (ownV (ξ 10) 3 65 (rows ++ [[.int (vInt (ξ 4)), .int 0, .int (vInt (ξ 7))]])) :: Chunk.own aL cL 5 63 rL :: Chunk.own aK cK 1 3 (intRows [5, 10, 25, 50, 100, 200]) :: Chunk.box b2 29 (List.map Tr.raw [Value.slice none 0 0, Value.slice none 0 0, Value.slice none 0 0, Value.int IntKind.i64 0]) :: []) (fun _ => undef) (fun _ => false)) (by simp only [upd_same, updD_same, upd_ne, updD_ne, ne_eq, Nat.reduceEqDiff, not_false_eq_true, stg_t, stg_f, vAd_s, vCap_s, blk_p, List.cons_append, List.nil_append, b2n_t, b2n_f]; exact goXm) (fun _ => rfl) ?_ | fail
   apply YSeq.w (by intro _ _ _; rfl)
   ·intro ξ S h1 h2 h3 h4
    have hN0_1 := closed_false h1 h3 (k := 1) rfl (by decide)
    have hN0_10 := closed_false hN0_1 h3 (k := 10) rfl (by decide)
    have hN0_12 := closed_false h1 h3 (k := 12) rfl (by decide)
    try simp only [upd_same, updD_same, upd_ne, updD_ne, ne_eq, Nat.reduceEqDiff, not_false_eq_true, stg_t, stg_f, vAd_s, vCap_s, blk_p, List.cons_append, List.nil_append, b2n_t, b2n_f, hN0_10, hN0_12]
    exact goW
   ·intro ξ v; rfl
   ·intro ξ k v S h3 hn hk
    first
    |rfl
   apply YSeq.w (by intro _ _ _; rfl)
   ·intro ξ S h1 h2 h3 h4
    have hN1_10 := closed_false h1 h3 (k := 10) rfl (by decide)
    have hN1_12 := closed_false h1 h3 (k := 12) rfl (by decide)
    try simp only [upd_same, updD_same, upd_ne, updD_ne, ne_eq, Nat.reduceEqDiff, not_false_eq_true, stg_t, stg_f, vAd_s, vCap_s, blk_p, List.cons_append, List.nil_append, b2n_t, b2n_f, hN1_10, hN1_12]
    exact goW
   ·intro ξ v; rfl
   ·intro ξ k v S h3 hn hk
    first
    |rfl
   apply YSeq.w (by intro _ _ _; rfl)
   ·intro ξ S h1 h2 h3 h4
    have hN2_4 := closed_false h1 h3 (k := 4) rfl (by decide)
    have hN2_7 := closed_false hN2_4 h3 (k := 7) rfl (by decide)
    have hN2_10 := closed_false hN2_7 h3 (k := 10) rfl (by decide)
    have hN2_12 := closed_false h1 h3 (k := 12) rfl (by decide)
    try simp only [upd_same, updD_same, upd_ne, updD_ne, ne_eq, Nat.reduceEqDiff, not_false_eq_true, stg_t, stg_f, vAd_s, vCap_s, blk_p, List.cons_append, List.nil_append, b2n_t, b2n_f, hN2_4, hN2_7, hN2_10, hN2_12]
    exact goW
   ·intro ξ v; rfl
   ·intro ξ k v S h3 hn hk
    first
    |rfl
   apply YSeq.w (by intro _ _ _; rfl)
   ·intro ξ S h1 h2 h3 h4
    have hN3_4 := closed_false h1 h3 (k := 4) rfl (by decide)
    have hN3_7 := closed_false hN3_4 h3 (k := 7) rfl (by decide)
    have hN3_10 := closed_false hN3_7 h3 (k := 10) rfl (by decide)
    have hN3_12 := closed_false h1 h3 (k := 12) rfl (by decide)
    try simp only [upd_same, updD_same, upd_ne, updD_ne, ne_eq, Nat.reduceEqDiff, not_false_eq_true, stg_t, stg_f, vAd_s, vCap_s, blk_p, List.cons_append, List.nil_append, b2n_t, b2n_f, hN3_4, hN3_7, hN3_10, hN3_12]
    exact goW
   ·intro ξ v; rfl
   ·intro ξ k v S h3 hn hk
    first
    |rfl
   apply YSeq.callI (pick_gen (l := [150, 3, 200]) (by repeat' (first | exact IsInts.nil | apply IsInts.cons)) (by simp)) (fun _ => (Evs.cons rfl (Evs.cons rfl Evs.nil)))
   ·intro ξ S h1 h3
    have hN4_7 := closed_false h1 h3 (k := 7) rfl (by decide)
    have hN4_10 := closed_false hN4_7 h3 (k := 10) rfl (by decide)
    have hN4_12 := closed_false h1 h3 (k := 12) rfl (by decide)
    have hq4 := b2n_le (S 4)
    have hq7 := b2n_le (S 7)
    simp only [upd_same, updD_same, upd_ne, updD_ne, ne_eq, Nat.reduceEqDiff, not_false_eq_true, stg_t, stg_f, vAd_s, vCap_s, blk_p, List.cons_append, List.nil_append, b2n_t, b2n_f, h1, hN4_7, hN4_10, hN4_12]
    refine ⟨_, _, ?_, goXp, fun v => ?_⟩
    ·omega
    ·refine List.Perm.trans goXp (perm_strm ?_)
     omega
   apply YSeq.w (by intro _ _ _; rfl)
   ·intro ξ S h1 h2 h3 h4
    have hN5_7 := closed_false h1 h3 (k := 7) rfl (by decide)
    have hN5_10 := closed_false hN5_7 h3 (k := 10) rfl (by decide)
    have hN5_12 := closed_false h1 h3 (k := 12) rfl (by decide)
    try simp only [upd_same, updD_same, upd_ne, updD_ne, ne_eq, Nat.reduceEqDiff, not_false_eq_true, stg_t, stg_f, vAd_s, vCap_s, blk_p, List.cons_append, List.nil_append, b2n_t, b2n_f, hN5_7, hN5_10, hN5_12]
    exact goW
   ·intro ξ v; rfl
   ·intro ξ k v S h3 hn hk
    first
    |rfl
   apply YSeq.w (by intro _ _ _; rfl)
   ·intro ξ S h1 h2 h3 h4
    have hN6_7 := closed_false h1 h3 (k := 7) rfl (by decide)
    have hN6_10 := closed_false hN6_7 h3 (k := 10) rfl (by decide)
    have hN6_12 := closed_false h1 h3 (k := 12) rfl (by decide)
    try simp only [upd_same, updD_same, upd_ne, updD_ne, ne_eq, Nat.reduceEqDiff, not_false_eq_true, stg_t, stg_f, vAd_s, vCap_s, blk_p, List.cons_append, List.nil_append, b2n_t, b2n_f, hN6_7, hN6_10, hN6_12]
    exact goW
   ·intro ξ v; rfl
   ·intro ξ k v S h3 hn hk
    first
    |rfl
   apply YSeq.callI (pick_gen (l := [5, -1]) (by repeat' (first | exact IsInts.nil | apply IsInts.cons)) (by simp)) (fun _ => (Evs.cons rfl (Evs.cons rfl Evs.nil)))
   ·intro ξ S h1 h3
    have hN7_10 := closed_false h1 h3 (k := 10) rfl (by decide)
    have hN7_12 := closed_false h1 h3 (k := 12) rfl (by decide)
    have hq4 := b2n_le (S 4)
    have hq7 := b2n_le (S 7)
    simp only [upd_same, updD_same, upd_ne, updD_ne, ne_eq, Nat.reduceEqDiff, not_false_eq_true, stg_t, stg_f, vAd_s, vCap_s, blk_p, List.cons_append, List.nil_append, b2n_t, b2n_f, h1, hN7_10, hN7_12]
    refine ⟨_, _, ?_, goXp, fun v => ?_⟩
    ·omega
    ·refine List.Perm.trans goXp (perm_strm ?_)
     omega
   apply YSeq.w (by intro _ _ _; rfl)
   ·intro ξ S h1 h2 h3 h4
    have hY8_4 : S 4 = true := h2 4 (by decide)
    have hY8_7 : S 7 = true := h2 7 (by decide)
    have hN8_9 := closed_false h1 h3 (k := 9) rfl (by decide)
    have hN8_10 := closed_false hN8_9 h3 (k := 10) rfl (by decide)
    have hN8_12 := closed_false h1 h3 (k := 12) rfl (by decide)
    have hR62 := pf_int (pick_gen (l := [150, 3, 200]) (by repeat' (first | exact IsInts.nil | apply IsInts.cons)) (by simp)) (h4 4 hY8_4)
    try simp only [InRange] at hR62
    have hRn62 := hR62
    try simp only [Nat.zero_add, Nat.reduceAdd] at hRn62
    have hR65 := pf_int (pick_gen (l := [5, -1]) (by repeat' (first | exact IsInts.nil | apply IsInts.cons)) (by simp)) (h4 7 hY8_7)
    try simp only [InRange] at hR65
    have hRn65 := hR65
    try simp only [Nat.zero_add, Nat.reduceAdd] at hRn65
    try simp only [upd_same, updD_same, upd_ne, updD_ne, ne_eq, Nat.reduceEqDiff, not_false_eq_true, stg_t, stg_f, vAd_s, vCap_s, blk_p, List.cons_append, List.nil_append, b2n_t, b2n_f, hY8_4, hY8_7, hN8_10, hN8_12]
    exact goW
   ·intro ξ v; rfl
   ·intro ξ k v S h3 hn hk
    first
    |rfl
    |skip
     have hY8_4 : S 4 = true := h3 8 _ rfl hn 4 (by decide)
     have hY8_7 : S 7 = true := h3 8 _ rfl hn 7 (by decide)
     simp only [upd_S hY8_4 hk, upd_S hY8_7 hk]
   apply YSeq.w (by intro _ _ _; rfl)
   ·intro ξ S h1 h2 h3 h4
    have hY9_8 : S 8 = true := h2 8 (by decide)
    have hY9_4 : S 4 = true := h3 8 _ rfl hY9_8 4 (by decide)
    have hY9_7 : S 7 = true := h3 8 _ rfl hY9_8 7 (by decide)
    have hN9_10 := closed_false h1 h3 (k := 10) rfl (by decide)
    have hN9_12 := closed_false h1 h3 (k := 12) rfl (by decide)
    have hR62 := pf_int (pick_gen (l := [150, 3, 200]) (by repeat' (first | exact IsInts.nil | apply IsInts.cons)) (by simp)) (h4 4 hY9_4)
    try simp only [InRange] at hR62
    have hRn62 := hR62
    try simp only [Nat.zero_add, Nat.reduceAdd] at hRn62
    have hR65 := pf_int (pick_gen (l := [5, -1]) (by repeat' (first | exact IsInts.nil | apply IsInts.cons)) (by simp)) (h4 7 hY9_7)
    try simp only [InRange] at hR65
    have hRn65 := hR65
    try simp only [Nat.zero_add, Nat.reduceAdd] at hRn65
    try simp only [upd_same, updD_same, upd_ne, updD_ne, ne_eq, Nat.reduceEqDiff, not_false_eq_true, stg_t, stg_f, vAd_s, vCap_s, blk_p, List.cons_append, List.nil_append, b2n_t, b2n_f, hY9_4, hY9_7, hN9_10, hN9_12]
    exact goW
   ·intro ξ v; rfl
   ·intro ξ k v S h3 hn hk
    first
    |rfl
    |skip
     have hY9_8 : S 8 = true := h3 9 _ rfl hn 8 (by decide)
     have hY9_4 : S 4 = true := h3 8 _ rfl hY9_8 4 (by decide)
     have hY9_7 : S 7 = true := h3 8 _ rfl hY9_8 7 (by decide)
     simp only [upd_S hY9_4 hk, upd_S hY9_7 hk]
   apply YSeq.append ((rows.length + 1))
   ·intro ξ S h1 h2 h3 h4
    have hY10_7 : S 7 = true := h2 7 (by decide)
    have hY10_4 : S 4 = true := h3 7 _ rfl hY10_7 4 (by decide)
    have hN10_12 := closed_false h1 h3 (k := 12) rfl (by decide)
    have hR62 := pf_int (pick_gen (l := [150, 3, 200]) (by repeat' (first | exact IsInts.nil | apply IsInts.cons)) (by simp)) (h4 4 hY10_4)
    try simp only [InRange] at hR62
    have hRn62 := hR62
    try simp only [Nat.zero_add, Nat.reduceAdd] at hRn62
    have hR65 := pf_int (pick_gen (l := [5, -1]) (by repeat' (first | exact IsInts.nil | apply IsInts.cons)) (by simp)) (h4 7 hY10_7)
    try simp only [InRange] at hR65
    have hRn65 := hR65
    try simp only [Nat.zero_add, Nat.reduceAdd] at hRn65
    simp only [upd_same, updD_same, upd_ne, updD_ne, ne_eq, Nat.reduceEqDiff, not_false_eq_true, stg_t, stg_f, vAd_s, vCap_s, blk_p, List.cons_append, List.nil_append, b2n_t, b2n_f, hY10_4, hY10_7, h1, hN10_12]
    refine ⟨_, _, _, _, _, _, rfl, rfl, goXp, (by first | rfl | (simp; done) | omega), (by first | rfl | omega | (simp; done) | (simp; omega)), (by first | omega | (simp; done) | (simp; omega)), (by first | omega | (simp; done) | (simp; omega)), fun ad' cap' => ?_⟩
    exact goXm
   apply YSeq.w (by intro _ _ _; rfl)
   ·intro ξ S h1 h2 h3 h4
    have hY11_4 : S 4 = true := h2 4 (by decide)
    have hY11_7 : S 7 = true := h2 7 (by decide)
    have hY11_10 : S 10 = true := h2 10 (by decide)
    have hN11_12 := closed_false h1 h3 (k := 12) rfl (by decide)
    have hR62 := pf_int (pick_gen (l := [150, 3, 200]) (by repeat' (first | exact IsInts.nil | apply IsInts.cons)) (by simp)) (h4 4 hY11_4)
    try simp only [InRange] at hR62
    have hRn62 := hR62
    try simp only [Nat.zero_add, Nat.reduceAdd] at hRn62
    have hR65 := pf_int (pick_gen (l := [5, -1]) (by repeat' (first | exact IsInts.nil | apply IsInts.cons)) (by simp)) (h4 7 hY11_7)
    try simp only [InRange] at hR65
    have hRn65 := hR65
    try simp only [Nat.zero_add, Nat.reduceAdd] at hRn65
    try simp only [upd_same, updD_same, upd_ne, updD_ne, ne_eq, Nat.reduceEqDiff, not_false_eq_true, stg_t, stg_f, vAd_s, vCap_s, blk_p, List.cons_append, List.nil_append, b2n_t, b2n_f, hY11_4, hY11_7, hY11_10, hN11_12]
    exact goW
   ·intro ξ v; rfl
   ·intro ξ k v S h3 hn hk
    first
    |rfl
    |skip
     have hY11_4 : S 4 = true := h3 11 _ rfl hn 4 (by decide)
     have hY11_7 : S 7 = true := h3 11 _ rfl hn 7 (by decide)
     have hY11_10 : S 10 = true := h3 11 _ rfl hn 10 (by decide)
     simp only [upd_S hY11_4 hk, upd_S hY11_7 hk, upd_S hY11_10 hk]
   apply YSeq.store
   ·intro ξ S h1 h2 h3 h4
    have hY12_4 : S 4 = true := h2 4 (by decide)
    have hY12_7 : S 7 = true := h2 7 (by decide)
    have hY12_10 : S 10 = true := h2 10 (by decide)
    have hR62 := pf_int (pick_gen (l := [150, 3, 200]) (by repeat' (first | exact IsInts.nil | apply IsInts.cons)) (by simp)) (h4 4 hY12_4)
    try simp only [InRange] at hR62
    have hRn62 := hR62
    try simp only [Nat.zero_add, Nat.reduceAdd] at hRn62
    have hR65 := pf_int (pick_gen (l := [5, -1]) (by repeat' (first | exact IsInts.nil | apply IsInts.cons)) (by simp)) (h4 7 hY12_7)
    try simp only [InRange] at hR65
    have hRn65 := hR65
    try simp only [Nat.zero_add, Nat.reduceAdd] at hRn65
    simp only [upd_same, updD_same, upd_ne, updD_ne, ne_eq, Nat.reduceEqDiff, not_false_eq_true, stg_t, stg_f, vAd_s, vCap_s, blk_p, List.cons_append, List.nil_append, b2n_t, b2n_f, hY12_4, hY12_7, hY12_10, h1]
    refine ⟨_, _, _, _, _, _, _, rfl, rfl, inferInstance, goXp, rfl, Nat.le_of_ble_eq_true rfl, ?_⟩
    exact goXm
   refine YSeq.nil fun ξ hf => ?_
   have hR62 := pf_int (pick_gen (l := [150, 3, 200]) (by repeat' (first | exact IsInts.nil | apply IsInts.cons)) (by simp)) (hf 4)
   try simp only [InRange] at hR62
   have hR65 := pf_int (pick_gen (l := [5, -1]) (by repeat' (first | exact IsInts.nil | apply IsInts.cons)) (by simp)) (hf 7)
   try simp only [InRange] at hR65
   refine ⟨[(0, _), (2, _), (3, _)], _, Ent.trans (Ent.eqc rfl (by first | (simp only [upd_same, updD_same, upd_ne, updD_ne, ne_eq, Nat.reduceEqDiff, not_false_eq_true, stg_t, stg_f, vAd_s, vCap_s, blk_p, List.cons_append, List.nil_append, b2n_t, b2n_f, ownV, slV, ptV] <;> rfl) | rfl)) (Ent.sub goSub), ?_⟩
   clear hf
   generalize vInt (ξ 4) = x62 at hR62 ⊢
   generalize vInt (ξ 7) = x65 at hR65 ⊢
   generalize vAd (ξ 10) = ad68
   generalize vCap (ξ 10) = cap68
   repeat (first | refine InB.norm ?_ | refine Then.norm ?_)
   repeat' (first | refine goH ?_ | ((fail_if_success refine Ops.k_load ?_); refine goV ?_) | ((fail_if_success refine Ops.k_load ?_); refine goB (fun b => ?_)) | ((fail_if_success refine Ops.k_load ?_); refine goC (fun ad cap => ?_)) | refine goG ?_ | (refine Ops.k_guard ?_; first | (refine Ops.guard_dec rfl rfl ?_ ?_ <;> intro hc <;> try omega) | refine Ops.guard_split rfl rfl ?_ ?_ <;> intro hc) | refine goI ?_ | (refine Cw.k_cond ?_; first | (refine Cw.cond_dec rfl ?_ ?_ <;> intro hc <;> try omega) | refine Cw.cond_bool rfl ?_ ?_ <;> intro hc) | refine goR ?_ | refine goP ?_ | apply PSeq.cons | apply PSeq.yes rfl rfl rfl | exact goW | fail)
   have hr2 : rows ++ [[Tr.int x62, Tr.int 0, Tr.int x65]] = (l ++ [Tube.mk x62 0 x65]).map Tube.row := by rw [hrows, List.map_append]; rfl
   refine Ops.ent (Ent.settle_box (b := b) (i := 0) (kk := 3) (rows := (rows ++ [[Tr.int x62, Tr.int 0, Tr.int x65]])) (ts' := [.tubes (l ++ [Tube.mk x62 0 x65]), Tr.raw (.slice aK 6 cK), Tr.raw (.slice aL n cL), .int G]) (by exact Perm.cons' goPk (Perm.cons' goPk (List.Perm.refl _))) rfl (by rw [List.length_append]; rfl) (by rw [hr2]; rfl)) ?_
   refine Ops.ent (Ent.settle_box (b := b) (i := 1) (kk := 1) (rows := (intRows [5, 10, 25, 50, 100, 200])) (ts' := [.tubes (l ++ [Tube.mk x62 0 x65]), .ints [5, 10, 25, 50, 100, 200], Tr.raw (.slice aL n cL), .int G]) (by exact Perm.cons' goPk (Perm.cons' goPk (List.Perm.refl _))) rfl rfl rfl) ?_
   refine Ops.ent (Ent.settle_box (b := b) (i := 2) (kk := 5) (rows := rL) (ts' := [.tubes (l ++ [Tube.mk x62 0 x65]), .ints [5, 10, 25, 50, 100, 200], .slots L, .int G]) (by exact Perm.cons' goPk (Perm.cons' goPk (List.Perm.refl _))) rfl hn (by rw [hrL]; rfl)) ?_
   repeat' (first | refine goH ?_ | refine goV ?_ | refine goB (fun b => ?_) | refine goC (fun ad cap => ?_) | refine goG ?_ | (refine Ops.k_guard ?_; first | (refine Ops.guard_dec rfl rfl ?_ ?_ <;> intro hc <;> try omega) | refine Ops.guard_split rfl rfl ?_ ?_ <;> intro hc) | refine goI ?_ | (refine Cw.k_cond ?_; first | (refine Cw.cond_dec rfl ?_ ?_ <;> intro hc <;> try omega) | refine Cw.cond_bool rfl ?_ ?_ <;> intro hc) | refine goR ?_ | refine goP ?_ | apply PSeq.cons | apply PSeq.yes rfl rfl rfl | exact goW | fail)
   exact Fin.ret (Ent.trans (Ent.setbox (s := 2) rfl goPk) (Ent.strm_only goPk (by omega))) (Outs.sole rfl goOe) ⟨rfl, _, _, L, G, rfl, by (first | omega | (simp; done) | (simp; omega)), by (first | decide | simp), by (first | omega | (simp; done) | (simp; omega))⟩
  ·first | refine Cw.region_YP (fun ξ S => Chunk.strm 25 bs (intRows xs) (c + 1 + 1 + b2n (S 4)) :: Chunk.box b 29 [Tr.raw (.slice ad rows.length cap), stg (S 8) (Tr.raw (.slice aK 6 cK)) (slV (ξ 6) 7), Tr.raw (.slice aL n cL), .int G] :: stg (S 6) (Chunk.own aK cK 1 3 (intRows [5, 10, 25, 50, 100, 200])) (ownV (ξ 6) 1 3 (intRows [5, 10, 25, 50, 100, 200] ++ [[.int (vInt (ξ 4))]])) :: Chunk.own ad cap 3 65 rows :: Chunk.own aL cL 5 63 rL :: Chunk.box b2 29 (List.map Tr.raw [Value.slice none 0 0, Value.slice none 0 0, Value.slice none 0 0, Value.int IntKind.i64 0]) :: []) rfl (by decide +kernel) rfl ((fun (ξ : Nat → Value) (S : Nat → Bool) => Chunk.strm 25 bs (intRows xs) (c + 1 + 1 + b2n (S 4)) :: Chunk.box b 29 [Tr.raw (.slice ad rows.length cap), stg (S 8) (Tr.raw (.slice aK 6 cK)) (slV (ξ 6) 7), Tr.raw (.slice aL n cL), .int G] :: stg (S 6) (Chunk.own aK cK 1 3 (intRows [5, 10, 25, 50, 100, 200])) (ownV (ξ 6) 1 3 (intRows [5, 10, 25, 50, 100, 200] ++ [[.int (vInt (ξ 4))]])) :: Chunk.own ad cap 3 65 rows :: Chunk.own aL cL 5 63 rL :: Chunk.box b2 29 (List.map Tr.raw [Value.slice none 0 0, Value.slice none 0 0, Value.slice none 0 0, Value.int IntKind.i64 0]) :: []) (fun _ => undef) (fun _ => false)) (by simp only [upd_same, updD_same, upd_ne, updD_ne, ne_eq, Nat.reduceEqDiff, not_false_eq_true, stg_t, stg_f, vAd_s, vCap_s, blk_p, List.cons_append, List.nil_append, b2n_t, b2n_f]; exact goXm) (fun _ => rfl) ?_ | fail
   apply YSeq.w (by intro _ _ _; rfl)
   ·intro ξ S h1 h2 h3 h4
    have hN0_1 := closed_false h1 h3 (k := 1) rfl (by decide)
    have hN0_6 := closed_false hN0_1 h3 (k := 6) rfl (by decide)
    have hN0_8 := closed_false h1 h3 (k := 8) rfl (by decide)
    try simp only [upd_same, updD_same, upd_ne, updD_ne, ne_eq, Nat.reduceEqDiff, not_false_eq_true, stg_t, stg_f, vAd_s, vCap_s, blk_p, List.cons_append, List.nil_append, b2n_t, b2n_f, hN0_6, hN0_8]
    exact goW
   ·intro ξ v; rfl
   ·intro ξ k v S h3 hn hk
    first
    |rfl
   apply YSeq.w (by intro _ _ _; rfl)
   ·intro ξ S h1 h2 h3 h4
    have hN1_6 := closed_false h1 h3 (k := 6) rfl (by decide)
    have hN1_8 := closed_false h1 h3 (k := 8) rfl (by decide)
    try simp only [upd_same, updD_same, upd_ne, updD_ne, ne_eq, Nat.reduceEqDiff, not_false_eq_true, stg_t, stg_f, vAd_s, vCap_s, blk_p, List.cons_append, List.nil_append, b2n_t, b2n_f, hN1_6, hN1_8]
    exact goW
   ·intro ξ v; rfl
   ·intro ξ k v S h3 hn hk
    first
    |rfl
   apply YSeq.w (by intro _ _ _; rfl)
   ·intro ξ S h1 h2 h3 h4
    have hN2_4 := closed_false h1 h3 (k := 4) rfl (by decide)
    have hN2_6 := closed_false hN2_4 h3 (k := 6) rfl (by decide)
    have hN2_8 := closed_false h1 h3 (k := 8) rfl (by decide)
    try simp only [upd_same, updD_same, upd_ne, updD_ne, ne_eq, Nat.reduceEqDiff, not_false_eq_true, stg_t, stg_f, vAd_s, vCap_s, blk_p, List.cons_append, List.nil_append, b2n_t, b2n_f, hN2_4, hN2_6, hN2_8]
    exact goW
   ·intro ξ v; rfl
   ·intro ξ k v S h3 hn hk
    first
    |rfl
   apply YSeq.w (by intro _ _ _; rfl)
   ·intro ξ S h1 h2 h3 h4
    have hN3_4 := closed_false h1 h3 (k := 4) rfl (by decide)
    have hN3_6 := closed_false hN3_4 h3 (k := 6) rfl (by decide)
    have hN3_8 := closed_false h1 h3 (k := 8) rfl (by decide)
    try simp only [upd_same, updD_same, upd_ne, updD_ne, ne_eq, Nat.reduceEqDiff, not_false_eq_true, stg_t, stg_f, vAd_s, vCap_s, blk_p, List.cons_append, List.nil_append, b2n_t, b2n_f, hN3_4, hN3_6, hN3_8]
    exact goW
   ·intro ξ v; rfl
   ·intro ξ k v S h3 hn hk
    first
    |rfl
   apply YSeq.callI (pick_gen (l := [0, 200, 500, 20001]) (by repeat' (first | exact IsInts.nil | apply IsInts.cons)) (by simp)) (fun _ => (Evs.cons rfl (Evs.cons rfl Evs.nil)))
   ·intro ξ S h1 h3
    have hN4_6 := closed_false h1 h3 (k := 6) rfl (by decide)
    have hN4_8 := closed_false h1 h3 (k := 8) rfl (by decide)
    have hq4 := b2n_le (S 4)
    simp only [upd_same, updD_same, upd_ne, updD_ne, ne_eq, Nat.reduceEqDiff, not_false_eq_true, stg_t, stg_f, vAd_s, vCap_s, blk_p, List.cons_append, List.nil_append, b2n_t, b2n_f, h1, hN4_6, hN4_8]
    refine ⟨_, _, ?_, goXp, fun v => ?_⟩
    ·omega
    ·refine List.Perm.trans goXp (perm_strm ?_)
     omega
   apply YSeq.w (by intro _ _ _; rfl)
   ·intro ξ S h1 h2 h3 h4
    have hY5_4 : S 4 = true := h2 4 (by decide)
    have hN5_6 := closed_false h1 h3 (k := 6) rfl (by decide)
    have hN5_8 := closed_false h1 h3 (k := 8) rfl (by decide)
    have hR76 := pf_int (pick_gen (l := [0, 200, 500, 20001]) (by repeat' (first | exact IsInts.nil | apply IsInts.cons)) (by simp)) (h4 4 hY5_4)
    try simp only [InRange] at hR76
    have hRn76 := hR76
    try simp only [Nat.zero_add, Nat.reduceAdd] at hRn76
    try simp only [upd_same, updD_same, upd_ne, updD_ne, ne_eq, Nat.reduceEqDiff, not_false_eq_true, stg_t, stg_f, vAd_s, vCap_s, blk_p, List.cons_append, List.nil_append, b2n_t, b2n_f, hY5_4, hN5_6, hN5_8]
    exact goW
   ·intro ξ v; rfl
   ·intro ξ k v S h3 hn hk
    first
    |rfl
    |skip
     have hY5_4 : S 4 = true := h3 5 _ rfl hn 4 (by decide)
     simp only [upd_S hY5_4 hk]
   apply YSeq.append (7)
   ·intro ξ S h1 h2 h3 h4
    have hY6_4 : S 4 = true := h2 4 (by decide)
    have hN6_8 := closed_false h1 h3 (k := 8) rfl (by decide)
    have hR76 := pf_int (pick_gen (l := [0, 200, 500, 20001]) (by repeat' (first | exact IsInts.nil | apply IsInts.cons)) (by simp)) (h4 4 hY6_4)
    try simp only [InRange] at hR76
    have hRn76 := hR76
    try simp only [Nat.zero_add, Nat.reduceAdd] at hRn76
    simp only [upd_same, updD_same, upd_ne, updD_ne, ne_eq, Nat.reduceEqDiff, not_false_eq_true, stg_t, stg_f, vAd_s, vCap_s, blk_p, List.cons_append, List.nil_append, b2n_t, b2n_f, hY6_4, h1, hN6_8]
    refine ⟨_, _, _, _, _, _, rfl, rfl, goXp, (by first | rfl | (simp; done) | omega), (by first | rfl | omega | (simp; done) | (simp; omega)), (by first | omega | (simp; done) | (simp; omega)), (by first | omega | (simp; done) | (simp; omega)), fun ad' cap' => ?_⟩
    exact goXm
   apply YSeq.w (by intro _ _ _; rfl)
   ·intro ξ S h1 h2 h3 h4
    have hY7_4 : S 4 = true := h2 4 (by decide)
    have hY7_6 : S 6 = true := h2 6 (by decide)
    have hN7_8 := closed_false h1 h3 (k := 8) rfl (by decide)
    have hR76 := pf_int (pick_gen (l := [0, 200, 500, 20001]) (by repeat' (first | exact IsInts.nil | apply IsInts.cons)) (by simp)) (h4 4 hY7_4)
    try simp only [InRange] at hR76
    have hRn76 := hR76
    try simp only [Nat.zero_add, Nat.reduceAdd] at hRn76
    try simp only [upd_same, updD_same, upd_ne, updD_ne, ne_eq, Nat.reduceEqDiff, not_false_eq_true, stg_t, stg_f, vAd_s, vCap_s, blk_p, List.cons_append, List.nil_append, b2n_t, b2n_f, hY7_4, hY7_6, hN7_8]
    exact goW
   ·intro ξ v; rfl
   ·intro ξ k v S h3 hn hk
    first
    |rfl
    |skip
     have hY7_4 : S 4 = true := h3 7 _ rfl hn 4 (by decide)
     have hY7_6 : S 6 = true := h3 7 _ rfl hn 6 (by decide)
     simp only [upd_S hY7_4 hk, upd_S hY7_6 hk]
   apply YSeq.store
   ·intro ξ S h1 h2 h3 h4
    have hY8_4 : S 4 = true := h2 4 (by decide)
    have hY8_6 : S 6 = true := h2 6 (by decide)
    have hR76 := pf_int (pick_gen (l := [0, 200, 500, 20001]) (by repeat' (first | exact IsInts.nil | apply IsInts.cons)) (by simp)) (h4 4 hY8_4)
    try simp only [InRange] at hR76
    have hRn76 := hR76
    try simp only [Nat.zero_add, Nat.reduceAdd] at hRn76
    simp only [upd_same, updD_same, upd_ne, updD_ne, ne_eq, Nat.reduceEqDiff, not_false_eq_true, stg_t, stg_f, vAd_s, vCap_s, blk_p, List.cons_append, List.nil_append, b2n_t, b2n_f, hY8_4, hY8_6, h1]
    refine ⟨_, _, _, _, _, _, _, rfl, rfl, inferInstance, goXp, rfl, Nat.le_of_ble_eq_true rfl, ?_⟩
    exact goXm
   refine YSeq.nil fun ξ hf => ?_
   have hR76 := pf_int (pick_gen (l := [0, 200, 500, 20001]) (by repeat' (first | exact IsInts.nil | apply IsInts.cons)) (by simp)) (hf 4)
   try simp only [InRange] at hR76
   refine ⟨[(0, _), (2, _), (3, _)], _, Ent.trans (Ent.eqc rfl (by first | (simp only [upd_same, updD_same, upd_ne, updD_ne, ne_eq, Nat.reduceEqDiff, not_false_eq_true, stg_t, stg_f, vAd_s, vCap_s, blk_p, List.cons_append, List.nil_append, b2n_t, b2n_f, ownV, slV, ptV] <;> rfl) | rfl)) (Ent.sub goSub), ?_⟩
   clear hf
   generalize vInt (ξ 4) = x76 at hR76 ⊢
   generalize vAd (ξ 6) = ad78
   generalize vCap (ξ 6) = cap78
   repeat (first | refine InB.norm ?_ | refine Then.norm ?_)
   repeat' (first | refine goH ?_ | ((fail_if_success refine Ops.k_load ?_); refine goV ?_) | ((fail_if_success refine Ops.k_load ?_); refine goB (fun b => ?_)) | ((fail_if_success refine Ops.k_load ?_); refine goC (fun ad cap => ?_)) | refine goG ?_ | (refine Ops.k_guard ?_; first | (refine Ops.guard_dec rfl rfl ?_ ?_ <;> intro hc <;> try omega) | refine Ops.guard_split rfl rfl ?_ ?_ <;> intro hc) | refine goI ?_ | (refine Cw.k_cond ?_; first | (refine Cw.cond_dec rfl ?_ ?_ <;> intro hc <;> try omega) | refine Cw.cond_bool rfl ?_ ?_ <;> intro hc) | refine goR ?_ | refine goP ?_ | apply PSeq.cons | apply PSeq.yes rfl rfl rfl | exact goW | fail)
   refine Ops.ent (Ent.settle_box (b := b) (i := 0) (kk := 3) (rows := rows) (ts' := [.tubes l, Tr.raw (.slice ad78 7 cap78), Tr.raw (.slice aL n cL), .int G]) (by exact Perm.cons' goPk (Perm.cons' goPk (List.Perm.refl _))) rfl rfl (by rw [hrows]; rfl)) ?_
   refine Ops.ent (Ent.settle_box (b := b) (i := 1) (kk := 1) (rows := (intRows [5, 10, 25, 50, 100, 200] ++ [[.int x76]])) (ts' := [.tubes l, .ints [5, 10, 25, 50, 100, 200, x76], Tr.raw (.slice aL n cL), .int G]) (by exact Perm.cons' goPk (Perm.cons' goPk (List.Perm.refl _))) rfl rfl rfl) ?_
   refine Ops.ent (Ent.settle_box (b := b) (i := 2) (kk := 5) (rows := rL) (ts' := [.tubes l, .ints [5, 10, 25, 50, 100, 200, x76], .slots L, .int G]) (by exact Perm.cons' goPk (Perm.cons' goPk (List.Perm.refl _))) rfl hn (by rw [hrL]; rfl)) ?_
   repeat' (first | refine goH ?_ | refine goV ?_ | refine goB (fun b => ?_) | refine goC (fun ad cap => ?_) | refine goG ?_ | (refine Ops.k_guard ?_; first | (refine Ops.guard_dec rfl rfl ?_ ?_ <;> intro hc <;> try omega) | refine Ops.guard_split rfl rfl ?_ ?_ <;> intro hc) | refine goI ?_ | (refine Cw.k_cond ?_; first | (refine Cw.cond_dec rfl ?_ ?_ <;> intro hc <;> try omega) | refine Cw.cond_bool rfl ?_ ?_ <;> intro hc) | refine goR ?_ | refine goP ?_ | apply PSeq.cons | apply PSeq.yes rfl rfl rfl | exact goW | fail)
   exact Fin.ret (Ent.trans (Ent.setbox (s := 2) rfl goPk) (Ent.strm_only goPk (by omega))) (Outs.sole rfl goOe) ⟨rfl, l, _, L, G, rfl, by (first | omega | (simp; done) | (simp; omega)), by (first | decide | simp), by (first | omega | (simp; done) | (simp; omega))⟩
  ·first | refine Cw.region_YP (fun ξ S => Chunk.strm 25 bs (intRows xs) (c + 1 + 1 + b2n (S 4) + b2n (S 7) + b2n (S 10) + b2n (S 13) + b2n (S 16)) :: Chunk.box b 29 [Tr.raw (.slice ad rows.length cap), Tr.raw (.slice aK 6 cK), stg (S 21) (Tr.raw (.slice aL n cL)) (slV (ξ 19) (n + 1)), .int G] :: stg (S 19) (Chunk.own aL cL 5 63 rL) (ownV (ξ 19) 5 63 (rL ++ [[.str (vStr (ξ 4)), .str (vStr (ξ 7)), .int (vInt (ξ 10)), .int (vInt (ξ 13)), .int (vInt (ξ 16))]])) :: Chunk.own ad cap 3 65 rows :: Chunk.own aK cK 1 3 (intRows [5, 10, 25, 50, 100, 200]) :: Chunk.box b2 29 (List.map Tr.raw [Value.slice none 0 0, Value.slice none 0 0, Value.slice none 0 0, Value.int IntKind.i64 0]) :: []) rfl (by decide +kernel) rfl ((fun (ξ : Nat → Value) (S : Nat → Bool) => Chunk.strm 25 bs (intRows xs) (c + 1 + 1 + b2n (S 4) + b2n (S 7) + b2n (S 10) + b2n (S 13) + b2n (S 16)) :: Chunk.box b 29 [Tr.raw (.slice ad rows.length cap), Tr.raw (.slice aK 6 cK), stg (S 21) (Tr.raw (.slice aL n cL)) (slV (ξ 19) (n + 1)), .int G] :: stg (S 19) (Chunk.own aL cL 5 63 rL) (ownV (ξ 19) 5 63 (rL ++ [[.str (vStr (ξ 4)), .str (vStr (ξ 7)), .int (vInt (ξ 10)), .int (vInt (ξ 13)), .int (vInt (ξ 16))]])) :: Chunk.own ad cap 3 65 rows :: Chunk.own aK cK 1 3 (intRows [5, 10, 25, 50, 100, 200]) :: Chunk.box b2 29 (List.map Tr.raw [Value.slice none 0 0, Value.slice none 0 0, Value.slice none 0 0, Value.int IntKind.i64 0]) :: []) (fun _ => undef) (fun _ => false)) (by simp only [upd_same, updD_same, upd_ne, updD_ne, ne_eq, Nat.reduceEqDiff, not_false_eq_true, stg_t, stg_f, vAd_s, vCap_s, blk_p, List.cons_append, List.nil_append, b2n_t, b2n_f]; exact goXm) (fun _ => rfl) ?_ | fail
   apply YSeq.w (by intro _ _ _; rfl)
   ·intro ξ S h1 h2 h3 h4
    have hN0_1 := closed_false h1 h3 (k := 1) rfl (by decide)
    have hN0_19 := closed_false hN0_1 h3 (k := 19) rfl (by decide)
    have hN0_21 := closed_false h1 h3 (k := 21) rfl (by decide)
    try simp only [upd_same, updD_same, upd_ne, updD_ne, ne_eq, Nat.reduceEqDiff, not_false_eq_true, stg_t, stg_f, vAd_s, vCap_s, blk_p, List.cons_append, List.nil_append, b2n_t, b2n_f, hN0_19, hN0_21]
    exact goW
   ·intro ξ v; rfl
   ·intro ξ k v S h3 hn hk
    first
    |rfl
   apply YSeq.w (by intro _ _ _; rfl)
   ·intro ξ S h1 h2 h3 h4
    have hN1_19 := closed_false h1 h3 (k := 19) rfl (by decide)
    have hN1_21 := closed_false h1 h3 (k := 21) rfl (by decide)
    try simp only [upd_same, updD_same, upd_ne, updD_ne, ne_eq, Nat.reduceEqDiff, not_false_eq_true, stg_t, stg_f, vAd_s, vCap_s, blk_p, List.cons_append, List.nil_append, b2n_t, b2n_f, hN1_19, hN1_21]
    exact goW
   ·intro ξ v; rfl
   ·intro ξ k v S h3 hn hk
    first
    |rfl
   apply YSeq.w (by intro _ _ _; rfl)
   ·intro ξ S h1 h2 h3 h4
    have hN2_4 := closed_false h1 h3 (k := 4) rfl (by decide)
    have hN2_7 := closed_false hN2_4 h3 (k := 7) rfl (by decide)
    have hN2_10 := closed_false hN2_7 h3 (k := 10) rfl (by decide)
    have hN2_13 := closed_false hN2_10 h3 (k := 13) rfl (by decide)
    have hN2_16 := closed_false hN2_13 h3 (k := 16) rfl (by decide)
    have hN2_17 := closed_false hN2_4 h3 (k := 17) rfl (by decide)
    have hN2_18 := closed_false hN2_17 h3 (k := 18) rfl (by decide)
    have hN2_19 := closed_false hN2_18 h3 (k := 19) rfl (by decide)
    have hN2_21 := closed_false h1 h3 (k := 21) rfl (by decide)
    try simp only [upd_same, updD_same, upd_ne, updD_ne, ne_eq, Nat.reduceEqDiff, not_false_eq_true, stg_t, stg_f, vAd_s, vCap_s, blk_p, List.cons_append, List.nil_append, b2n_t, b2n_f, hN2_4, hN2_7, hN2_10, hN2_13, hN2_16, hN2_19, hN2_21]
    exact goW
   ·intro ξ v; rfl
   ·intro ξ k v S h3 hn hk
    first
    |rfl
   apply YSeq.w (by intro _ _ _; rfl)
   ·intro ξ S h1 h2 h3 h4
    have hN3_4 := closed_false h1 h3 (k := 4) rfl (by decide)
    have hN3_7 := closed_false hN3_4 h3 (k := 7) rfl (by decide)
    have hN3_10 := closed_false hN3_7 h3 (k := 10) rfl (by decide)
    have hN3_13 := closed_false hN3_10 h3 (k := 13) rfl (by decide)
    have hN3_16 := closed_false hN3_13 h3 (k := 16) rfl (by decide)
    have hN3_17 := closed_false hN3_4 h3 (k := 17) rfl (by decide)
    have hN3_18 := closed_false hN3_17 h3 (k := 18) rfl (by decide)
    have hN3_19 := closed_false hN3_18 h3 (k := 19) rfl (by decide)
    have hN3_21 := closed_false h1 h3 (k := 21) rfl (by decide)
    try simp only [upd_same, updD_same, upd_ne, updD_ne, ne_eq, Nat.reduceEqDiff, not_false_eq_true, stg_t, stg_f, vAd_s, vCap_s, blk_p, List.cons_append, List.nil_append, b2n_t, b2n_f, hN3_4, hN3_7, hN3_10, hN3_13, hN3_16, hN3_19, hN3_21]
    exact goW
   ·intro ξ v; rfl
   ·intro ξ k v S h3 hn hk
    first
    |rfl
   apply YSeq.callS (one_gen (l := [⟨#[]⟩, ⟨#[97]⟩, ⟨#[100]⟩]) (by repeat' (first | exact IsStrs.nil | apply IsStrs.cons)) (by simp)) (fun _ => (Evs.cons rfl (Evs.cons rfl Evs.nil)))
   ·intro ξ S h1 h3
    have hN4_7 := closed_false h1 h3 (k := 7) rfl (by decide)
    have hN4_10 := closed_false hN4_7 h3 (k := 10) rfl (by decide)
    have hN4_13 := closed_false hN4_10 h3 (k := 13) rfl (by decide)
    have hN4_16 := closed_false hN4_13 h3 (k := 16) rfl (by decide)
    have hN4_17 := closed_false h1 h3 (k := 17) rfl (by decide)
    have hN4_18 := closed_false hN4_17 h3 (k := 18) rfl (by decide)
    have hN4_19 := closed_false hN4_18 h3 (k := 19) rfl (by decide)
    have hN4_21 := closed_false h1 h3 (k := 21) rfl (by decide)
    have hq4 := b2n_le (S 4)
    have hq7 := b2n_le (S 7)
    have hq10 := b2n_le (S 10)
    have hq13 := b2n_le (S 13)
    have hq16 := b2n_le (S 16)
    simp only [upd_same, updD_same, upd_ne, updD_ne, ne_eq, Nat.reduceEqDiff, not_false_eq_true, stg_t, stg_f, vAd_s, vCap_s, blk_p, List.cons_append, List.nil_append, b2n_t, b2n_f, h1, hN4_7, hN4_10, hN4_13, hN4_16, hN4_19, hN4_21]
    refine ⟨_, _, ?_, goXp, fun v => ?_⟩
    ·omega
    ·refine List.Perm.trans goXp (perm_strm ?_)
     omega
   apply YSeq.w (by intro _ _ _; rfl)
   ·intro ξ S h1 h2 h3 h4
    have hN5_7 := closed_false h1 h3 (k := 7) rfl (by decide)
    have hN5_10 := closed_false hN5_7 h3 (k := 10) rfl (by decide)
    have hN5_13 := closed_false hN5_10 h3 (k := 13) rfl (by decide)
    have hN5_16 := closed_false hN5_13 h3 (k := 16) rfl (by decide)
    have hN5_17 := closed_false hN5_7 h3 (k := 17) rfl (by decide)
    have hN5_18 := closed_false hN5_17 h3 (k := 18) rfl (by decide)
    have hN5_19 := closed_false hN5_18 h3 (k := 19) rfl (by decide)
    have hN5_21 := closed_false h1 h3 (k := 21) rfl (by decide)
    try simp only [upd_same, updD_same, upd_ne, updD_ne, ne_eq, Nat.reduceEqDiff, not_false_eq_true, stg_t, stg_f, vAd_s, vCap_s, blk_p, List.cons_append, List.nil_append, b2n_t, b2n_f, hN5_7, hN5_10, hN5_13, hN5_16, hN5_19, hN5_21]
    exact goW
   ·intro ξ v; rfl
   ·intro ξ k v S h3 hn hk
    first
    |rfl
   apply YSeq.w (by intro _ _ _; rfl)
   ·intro ξ S h1 h2 h3 h4
    have hN6_7 := closed_false h1 h3 (k := 7) rfl (by decide)
    have hN6_10 := closed_false hN6_7 h3 (k := 10) rfl (by decide)
    have hN6_13 := closed_false hN6_10 h3 (k := 13) rfl (by decide)
    have hN6_16 := closed_false hN6_13 h3 (k := 16) rfl (by decide)
    have hN6_17 := closed_false hN6_7 h3 (k := 17) rfl (by decide)
    have hN6_18 := closed_false hN6_17 h3 (k := 18) rfl (by decide)
    have hN6_19 := closed_false hN6_18 h3 (k := 19) rfl (by decide)
    have hN6_21 := closed_false h1 h3 (k := 21) rfl (by decide)
    try simp only [upd_same, updD_same, upd_ne, updD_ne, ne_eq, Nat.reduceEqDiff, not_false_eq_true, stg_t, stg_f, vAd_s, vCap_s, blk_p, List.cons_append, List.nil_append, b2n_t, b2n_f, hN6_7, hN6_10, hN6_13, hN6_16, hN6_19, hN6_21]
    exact goW
   ·intro ξ v; rfl
   ·intro ξ k v S h3 hn hk
    first
    |rfl
   apply YSeq.callS (one_gen (l := [⟨#[]⟩, ⟨#[99, 97, 110]⟩]) (by repeat' (first | exact IsStrs.nil | apply IsStrs.cons)) (by simp)) (fun _ => (Evs.cons rfl (Evs.cons rfl Evs.nil)))
   ·intro ξ S h1 h3
    have hN7_10 := closed_false h1 h3 (k := 10) rfl (by decide)
    have hN7_13 := closed_false hN7_10 h3 (k := 13) rfl (by decide)
    have hN7_16 := closed_false hN7_13 h3 (k := 16) rfl (by decide)
    have hN7_17 := closed_false h1 h3 (k := 17) rfl (by decide)
    have hN7_18 := closed_false hN7_17 h3 (k := 18) rfl (by decide)
    have hN7_19 := closed_false hN7_18 h3 (k := 19) rfl (by decide)
    have hN7_21 := closed_false h1 h3 (k := 21) rfl (by decide)
    have hq4 := b2n_le (S 4)
    have hq7 := b2n_le (S 7)
    have hq10 := b2n_le (S 10)
    have hq13 := b2n_le (S 13)
    have hq16 := b2n_le (S 16)
    simp only [upd_same, updD_same, upd_ne, updD_ne, ne_eq, Nat.reduceEqDiff, not_false_eq_true, stg_t, stg_f, vAd_s, vCap_s, blk_p, List.cons_append, List.nil_append, b2n_t, b2n_f, h1, hN7_10, hN7_13, hN7_16, hN7_19, hN7_21]
    refine ⟨_, _, ?_, goXp, fun v => ?_⟩
    ·omega
    ·refine List.Perm.trans goXp (perm_strm ?_)
     omega
   apply YSeq.w (by intro _ _ _; rfl)
   ·intro ξ S h1 h2 h3 h4
    have hN8_10 := closed_false h1 h3 (k := 10) rfl (by decide)
    have hN8_13 := closed_false hN8_10 h3 (k := 13) rfl (by decide)
    have hN8_16 := closed_false hN8_13 h3 (k := 16) rfl (by decide)
    have hN8_19 := closed_false hN8_16 h3 (k := 19) rfl (by decide)
    have hN8_21 := closed_false h1 h3 (k := 21) rfl (by decide)
    try simp only [upd_same, updD_same, upd_ne, updD_ne, ne_eq, Nat.reduceEqDiff, not_false_eq_true, stg_t, stg_f, vAd_s, vCap_s, blk_p, List.cons_append, List.nil_append, b2n_t, b2n_f, hN8_10, hN8_13, hN8_16, hN8_19, hN8_21]
    exact goW
   ·intro ξ v; rfl
   ·intro ξ k v S h3 hn hk
    first
    |rfl
   apply YSeq.w (by intro _ _ _; rfl)
   ·intro ξ S h1 h2 h3 h4
    have hN9_10 := closed_false h1 h3 (k := 10) rfl (by decide)
    have hN9_13 := closed_false hN9_10 h3 (k := 13) rfl (by decide)
    have hN9_16 := closed_false hN9_13 h3 (k := 16) rfl (by decide)
    have hN9_19 := closed_false hN9_16 h3 (k := 19) rfl (by decide)
    have hN9_21 := closed_false h1 h3 (k := 21) rfl (by decide)
    try simp only [upd_same, updD_same, upd_ne, updD_ne, ne_eq, Nat.reduceEqDiff, not_false_eq_true, stg_t, stg_f, vAd_s, vCap_s, blk_p, List.cons_append, List.nil_append, b2n_t, b2n_f, hN9_10, hN9_13, hN9_16, hN9_19, hN9_21]
    exact goW
   ·intro ξ v; rfl
   ·intro ξ k v S h3 hn hk
    first
    |rfl
   apply YSeq.callI (pick_gen (l := [0, 5]) (by repeat' (first | exact IsInts.nil | apply IsInts.cons)) (by simp)) (fun _ => (Evs.cons rfl (Evs.cons rfl Evs.nil)))
   ·intro ξ S h1 h3
    have hN10_13 := closed_false h1 h3 (k := 13) rfl (by decide)
    have hN10_16 := closed_false hN10_13 h3 (k := 16) rfl (by decide)
    have hN10_19 := closed_false hN10_16 h3 (k := 19) rfl (by decide)
    have hN10_21 := closed_false h1 h3 (k := 21) rfl (by decide)
    have hq4 := b2n_le (S 4)
    have hq7 := b2n_le (S 7)
    have hq10 := b2n_le (S 10)
    have hq13 := b2n_le (S 13)
    have hq16 := b2n_le (S 16)
    simp only [upd_same, updD_same, upd_ne, updD_ne, ne_eq, Nat.reduceEqDiff, not_false_eq_true, stg_t, stg_f, vAd_s, vCap_s, blk_p, List.cons_append, List.nil_append, b2n_t, b2n_f, h1, hN10_13, hN10_16, hN10_19, hN10_21]
    refine ⟨_, _, ?_, goXp, fun v => ?_⟩
    ·omega
    ·refine List.Perm.trans goXp (perm_strm ?_)
     omega
   apply YSeq.w (by intro _ _ _; rfl)
   ·intro ξ S h1 h2 h3 h4
    have hN11_13 := closed_false h1 h3 (k := 13) rfl (by decide)
    have hN11_16 := closed_false hN11_13 h3 (k := 16) rfl (by decide)
    have hN11_19 := closed_false hN11_16 h3 (k := 19) rfl (by decide)
    have hN11_21 := closed_false h1 h3 (k := 21) rfl (by decide)
    try simp only [upd_same, updD_same, upd_ne, updD_ne, ne_eq, Nat.reduceEqDiff, not_false_eq_true, stg_t, stg_f, vAd_s, vCap_s, blk_p, List.cons_append, List.nil_append, b2n_t, b2n_f, hN11_13, hN11_16, hN11_19, hN11_21]
    exact goW
   ·intro ξ v; rfl
   ·intro ξ k v S h3 hn hk
    first
    |rfl
   apply YSeq.w (by intro _ _ _; rfl)
   ·intro ξ S h1 h2 h3 h4
    have hN12_13 := closed_false h1 h3 (k := 13) rfl (by decide)
    have hN12_16 := closed_false hN12_13 h3 (k := 16) rfl (by decide)
    have hN12_19 := closed_false hN12_16 h3 (k := 19) rfl (by decide)
    have hN12_21 := closed_false h1 h3 (k := 21) rfl (by decide)
    try simp only [upd_same, updD_same, upd_ne, updD_ne, ne_eq, Nat.reduceEqDiff, not_false_eq_true, stg_t, stg_f, vAd_s, vCap_s, blk_p, List.cons_append, List.nil_append, b2n_t, b2n_f, hN12_13, hN12_16, hN12_19, hN12_21]
    exact goW
   ·intro ξ v; rfl
   ·intro ξ k v S h3 hn hk
    first
    |rfl
   apply YSeq.callI (pick_gen (l := [5, 1001]) (by repeat' (first | exact IsInts.nil | apply IsInts.cons)) (by simp)) (fun _ => (Evs.cons rfl (Evs.cons rfl Evs.nil)))
   ·intro ξ S h1 h3
    have hN13_16 := closed_false h1 h3 (k := 16) rfl (by decide)
    have hN13_19 := closed_false hN13_16 h3 (k := 19) rfl (by decide)
    have hN13_21 := closed_false h1 h3 (k := 21) rfl (by decide)
    have hq4 := b2n_le (S 4)
    have hq7 := b2n_le (S 7)
    have hq10 := b2n_le (S 10)
    have hq13 := b2n_le (S 13)
    have hq16 := b2n_le (S 16)
    simp only [upd_same, updD_same, upd_ne, updD_ne, ne_eq, Nat.reduceEqDiff, not_false_eq_true, stg_t, stg_f, vAd_s, vCap_s, blk_p, List.cons_append, List.nil_append, b2n_t, b2n_f, h1, hN13_16, hN13_19, hN13_21]
    refine ⟨_, _, ?_, goXp, fun v => ?_⟩
    ·omega
    ·refine List.Perm.trans goXp (perm_strm ?_)
     omega
   apply YSeq.w (by intro _ _ _; rfl)
   ·intro ξ S h1 h2 h3 h4
    have hN14_16 := closed_false h1 h3 (k := 16) rfl (by decide)
    have hN14_19 := closed_false hN14_16 h3 (k := 19) rfl (by decide)
    have hN14_21 := closed_false h1 h3 (k := 21) rfl (by decide)
    try simp only [upd_same, updD_same, upd_ne, updD_ne, ne_eq, Nat.reduceEqDiff, not_false_eq_true, stg_t, stg_f, vAd_s, vCap_s, blk_p, List.cons_append, List.nil_append, b2n_t, b2n_f, hN14_16, hN14_19, hN14_21]
    exact goW
   ·intro ξ v; rfl
   ·intro ξ k v S h3 hn hk
    first
    |rfl
   apply YSeq.w (by intro _ _ _; rfl)
   ·intro ξ S h1 h2 h3 h4
    have hN15_16 := closed_false h1 h3 (k := 16) rfl (by decide)
    have hN15_19 := closed_false hN15_16 h3 (k := 19) rfl (by decide)
    have hN15_21 := closed_false h1 h3 (k := 21) rfl (by decide)
    try simp only [upd_same, updD_same, upd_ne, updD_ne, ne_eq, Nat.reduceEqDiff, not_false_eq_true, stg_t, stg_f, vAd_s, vCap_s, blk_p, List.cons_append, List.nil_append, b2n_t, b2n_f, hN15_16, hN15_19, hN15_21]
    exact goW
   ·intro ξ v; rfl
   ·intro ξ k v S h3 hn hk
    first
    |rfl
   apply YSeq.callI (pick_gen (l := [0, 6]) (by repeat' (first | exact IsInts.nil | apply IsInts.cons)) (by simp)) (fun _ => (Evs.cons rfl (Evs.cons rfl Evs.nil)))
   ·intro ξ S h1 h3
    have hN16_19 := closed_false h1 h3 (k := 19) rfl (by decide)
    have hN16_21 := closed_false h1 h3 (k := 21) rfl (by decide)
    have hq4 := b2n_le (S 4)
    have hq7 := b2n_le (S 7)
    have hq10 := b2n_le (S 10)
    have hq13 := b2n_le (S 13)
    have hq16 := b2n_le (S 16)
    simp only [upd_same, updD_same, upd_ne, updD_ne, ne_eq, Nat.reduceEqDiff, not_false_eq_true, stg_t, stg_f, vAd_s, vCap_s, blk_p, List.cons_append, List.nil_append, b2n_t, b2n_f, h1, hN16_19, hN16_21]
    refine ⟨_, _, ?_, goXp, fun v => ?_⟩
    ·omega
    ·refine List.Perm.trans goXp (perm_strm ?_)
     omega
   apply YSeq.w (by intro _ _ _; rfl)
   ·intro ξ S h1 h2 h3 h4
    have hY17_4 : S 4 = true := h2 4 (by decide)
    have hY17_7 : S 7 = true := h2 7 (by decide)
    have hY17_10 : S 10 = true := h2 10 (by decide)
    have hY17_13 : S 13 = true := h2 13 (by decide)
    have hY17_16 : S 16 = true := h2 16 (by decide)
    have hN17_18 := closed_false h1 h3 (k := 18) rfl (by decide)
    have hN17_19 := closed_false hN17_18 h3 (k := 19) rfl (by decide)
    have hN17_21 := closed_false h1 h3 (k := 21) rfl (by decide)
    have hR86 := pf_str (one_gen (l := [⟨#[]⟩, ⟨#[97]⟩, ⟨#[100]⟩]) (by repeat' (first | exact IsStrs.nil | apply IsStrs.cons)) (by simp)) (h4 4 hY17_4)
    try simp only [InRange] at hR86
    have hRn86 := hR86
    try simp only [Nat.zero_add, Nat.reduceAdd] at hRn86
    have hR89 := pf_str (one_gen (l := [⟨#[]⟩, ⟨#[99, 97, 110]⟩]) (by repeat' (first | exact IsStrs.nil | apply IsStrs.cons)) (by simp)) (h4 7 hY17_7)
    try simp only [InRange] at hR89
    have hRn89 := hR89
    try simp only [Nat.zero_add, Nat.reduceAdd] at hRn89
    have hR92 := pf_int (pick_gen (l := [0, 5]) (by repeat' (first | exact IsInts.nil | apply IsInts.cons)) (by simp)) (h4 10 hY17_10)
    try simp only [InRange] at hR92
    have hRn92 := hR92
    try simp only [Nat.zero_add, Nat.reduceAdd] at hRn92
    have hR95 := pf_int (pick_gen (l := [5, 1001]) (by repeat' (first | exact IsInts.nil | apply IsInts.cons)) (by simp)) (h4 13 hY17_13)
    try simp only [InRange] at hR95
    have hRn95 := hR95
    try simp only [Nat.zero_add, Nat.reduceAdd] at hRn95
    have hR98 := pf_int (pick_gen (l := [0, 6]) (by repeat' (first | exact IsInts.nil | apply IsInts.cons)) (by simp)) (h4 16 hY17_16)
    try simp only [InRange] at hR98
    have hRn98 := hR98
    try simp only [Nat.zero_add, Nat.reduceAdd] at hRn98
    try simp only [upd_same, updD_same, upd_ne, updD_ne, ne_eq, Nat.reduceEqDiff, not_false_eq_true, stg_t, stg_f, vAd_s, vCap_s, blk_p, List.cons_append, List.nil_append, b2n_t, b2n_f, hY17_4, hY17_7, hY17_10, hY17_13, hY17_16, hN17_19, hN17_21]
    exact goW
   ·intro ξ v; rfl
   ·intro ξ k v S h3 hn hk
    first
    |rfl
    |skip
     have hY17_4 : S 4 = true := h3 17 _ rfl hn 4 (by decide)
     have hY17_7 : S 7 = true := h3 17 _ rfl hn 7 (by decide)
     have hY17_10 : S 10 = true := h3 17 _ rfl hn 10 (by decide)
     have hY17_13 : S 13 = true := h3 17 _ rfl hn 13 (by decide)
     have hY17_16 : S 16 = true := h3 17 _ rfl hn 16 (by decide)
     simp only [upd_S hY17_4 hk, upd_S hY17_7 hk, upd_S hY17_10 hk, upd_S hY17_13 hk, upd_S hY17_16 hk]
   apply YSeq.w (by intro _ _ _; rfl)
   ·intro ξ S h1 h2 h3 h4
    have hY18_17 : S 17 = true := h2 17 (by decide)
    have hY18_4 : S 4 = true := h3 17 _ rfl hY18_17 4 (by decide)
    have hY18_7 : S 7 = true := h3 17 _ rfl hY18_17 7 (by decide)
    have hY18_10 : S 10 = true := h3 17 _ rfl hY18_17 10 (by decide)
    have hY18_13 : S 13 = true := h3 17 _ rfl hY18_17 13 (by decide)
    have hY18_16 : S 16 = true := h3 17 _ rfl hY18_17 16 (by decide)
    have hN18_19 := closed_false h1 h3 (k := 19) rfl (by decide)
    have hN18_21 := closed_false h1 h3 (k := 21) rfl (by decide)
    have hR86 := pf_str (one_gen (l := [⟨#[]⟩, ⟨#[97]⟩, ⟨#[100]⟩]) (by repeat' (first | exact IsStrs.nil | apply IsStrs.cons)) (by simp)) (h4 4 hY18_4)
    try simp only [InRange] at hR86
    have hRn86 := hR86
    try simp only [Nat.zero_add, Nat.reduceAdd] at hRn86
    have hR89 := pf_str (one_gen (l := [⟨#[]⟩, ⟨#[99, 97, 110]⟩]) (by repeat' (first | exact IsStrs.nil | apply IsStrs.cons)) (by simp)) (h4 7 hY18_7)
    try simp only [InRange] at hR89
    have hRn89 := hR89
    try simp only [Nat.zero_add, Nat.reduceAdd] at hRn89
    have hR92 := pf_int (pick_gen (l := [0, 5]) (by repeat' (first | exact IsInts.nil | apply IsInts.cons)) (by simp)) (h4 10 hY18_10)
    try simp only [InRange] at hR92
    have hRn92 := hR92
    try simp only [Nat.zero_add, Nat.reduceAdd] at hRn92
    have hR95 := pf_int (pick_gen (l := [5, 1001]) (by repeat' (first | exact IsInts.nil | apply IsInts.cons)) (by simp)) (h4 13 hY18_13)
    try simp only [InRange] at hR95
    have hRn95 := hR95
    try simp only [Nat.zero_add, Nat.reduceAdd] at hRn95
    have hR98 := pf_int (pick_gen (l := [0, 6]) (by repeat' (first | exact IsInts.nil | apply IsInts.cons)) (by simp)) (h4 16 hY18_16)
    try simp only [InRange] at hR98
    have hRn98 := hR98
    try simp only [Nat.zero_add, Nat.reduceAdd] at hRn98
    try simp only [upd_same, updD_same, upd_ne, updD_ne, ne_eq, Nat.reduceEqDiff, not_false_eq_true, stg_t, stg_f, vAd_s, vCap_s, blk_p, List.cons_append, List.nil_append, b2n_t, b2n_f, hY18_4, hY18_7, hY18_10, hY18_13, hY18_16, hN18_19, hN18_21]
    exact goW
   ·intro ξ v; rfl
   ·intro ξ k v S h3 hn hk
    first
    |rfl
    |skip
     have hY18_17 : S 17 = true := h3 18 _ rfl hn 17 (by decide)
     have hY18_4 : S 4 = true := h3 17 _ rfl hY18_17 4 (by decide)
     have hY18_7 : S 7 = true := h3 17 _ rfl hY18_17 7 (by decide)
     have hY18_10 : S 10 = true := h3 17 _ rfl hY18_17 10 (by decide)
     have hY18_13 : S 13 = true := h3 17 _ rfl hY18_17 13 (by decide)
     have hY18_16 : S 16 = true := h3 17 _ rfl hY18_17 16 (by decide)
     simp only [upd_S hY18_4 hk, upd_S hY18_7 hk, upd_S hY18_10 hk, upd_S hY18_13 hk, upd_S hY18_16 hk]
   apply YSeq.append ((n + 1))
   ·intro ξ S h1 h2 h3 h4
    have hY19_18 : S 18 = true := h2 18 (by decide)
    have hY19_17 : S 17 = true := h3 18 _ rfl hY19_18 17 (by decide)
    have hY19_4 : S 4 = true := h3 17 _ rfl hY19_17 4 (by decide)
    have hY19_7 : S 7 = true := h3 17 _ rfl hY19_17 7 (by decide)
    have hY19_16 : S 16 = true := h2 16 (by decide)
    have hY19_13 : S 13 = true := h3 16 _ rfl hY19_16 13 (by decide)
    have hY19_10 : S 10 = true := h3 13 _ rfl hY19_13 10 (by decide)
    have hN19_21 := closed_false h1 h3 (k := 21) rfl (by decide)
    have hR86 := pf_str (one_gen (l := [⟨#[]⟩, ⟨#[97]⟩, ⟨#[100]⟩]) (by repeat' (first | exact IsStrs.nil | apply IsStrs.cons)) (by simp)) (h4 4 hY19_4)
    try simp only [InRange] at hR86
    have hRn86 := hR86
    try simp only [Nat.zero_add, Nat.reduceAdd] at hRn86
    have hR89 := pf_str (one_gen (l := [⟨#[]⟩, ⟨#[99, 97, 110]⟩]) (by repeat' (first | exact IsStrs.nil | apply IsStrs.cons)) (by simp)) (h4 7 hY19_7)
    try simp only [InRange] at hR89
    have hRn89 := hR89
    try simp only [Nat.zero_add, Nat.reduceAdd] at hRn89
    have hR92 := pf_int (pick_gen (l := [0, 5]) (by repeat' (first | exact IsInts.nil | apply IsInts.cons)) (by simp)) (h4 10 hY19_10)
    try simp only [InRange] at hR92
    have hRn92 := hR92
    try simp only [Nat.zero_add, Nat.reduceAdd] at hRn92
    have hR95 := pf_int (pick_gen (l := [5, 1001]) (by repeat' (first | exact IsInts.nil | apply IsInts.cons)) (by simp)) (h4 13 hY19_13)
    try simp only [InRange] at hR95
    have hRn95 := hR95
    try simp only [Nat.zero_add, Nat.reduceAdd] at hRn95
    have hR98 := pf_int (pick_gen (l := [0, 6]) (by repeat' (first | exact IsInts.nil | apply IsInts.cons)) (by simp)) (h4 16 hY19_16)
    try simp only [InRange] at hR98
    have hRn98 := hR98
    try simp only [Nat.zero_add, Nat.reduceAdd] at hRn98
    simp only [upd_same, updD_same, upd_ne, updD_ne, ne_eq, Nat.reduceEqDiff, not_false_eq_true, stg_t, stg_f, vAd_s, vCap_s, blk_p, List.cons_append, List.nil_append, b2n_t, b2n_f, hY19_4, hY19_7, hY19_10, hY19_13, hY19_16, h1, hN19_21]
    refine ⟨_, _, _, _, _, _, rfl, rfl, goXp, (by first | rfl | (simp; done) | omega), (by first | rfl | omega | (simp; done) | (simp; omega)), (by first | omega | (simp; done) | (simp; omega)), (by first | omega | (simp; done) | (simp; omega)), fun ad' cap' => ?_⟩
    exact goXm
   apply YSeq.w (by intro _ _ _; rfl)
   ·intro ξ S h1 h2 h3 h4
    have hY20_4 : S 4 = true := h2 4 (by decide)
    have hY20_7 : S 7 = true := h2 7 (by decide)
    have hY20_10 : S 10 = true := h2 10 (by decide)
    have hY20_13 : S 13 = true := h2 13 (by decide)
    have hY20_16 : S 16 = true := h2 16 (by decide)
    have hY20_19 : S 19 = true := h2 19 (by decide)
    have hN20_21 := closed_false h1 h3 (k := 21) rfl (by decide)
    have hR86 := pf_str (one_gen (l := [⟨#[]⟩, ⟨#[97]⟩, ⟨#[100]⟩]) (by repeat' (first | exact IsStrs.nil | apply IsStrs.cons)) (by simp)) (h4 4 hY20_4)
    try simp only [InRange] at hR86
    have hRn86 := hR86
    try simp only [Nat.zero_add, Nat.reduceAdd] at hRn86
    have hR89 := pf_str (one_gen (l := [⟨#[]⟩, ⟨#[99, 97, 110]⟩]) (by repeat' (first | exact IsStrs.nil | apply IsStrs.cons)) (by simp)) (h4 7 hY20_7)
    try simp only [InRange] at hR89
    have hRn89 := hR89
    try simp only [Nat.zero_add, Nat.reduceAdd] at hRn89
    have hR92 := pf_int (pick_gen (l := [0, 5]) (by repeat' (first | exact IsInts.nil | apply IsInts.cons)) (by simp)) (h4 10 hY20_10)
    try simp only [InRange] at hR92
    have hRn92 := hR92
    try simp only [Nat.zero_add, Nat.reduceAdd] at hRn92
    have hR95 := pf_int (pick_gen (l := [5, 1001]) (by repeat' (first | exact IsInts.nil | apply IsInts.cons)) (by simp)) (h4 13 hY20_13)
    try simp only [InRange] at hR95
    have hRn95 := hR95
    try simp only [Nat.zero_add, Nat.reduceAdd] at hRn95
    have hR98 := pf_int (pick_gen (l := [0, 6]) (by repeat' (first | exact IsInts.nil | apply IsInts.cons)) (by simp)) (h4 16 hY20_16)
    try simp only [InRange] at hR98
    have hRn98 := hR98
    try simp only [Nat.zero_add, Nat.reduceAdd] at hRn98
    try simp only [upd_same, updD_same, upd_ne, updD_ne, ne_eq, Nat.reduceEqDiff, not_false_eq_true, stg_t, stg_f, vAd_s, vCap_s, blk_p, List.cons_append, List.nil_append, b2n_t, b2n_f, hY20_4, hY20_7, hY20_10, hY20_13, hY20_16, hY20_19, hN20_21]
    exact goW
   ·intro ξ v; rfl
   ·intro ξ k v S h3 hn hk
    first
    |rfl
    |skip
     have hY20_4 : S 4 = true := h3 20 _ rfl hn 4 (by decide)
     have hY20_7 : S 7 = true := h3 20 _ rfl hn 7 (by decide)
     have hY20_10 : S 10 = true := h3 20 _ rfl hn 10 (by decide)
     have hY20_13 : S 13 = true := h3 20 _ rfl hn 13 (by decide)
     have hY20_16 : S 16 = true := h3 20 _ rfl hn 16 (by decide)
     have hY20_19 : S 19 = true := h3 20 _ rfl hn 19 (by decide)
     simp only [upd_S hY20_4 hk, upd_S hY20_7 hk, upd_S hY20_10 hk, upd_S hY20_13 hk, upd_S hY20_16 hk, upd_S hY20_19 hk]
   apply YSeq.store
   ·intro ξ S h1 h2 h3 h4
    have hY21_4 : S 4 = true := h2 4 (by decide)
    have hY21_7 : S 7 = true := h2 7 (by decide)
    have hY21_10 : S 10 = true := h2 10 (by decide)
    have hY21_13 : S 13 = true := h2 13 (by decide)
    have hY21_16 : S 16 = true := h2 16 (by decide)
    have hY21_19 : S 19 = true := h2 19 (by decide)
    have hR86 := pf_str (one_gen (l := [⟨#[]⟩, ⟨#[97]⟩, ⟨#[100]⟩]) (by repeat' (first | exact IsStrs.nil | apply IsStrs.cons)) (by simp)) (h4 4 hY21_4)
    try simp only [InRange] at hR86
    have hRn86 := hR86
    try simp only [Nat.zero_add, Nat.reduceAdd] at hRn86
    have hR89 := pf_str (one_gen (l := [⟨#[]⟩, ⟨#[99, 97, 110]⟩]) (by repeat' (first | exact IsStrs.nil | apply IsStrs.cons)) (by simp)) (h4 7 hY21_7)
    try simp only [InRange] at hR89
    have hRn89 := hR89
    try simp only [Nat.zero_add, Nat.reduceAdd] at hRn89
    have hR92 := pf_int (pick_gen (l := [0, 5]) (by repeat' (first | exact IsInts.nil | apply IsInts.cons)) (by simp)) (h4 10 hY21_10)
    try simp only [InRange] at hR92
    have hRn92 := hR92
    try simp only [Nat.zero_add, Nat.reduceAdd] at hRn92
    have hR95 := pf_int (pick_gen (l := [5, 1001]) (by repeat' (first | exact IsInts.nil | apply IsInts.cons)) (by simp)) (h4 13 hY21_13)
    try simp only [InRange] at hR95
    have hRn95 := hR95
    try simp only [Nat.zero_add, Nat.reduceAdd] at hRn95
    have hR98 := pf_int (pick_gen (l := [0, 6]) (by repeat' (first | exact IsInts.nil | apply IsInts.cons)) (by simp)) (h4 16 hY21_16)
    try simp only [InRange] at hR98
    have hRn98 := hR98
    try simp only [Nat.zero_add, Nat.reduceAdd] at hRn98
    simp only [upd_same, updD_same, upd_ne, updD_ne, ne_eq, Nat.reduceEqDiff, not_false_eq_true, stg_t, stg_f, vAd_s, vCap_s, blk_p, List.cons_append, List.nil_append, b2n_t, b2n_f, hY21_4, hY21_7, hY21_10, hY21_13, hY21_16, hY21_19, h1]
    refine ⟨_, _, _, _, _, _, _, rfl, rfl, inferInstance, goXp, rfl, Nat.le_of_ble_eq_true rfl, ?_⟩
    exact goXm
   refine YSeq.nil fun ξ hf => ?_
   have hR86 := pf_str (one_gen (l := [⟨#[]⟩, ⟨#[97]⟩, ⟨#[100]⟩]) (by repeat' (first | exact IsStrs.nil | apply IsStrs.cons)) (by simp)) (hf 4)
   try simp only [InRange] at hR86
   have hR89 := pf_str (one_gen (l := [⟨#[]⟩, ⟨#[99, 97, 110]⟩]) (by repeat' (first | exact IsStrs.nil | apply IsStrs.cons)) (by simp)) (hf 7)
   try simp only [InRange] at hR89
   have hR92 := pf_int (pick_gen (l := [0, 5]) (by repeat' (first | exact IsInts.nil | apply IsInts.cons)) (by simp)) (hf 10)
   try simp only [InRange] at hR92
   have hR95 := pf_int (pick_gen (l := [5, 1001]) (by repeat' (first | exact IsInts.nil | apply IsInts.cons)) (by simp)) (hf 13)
   try simp only [InRange] at hR95
   have hR98 := pf_int (pick_gen (l := [0, 6]) (by repeat' (first | exact IsInts.nil | apply IsInts.cons)) (by simp)) (hf 16)
   try simp only [InRange] at hR98
   refine ⟨[(0, _), (2, _), (3, _)], _, Ent.trans (Ent.eqc rfl (by first | (simp only [upd_same, updD_same, upd_ne, updD_ne, ne_eq, Nat.reduceEqDiff, not_false_eq_true, stg_t, stg_f, vAd_s, vCap_s, blk_p, List.cons_append, List.nil_append, b2n_t, b2n_f, ownV, slV, ptV] <;> rfl) | rfl)) (Ent.sub goSub), ?_⟩
   clear hf
   generalize vStr (ξ 4) = x86 at hR86 ⊢
   generalize vStr (ξ 7) = x89 at hR89 ⊢
   generalize vInt (ξ 10) = x92 at hR92 ⊢
   generalize vInt (ξ 13) = x95 at hR95 ⊢
   generalize vInt (ξ 16) = x98 at hR98 ⊢
   generalize vAd (ξ 19) = ad101
   generalize vCap (ξ 19) = cap101
   repeat (first | refine InB.norm ?_ | refine Then.norm ?_)
   repeat' (first | refine goH ?_ | ((fail_if_success refine Ops.k_load ?_); refine goV ?_) | ((fail_if_success refine Ops.k_load ?_); refine goB (fun b => ?_)) | ((fail_if_success refine Ops.k_load ?_); refine goC (fun ad cap => ?_)) | refine goG ?_ | (refine Ops.k_guard ?_; first | (refine Ops.guard_dec rfl rfl ?_ ?_ <;> intro hc <;> try omega) | refine Ops.guard_split rfl rfl ?_ ?_ <;> intro hc) | refine goI ?_ | (refine Cw.k_cond ?_; first | (refine Cw.cond_dec rfl ?_ ?_ <;> intro hc <;> try omega) | refine Cw.cond_bool rfl ?_ ?_ <;> intro hc) | refine goR ?_ | refine goP ?_ | apply PSeq.cons | apply PSeq.yes rfl rfl rfl | exact goW | fail)
   have hsn := slot_snoc L ⟨x86, x89, x92, x95, x98⟩
   rw [← hrL] at hsn
   refine Ops.ent (Ent.settle_box (b := b) (i := 0) (kk := 3) (rows := rows) (ts' := [.tubes l, Tr.raw (.slice aK 6 cK), Tr.raw (.slice ad101 (n + 1) cap101), .int G]) (by exact Perm.cons' goPk (Perm.cons' goPk (List.Perm.refl _))) rfl rfl (by rw [hrows]; rfl)) ?_
   refine Ops.ent (Ent.settle_box (b := b) (i := 1) (kk := 1) (rows := (intRows [5, 10, 25, 50, 100, 200])) (ts' := [.tubes l, .ints [5, 10, 25, 50, 100, 200], Tr.raw (.slice ad101 (n + 1) cap101), .int G]) (by exact Perm.cons' goPk (Perm.cons' goPk (List.Perm.refl _))) rfl rfl rfl) ?_
   refine Ops.ent (Ent.settle_box (b := b) (i := 2) (kk := 5) (rows := (rL ++ [[.str x86, .str x89, .int x92, .int x95, .int x98]])) (ts' := [.tubes l, .ints [5, 10, 25, 50, 100, 200], .slots (L ++ [⟨x86, x89, x92, x95, x98⟩]), .int G]) (by exact Perm.cons' goPk (Perm.cons' goPk (List.Perm.refl _))) rfl (by rw [List.length_append, ← hn]; rfl) (by rw [hsn]; rfl)) ?_
   repeat' (first | refine goH ?_ | refine goV ?_ | refine goB (fun b => ?_) | refine goC (fun ad cap => ?_) | refine goG ?_ | (refine Ops.k_guard ?_; first | (refine Ops.guard_dec rfl rfl ?_ ?_ <;> intro hc <;> try omega) | refine Ops.guard_split rfl rfl ?_ ?_ <;> intro hc) | refine goI ?_ | (refine Cw.k_cond ?_; first | (refine Cw.cond_dec rfl ?_ ?_ <;> intro hc <;> try omega) | refine Cw.cond_bool rfl ?_ ?_ <;> intro hc) | refine goR ?_ | refine goP ?_ | apply PSeq.cons | apply PSeq.yes rfl rfl rfl | exact goW | fail)
   exact Fin.ret (Ent.trans (Ent.setbox (s := 2) rfl goPk) (Ent.strm_only goPk (by omega))) (Outs.sole rfl goOe) ⟨rfl, l, _, _, G, rfl, by (first | omega | (simp; done) | (simp; omega)), by (first | decide | simp), by (first | omega | (simp; done) | (simp; omega))⟩
  ·refine Ops.ent (Ent.nil 5 63) ?_
   refine Ops.ent (Ent.settle_box (b := b) (i := 0) (kk := 3) (rows := rows) (ts' := [.tubes l, Tr.raw (.slice aK 6 cK), Tr.raw (.slice none 0 0), .int G]) (by exact Perm.cons' goPk (Perm.cons' goPk (List.Perm.refl _))) rfl rfl (by rw [hrows]; rfl)) ?_
   refine Ops.ent (Ent.settle_box (b := b) (i := 1) (kk := 1) (rows := (intRows [5, 10, 25, 50, 100, 200])) (ts' := [.tubes l, .ints [5, 10, 25, 50, 100, 200], Tr.raw (.slice none 0 0), .int G]) (by exact Perm.cons' goPk (Perm.cons' goPk (List.Perm.refl _))) rfl rfl rfl) ?_
   refine Ops.ent (Ent.settle_box (b := b) (i := 2) (kk := 5) (rows := []) (ts' := [.tubes l, .ints [5, 10, 25, 50, 100, 200], .slots [], .int G]) (by exact Perm.cons' goPk (Perm.cons' goPk (List.Perm.refl _))) rfl rfl rfl) ?_
   repeat' (first | refine goH ?_ | refine goV ?_ | refine goB (fun b => ?_) | refine goC (fun ad cap => ?_) | refine goG ?_ | (refine Ops.k_guard ?_; first | (refine Ops.guard_dec rfl rfl ?_ ?_ <;> intro hc <;> try omega) | refine Ops.guard_split rfl rfl ?_ ?_ <;> intro hc) | refine goI ?_ | (refine Cw.k_cond ?_; first | (refine Cw.cond_dec rfl ?_ ?_ <;> intro hc <;> try omega) | refine Cw.cond_bool rfl ?_ ?_ <;> intro hc) | refine goR ?_ | refine goP ?_ | apply PSeq.cons | apply PSeq.yes rfl rfl rfl | exact goW | fail)
   exact Fin.ret (Ent.trans (Ent.setbox (s := 2) rfl goPk) (Ent.strm_only goPk (by omega))) (Outs.sole rfl goOe) ⟨rfl, l, _, [], G, rfl, by (first | omega | (simp; done) | (simp; omega)), by (first | decide | simp), by (first | omega | (simp; done) | (simp; omega))⟩
  ·refine Ops.ent (Ent.settle_box (b := b) (i := 0) (kk := 3) (rows := rows) (ts' := [.tubes l, Tr.raw (.slice aK 6 cK), Tr.raw (.slice aL n cL), .int G]) (by exact Perm.cons' goPk (Perm.cons' goPk (List.Perm.refl _))) rfl rfl (by rw [hrows]; rfl)) ?_
   refine Ops.ent (Ent.settle_box (b := b) (i := 1) (kk := 1) (rows := (intRows [5, 10, 25, 50, 100, 200])) (ts' := [.tubes l, .ints [5, 10, 25, 50, 100, 200], Tr.raw (.slice aL n cL), .int G]) (by exact Perm.cons' goPk (Perm.cons' goPk (List.Perm.refl _))) rfl rfl rfl) ?_
   refine Ops.ent (Ent.settle_box (b := b) (i := 2) (kk := 5) (rows := rL) (ts' := [.tubes l, .ints [5, 10, 25, 50, 100, 200], .slots L, .int G]) (by exact Perm.cons' goPk (Perm.cons' goPk (List.Perm.refl _))) rfl hn (by rw [hrL]; rfl)) ?_
   repeat' (first | refine goH ?_ | refine goV ?_ | refine goB (fun b => ?_) | refine goC (fun ad cap => ?_) | refine goG ?_ | (refine Ops.k_guard ?_; first | (refine Ops.guard_dec rfl rfl ?_ ?_ <;> intro hc <;> try omega) | refine Ops.guard_split rfl rfl ?_ ?_ <;> intro hc) | refine goI ?_ | (refine Cw.k_cond ?_; first | (refine Cw.cond_dec rfl ?_ ?_ <;> intro hc <;> try omega) | refine Cw.cond_bool rfl ?_ ?_ <;> intro hc) | refine goR ?_ | refine goP ?_ | apply PSeq.cons | apply PSeq.yes rfl rfl rfl | exact goW | fail)
   exact Fin.ret (Ent.trans (Ent.setbox (s := 2) rfl goPk) (Ent.strm_only goPk (by omega))) (Outs.sole rfl goOe) ⟨rfl, l, [10, 25, 50, 100, 200], L, G, rfl, by (first | omega | (simp; done) | (simp; omega)), by (first | decide | simp), by (first | omega | (simp; done) | (simp; omega))⟩
  ·refine Ops.ent (Ent.settle_box (b := b) (i := 0) (kk := 3) (rows := rows) (ts' := [.tubes l, Tr.raw (.slice aK 6 cK), Tr.raw (.slice aL n cL), .int G2]) (by exact Perm.cons' goPk (Perm.cons' goPk (List.Perm.refl _))) rfl rfl (by rw [hrows]; rfl)) ?_
   refine Ops.ent (Ent.settle_box (b := b) (i := 1) (kk := 1) (rows := (intRows [5, 10, 25, 50, 100, 200])) (ts' := [.tubes l, .ints [5, 10, 25, 50, 100, 200], Tr.raw (.slice aL n cL), .int G2]) (by exact Perm.cons' goPk (Perm.cons' goPk (List.Perm.refl _))) rfl rfl rfl) ?_
   refine Ops.ent (Ent.settle_box (b := b) (i := 2) (kk := 5) (rows := rL) (ts' := [.tubes l, .ints [5, 10, 25, 50, 100, 200], .slots L, .int G2]) (by exact Perm.cons' goPk (Perm.cons' goPk (List.Perm.refl _))) rfl hn (by rw [hrL]; rfl)) ?_
   repeat' (first | refine goH ?_ | refine goV ?_ | refine goB (fun b => ?_) | refine goC (fun ad cap => ?_) | refine goG ?_ | (refine Ops.k_guard ?_; first | (refine Ops.guard_dec rfl rfl ?_ ?_ <;> intro hc <;> try omega) | refine Ops.guard_split rfl rfl ?_ ?_ <;> intro hc) | refine goI ?_ | (refine Cw.k_cond ?_; first | (refine Cw.cond_dec rfl ?_ ?_ <;> intro hc <;> try omega) | refine Cw.cond_bool rfl ?_ ?_ <;> intro hc) | refine goR ?_ | refine goP ?_ | apply PSeq.cons | apply PSeq.yes rfl rfl rfl | exact goW | fail)
   exact Fin.ret (Ent.trans (Ent.setbox (s := 2) rfl goPk) (Ent.strm_only goPk (by omega))) (Outs.sole rfl goOe) ⟨rfl, l, _, L, G2, rfl, by (first | omega | (simp; done) | (simp; omega)), by (first | decide | simp), by (first | omega | (simp; done) | (simp; omega))⟩
end Lg
