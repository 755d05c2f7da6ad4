/- A part of the proof of a law of this seat: it adds no condition. By an AI agent. -/
import Derived.Test.YtaoclkglimibeaaGreatDoorLe8
set_option linter.all false
set_option maxRecDepth 100000
set_option maxHeartbeats 8000000
namespace Lg
open Go Go.Proofs

/-! ### add, post -/
theorem any_take3 {α : Type} {p : α → Bool} {l : List α} {k : Nat} {x : α} (h : l[k]? = some x) : (l.take (k + 1)).any p = ((l.take k).any p || p x) := by
  rw [List.take_add_one, h, Option.toList_some, List.any_append]
  simp
theorem any_mem3 {α : Type} {p : α → Bool} {l : List α} {k : Nat} {x : α} (h : l[k]? = some x) (hp : p x = true) : l.any p = true := List.any_eq_true.2 ⟨x, List.mem_of_getElem? h, hp⟩
abbrev addR (L : List Ps) (p : Ps) : List Ps × Int × Int := addO 2000 L p
theorem addR_full {L : List Ps} {p : Ps} (h : L.length = 2000) : addR L p = (L, 0, 12) := by unfold addR addO; rw [if_pos h]
theorem addR_ov {L : List Ps} {p : Ps} (h : ¬ L.length = 2000) (h2 : p.e.ls.any (ovL L) = true) : addR L p = (L, 0, 2) := by unfold addR addO; rw [if_neg h, if_pos h2]
theorem addR_ok {L : List Ps} {p : Ps} (h : ¬ L.length = 2000) (h2 : p.e.ls.any (ovL L) = false) : addR L p = (L ++ [p], (L.length : Int) + 1, 0) := by unfold addR addO; rw [if_neg h, if_neg (by rw [h2]; decide)]
def addRes (L : List Ps) (p : Ps) : Tr := .tup [.int (addR L p).2.1, .int (addR L p).2.2]
theorem addX_fn (bx n cap bm : Nat) (ad : Option Addr) (f : Nat → Bool) (L : List Ps) (m : List (ByteArray × Int)) (p : Ps) (hok : OkL L) (hp : OkP p) (hm : MI m L) (hn : n = L.length) (hf : f n = false) :
    Spec Tryz.prog 50 [.ptr bx, .agg (rowP p false)] [ledX bx ad n cap bm, ownX ad cap f L, sumC' bm m]
      (fun r cs => ∃ (ad' : Option Addr) (n' cap' : Nat) (m' : List (ByteArray × Int)), r = addRes L p ∧ MI m' (addR L p).1 ∧ n' = (addR L p).1.length ∧ cs = [ledX bx ad' n' cap' bm, ownX ad' cap' f (addR L p).1, sumC' bm m']) := by
  have hL : (rowsF f L 0).length = n := by rw [rowsF_len, hn]
  have hlr : (p.e.ls.map Ln.row).length = p.e.ls.length := List.length_map _
  obtain ⟨hLl, hLo⟩ := hok
  obtain ⟨hp1, hp2⟩ := hp
  have hbd := fun a => bal_bd a hLo
  have hst : rowP p false = [.int p.e.day, .str p.e.text, .lns p.e.ls, .int p.back, .bool false] := rfl
  rw [hst]
  refine Spec.body Tryz.func50 rfl rfl (Tryz.ntmps50) rfl fun w0 own0 M => ?_
  unfold addRes
  by_cases hfull : L.length = 2000
  · rw [addR_full hfull]
    repeat' (first | refine goH ?_ | refine goV ?_ | refine goB (fun b => ?_) | refine goC (fun ad cap => ?_) | refine goI ?_ | (refine Cw.k_cond ?_; first | (refine Cw.cond_dec rfl (fun hc => ?_) (fun hc => ?_) <;> try (exfalso; omega)) | refine Cw.cond_bool rfl (fun hc => ?_) (fun hc => ?_)) | refine goR ?_ | refine goP ?_ | apply PSeq.cons | apply PSeq.yes rfl rfl rfl | exact goW | fail)
    exact Fin.ret (Ent.take goTk) (Outs.many rfl (OutL.cons goOe (OutL.cons goOe OutL.nil)) rfl) ⟨ad, n, cap, m, rfl, hm, hn, rfl⟩
  repeat' (first | refine goH ?_ | refine goV ?_ | refine goB (fun b => ?_) | refine goC (fun ad cap => ?_) | refine goI ?_ | (refine Cw.k_cond ?_; first | (refine Cw.cond_dec rfl (fun hc => ?_) (fun hc => ?_) <;> try (exfalso; omega)) | refine Cw.cond_bool rfl (fun hc => ?_) (fun hc => ?_)) | refine goR ?_ | refine goP ?_ | apply PSeq.cons | apply PSeq.yes rfl rfl rfl | exact goW | fail)
  refine Cw.loopI [(0, _), (3, _), (18, _), (19, _)] _ (fun q e cc => ∃ k : Nat, q = p.e.ls.length - k ∧ (k ≤ p.e.ls.length ∧ (p.e.ls.take k).any (ovL L) = false) ∧ e = [(20, .int k)] ∧ cc = []) ⟨_, _, _, (Ent.mkP goSub goPm), 0, rfl, ⟨by omega, rfl⟩, rfl, rfl⟩ ?_
  rintro _ _ _ ⟨k, rfl, ⟨hk, hany⟩, rfl, rfl⟩
  by_cases hkl : k < p.e.ls.length
  · obtain ⟨x, hx⟩ := at_lt hkl
    have hxc := hp2 x (List.mem_of_getElem? hx)
    have hrow : (p.e.ls.map Ln.row)[k]? = some [.str x.acc, .int x.c] := rows_at hx
    have hmr : mread x.acc (.int .i64 0) (tkv m) = Tr.int (bal x.acc L) := by rw [tkv_read, hm.val]
    have hb := hbd x.acc
    have hA := any_take3 (p := ovL L) hx
    have ho := out_fn (bal x.acc L + x.c) (-1000000000000) 1000000000000
    have hov : ovL L x = outB (bal x.acc L + x.c) (-1000000000000) 1000000000000 := by unfold ovL outB; exact decide_eq_decide.2 (by omega)
    rw [← hov] at ho
    have hno : ovL L x = true → addR L p = (L, 0, 2) := fun h => addR_ov hfull (any_mem3 hx h)
    rw [hany, Bool.false_or] at hA
    clear hov hany
    generalize ovL L x = ov at *
    generalize bal x.acc L = v at *
    cases ov
    · repeat' (first | refine goH ?_ | refine goV ?_ | refine goB (fun b => ?_) | refine goC (fun ad cap => ?_) | refine goI ?_ | (refine Cw.k_cond ?_; first | (refine Cw.cond_dec rfl (fun hc => ?_) (fun hc => ?_) <;> try (exfalso; omega)) | refine Cw.cond_bool rfl (fun hc => ?_) (fun hc => ?_)) | fail)
      refine Cw.region_seqM 10 rfl (by decide +kernel) rfl ?_
      repeat' (first | refine goH ?_ | refine goV ?_ | refine goB (fun b => ?_) | refine goC (fun ad cap => ?_) | refine goI ?_ | (refine Cw.k_cond ?_; first | (refine Cw.cond_dec rfl (fun hc => ?_) (fun hc => ?_) <;> try (exfalso; omega)) | refine Cw.cond_bool rfl (fun hc => ?_) (fun hc => ?_)) | exact OpV.lookupQ rfl rfl goPk hmr | (refine Ops.k_calla ?_; first | (refine Ops.k_callf 49 ?_; refine Ops.callV ho (Evs.cons rfl (Evs.cons rfl (Evs.cons rfl Evs.nil))) rfl ?_)) | (apply OpW.k_call; first | (apply OpW.k_callf 49; exact OpW.callV ho (Evs.cons rfl (Evs.cons rfl (Evs.cons rfl Evs.nil))))) | refine goP ?_ | apply PSeq.cons | apply PSeq.yes rfl rfl rfl | exact goW | fail)
      exact ⟨_, _, _, (Ent.mk goSub goTk), ⟨k + 1, rfl, ⟨by omega, hA⟩, rfl, rfl⟩, by omega⟩
    · rw [hno rfl]
      repeat' (first | refine goH ?_ | refine goV ?_ | refine goB (fun b => ?_) | refine goC (fun ad cap => ?_) | refine goI ?_ | (refine Cw.k_cond ?_; first | (refine Cw.cond_dec rfl (fun hc => ?_) (fun hc => ?_) <;> try (exfalso; omega)) | refine Cw.cond_bool rfl (fun hc => ?_) (fun hc => ?_)) | fail)
      refine Cw.region_seqM 10 rfl (by decide +kernel) rfl ?_
      repeat' (first | refine goH ?_ | refine goV ?_ | refine goB (fun b => ?_) | refine goC (fun ad cap => ?_) | refine goI ?_ | (refine Cw.k_cond ?_; first | (refine Cw.cond_dec rfl (fun hc => ?_) (fun hc => ?_) <;> try (exfalso; omega)) | refine Cw.cond_bool rfl (fun hc => ?_) (fun hc => ?_)) | exact OpV.lookupQ rfl rfl goPk hmr | (refine Ops.k_calla ?_; first | (refine Ops.k_callf 49 ?_; refine Ops.callV ho (Evs.cons rfl (Evs.cons rfl (Evs.cons rfl Evs.nil))) rfl ?_)) | (apply OpW.k_call; first | (apply OpW.k_callf 49; exact OpW.callV ho (Evs.cons rfl (Evs.cons rfl (Evs.cons rfl Evs.nil))))) | refine goP ?_ | apply PSeq.cons | apply PSeq.yes rfl rfl rfl | exact goW | fail)
      exact Fin.ret (Ent.take goTk) (Outs.many rfl (OutL.cons goOe (OutL.cons goOe OutL.nil)) rfl) ⟨ad, n, cap, m, rfl, hm, hn, rfl⟩
  have hal : p.e.ls.any (ovL L) = false := by rwa [List.take_of_length_le (by omega)] at hany
  rw [addR_ok hfull hal]
  clear hany hk
  repeat' (first | refine goH ?_ | refine goV ?_ | refine goB (fun b => ?_) | refine goC (fun ad cap => ?_) | refine goI ?_ | (refine Cw.k_cond ?_; first | (refine Cw.cond_dec rfl (fun hc => ?_) (fun hc => ?_) <;> try (exfalso; omega)) | refine Cw.cond_bool rfl (fun hc => ?_) (fun hc => ?_)) | refine goR ?_ | refine goP ?_ | apply PSeq.cons | apply PSeq.yes rfl rfl rfl | exact goW | fail)
  refine Cw.loopI [(0, _), (3, _), (38, _), (39, _)] _ (fun q e cc => ∃ (k : Nat) (m2 : List (ByteArray × Int)), q = p.e.ls.length - k ∧ (k ≤ p.e.ls.length ∧ m2 = addM m (p.e.ls.take k)) ∧ e = [(40, .int k)] ∧ cc = [sumC' bm m2]) ⟨_, _, _, (Ent.mkP goSub goPm), 0, m, rfl, ⟨by omega, by rw [List.take_zero]; rfl⟩, rfl, rfl⟩ ?_
  clear hkl
  rintro _ _ _ ⟨k, m2, rfl, ⟨hk, hm2k⟩, rfl, rfl⟩
  by_cases hkl : k < p.e.ls.length
  · obtain ⟨x, hx⟩ := at_lt hkl
    have hxc := hp2 x (List.mem_of_getElem? hx)
    have hrow : (p.e.ls.map Ln.row)[k]? = some [.str x.acc, .int x.c] := rows_at hx
    have hv : mI x.acc (addM m (p.e.ls.take k)) = bal x.acc L + lnsOf x.acc (p.e.ls.take k) := by rw [addM_val, hm.val]
    have hb2 := lnsOf_bd x.acc (l := p.e.ls.take k) (fun y hy => hp2 y (List.mem_of_mem_take hy))
    have hb := hbd x.acc
    have htl : (p.e.ls.take k).length = k := by rw [List.length_take]; omega
    rw [htl] at hb2
    have hs := addM_step (m := m) hx
    rw [← hm2k] at hv hs
    clear hm2k
    have hms : mset x.acc (Tr.int (mI x.acc m2 + x.c)) (tkv m2) = tkv (addM m (p.e.ls.take (k + 1))) := by rw [hs, tkv_set]; rfl
    have hmr : mread x.acc (.int .i64 0) (tkv m2) = Tr.int (mI x.acc m2) := tkv_read _ _
    generalize mI x.acc m2 = v at *
    clear hs htl
    generalize bal x.acc L = v1 at *
    generalize lnsOf x.acc (p.e.ls.take k) = v2 at *
    repeat' (first | refine goH ?_ | refine goV ?_ | refine goB (fun b => ?_) | refine goC (fun ad cap => ?_) | refine goI ?_ | (refine Cw.k_cond ?_; first | (refine Cw.cond_dec rfl (fun hc => ?_) (fun hc => ?_) <;> try (exfalso; omega)) | refine Cw.cond_bool rfl (fun hc => ?_) (fun hc => ?_)) | fail)
    refine Cw.region_seqM 10 rfl (by decide +kernel) rfl ?_
    repeat' (first | refine goH ?_ | (refine Ops.k_mapUpdate ?_; first | (refine Ops.mapUpdate rfl rfl rfl goPk ?_; rw [hms])) | refine goV ?_ | refine goB (fun b => ?_) | refine goC (fun ad cap => ?_) | refine goI ?_ | (refine Cw.k_cond ?_; first | (refine Cw.cond_dec rfl (fun hc => ?_) (fun hc => ?_) <;> try (exfalso; omega)) | refine Cw.cond_bool rfl (fun hc => ?_) (fun hc => ?_)) | exact OpV.lookupQ rfl rfl goPk hmr | refine goP ?_ | apply PSeq.cons | apply PSeq.yes rfl rfl rfl | exact goW | fail)
    exact ⟨_, _, _, (Ent.mk goSub goTk), ⟨k + 1, _, rfl, ⟨by omega, rfl⟩, rfl, rfl⟩, by omega⟩
  have hke : p.e.ls.take k = p.e.ls := List.take_of_length_le (by omega)
  rw [hke] at hm2k
  have hm2 := hm.add p
  rw [← hm2k] at hm2
  have hrs : rowsF f (L ++ [p]) 0 = rowsF f L 0 ++ [[Tr.int p.e.day, Tr.str p.e.text, Tr.lns p.e.ls, Tr.int p.back, Tr.bool false]] := by
    rw [rowsF_snoc, Nat.zero_add, ← hn, hf]
    rfl
  clear hke hbd hm2k
  repeat' (first | refine goH ?_ | refine goV ?_ | refine goB (fun b => ?_) | refine goC (fun ad cap => ?_) | refine goI ?_ | (refine Cw.k_cond ?_; first | (refine Cw.cond_dec rfl (fun hc => ?_) (fun hc => ?_) <;> try (exfalso; omega)) | refine Cw.cond_bool rfl (fun hc => ?_) (fun hc => ?_)) | fail)
  first | refine Cw.region_YP (fun ξ S => stg (S 10) (ledX bx ad n cap bm) (Chunk.box bx 76 [slV (ξ 7) (n + 1), Tr.raw (.map (some bm))]) :: stg (S 7) (ownX ad cap f L) (ownV (ξ 7) 5 78 (rowsF f L 0 ++ [[Tr.int p.e.day, Tr.str p.e.text, Tr.lns p.e.ls, Tr.int p.back, Tr.bool false]])) :: sumC' bm m2 :: Chunk.box b 78 [.int p.e.day, .str p.e.text, .lns p.e.ls, .int p.back, .bool false] :: []) rfl (by decide +kernel) rfl ((fun (ξ : Nat → Value) (S : Nat → Bool) => stg (S 10) (ledX bx ad n cap bm) (Chunk.box bx 76 [slV (ξ 7) (n + 1), Tr.raw (.map (some bm))]) :: stg (S 7) (ownX ad cap f L) (ownV (ξ 7) 5 78 (rowsF f L 0 ++ [[Tr.int p.e.day, Tr.str p.e.text, Tr.lns p.e.ls, Tr.int p.back, Tr.bool false]])) :: sumC' bm m2 :: Chunk.box b 78 [.int p.e.day, .str p.e.text, .lns p.e.ls, .int p.back, .bool false] :: []) (fun _ => undef) (fun _ => false)) (by simp only [upd_same, updD_same, upd_ne, updD_ne, ne_eq, Nat.reduceEqDiff, not_false_eq_true, stg_t, stg_f, vAd_s, vCap_s, blk_p, List.cons_append, List.nil_append, b2n_t, b2n_f]; exact goXm) (fun _ => rfl) ?_ | fail
  apply YSeq.w (by intro _ _ _; rfl)
  · intro ξ S h1 h2 h3 h4
    have hN0_10 := closed_false h1 h3 (k := 10) rfl (by decide)
    try simp only [upd_same, updD_same, upd_ne, updD_ne, ne_eq, Nat.reduceEqDiff, not_false_eq_true, stg_t, stg_f, vAd_s, vCap_s, blk_p, List.cons_append, List.nil_append, b2n_t, b2n_f, hN0_10]
    exact goW
  · intro ξ v; rfl
  · intro ξ k v S h3 hn hk
    first
    | rfl
  apply YSeq.w (by intro _ _ _; rfl)
  · intro ξ S h1 h2 h3 h4
    have hN1_2 := closed_false h1 h3 (k := 2) rfl (by decide)
    have hN1_3 := closed_false hN1_2 h3 (k := 3) rfl (by decide)
    have hN1_4 := closed_false hN1_3 h3 (k := 4) rfl (by decide)
    have hN1_7 := closed_false hN1_4 h3 (k := 7) rfl (by decide)
    have hN1_10 := closed_false h1 h3 (k := 10) rfl (by decide)
    try simp only [upd_same, updD_same, upd_ne, updD_ne, ne_eq, Nat.reduceEqDiff, not_false_eq_true, stg_t, stg_f, vAd_s, vCap_s, blk_p, List.cons_append, List.nil_append, b2n_t, b2n_f, hN1_7, hN1_10]
    exact goW
  · intro ξ v; rfl
  · intro ξ k v S h3 hn hk
    first
    | rfl
  apply YSeq.w (by intro _ _ _; rfl)
  · intro ξ S h1 h2 h3 h4
    have hN2_3 := closed_false h1 h3 (k := 3) rfl (by decide)
    have hN2_4 := closed_false hN2_3 h3 (k := 4) rfl (by decide)
    have hN2_7 := closed_false hN2_4 h3 (k := 7) rfl (by decide)
    have hN2_10 := closed_false h1 h3 (k := 10) rfl (by decide)
    try simp only [upd_same, updD_same, upd_ne, updD_ne, ne_eq, Nat.reduceEqDiff, not_false_eq_true, stg_t, stg_f, vAd_s, vCap_s, blk_p, List.cons_append, List.nil_append, b2n_t, b2n_f, hN2_7, hN2_10]
    exact goW
  · intro ξ v; rfl
  · intro ξ k v S h3 hn hk
    first
    | rfl
  apply YSeq.w (by intro _ _ _; rfl)
  · intro ξ S h1 h2 h3 h4
    have hN3_4 := closed_false h1 h3 (k := 4) rfl (by decide)
    have hN3_7 := closed_false hN3_4 h3 (k := 7) rfl (by decide)
    have hN3_10 := closed_false h1 h3 (k := 10) rfl (by decide)
    try simp only [upd_same, updD_same, upd_ne, updD_ne, ne_eq, Nat.reduceEqDiff, not_false_eq_true, stg_t, stg_f, vAd_s, vCap_s, blk_p, List.cons_append, List.nil_append, b2n_t, b2n_f, hN3_7, hN3_10]
    exact goW
  · intro ξ v; rfl
  · intro ξ k v S h3 hn hk
    first
    | rfl
  apply YSeq.w (by intro _ _ _; rfl)
  · intro ξ S h1 h2 h3 h4
    have hN4_7 := closed_false h1 h3 (k := 7) rfl (by decide)
    have hN4_10 := closed_false h1 h3 (k := 10) rfl (by decide)
    try simp only [upd_same, updD_same, upd_ne, updD_ne, ne_eq, Nat.reduceEqDiff, not_false_eq_true, stg_t, stg_f, vAd_s, vCap_s, blk_p, List.cons_append, List.nil_append, b2n_t, b2n_f, hN4_7, hN4_10]
    exact goW
  · intro ξ v; rfl
  · intro ξ k v S h3 hn hk
    first
    | rfl
  apply YSeq.w (by intro _ _ _; rfl)
  · intro ξ S h1 h2 h3 h4
    have hN5_6 := closed_false h1 h3 (k := 6) rfl (by decide)
    have hN5_7 := closed_false hN5_6 h3 (k := 7) rfl (by decide)
    have hN5_10 := closed_false h1 h3 (k := 10) rfl (by decide)
    try simp only [upd_same, updD_same, upd_ne, updD_ne, ne_eq, Nat.reduceEqDiff, not_false_eq_true, stg_t, stg_f, vAd_s, vCap_s, blk_p, List.cons_append, List.nil_append, b2n_t, b2n_f, hN5_7, hN5_10]
    exact goW
  · intro ξ v; rfl
  · intro ξ k v S h3 hn hk
    first
    | rfl
  apply YSeq.w (by intro _ _ _; rfl)
  · intro ξ S h1 h2 h3 h4
    have hN6_7 := closed_false h1 h3 (k := 7) rfl (by decide)
    have hN6_10 := closed_false h1 h3 (k := 10) rfl (by decide)
    try simp only [upd_same, updD_same, upd_ne, updD_ne, ne_eq, Nat.reduceEqDiff, not_false_eq_true, stg_t, stg_f, vAd_s, vCap_s, blk_p, List.cons_append, List.nil_append, b2n_t, b2n_f, hN6_7, hN6_10]
    exact goW
  · intro ξ v; rfl
  · intro ξ k v S h3 hn hk
    first
    | rfl
  apply YSeq.append (n + 1)
  · intro ξ S h1 h2 h3 h4
    have hN7_10 := closed_false h1 h3 (k := 10) rfl (by decide)
    simp only [upd_same, updD_same, upd_ne, updD_ne, ne_eq, Nat.reduceEqDiff, not_false_eq_true, stg_t, stg_f, vAd_s, vCap_s, blk_p, List.cons_append, List.nil_append, b2n_t, b2n_f, h1, hN7_10]
    refine ⟨_, _, _, _, _, _, rfl, rfl, goXp, (by first | rfl | (simp; done) | omega), (by first | rfl | omega | (simp; done) | (simp; omega)), (by first | omega | (simp; done) | (simp; omega)), (by first | omega | (simp; done) | (simp; omega)), fun ad' cap' => ?_⟩
    exact goXm
  apply YSeq.w (by intro _ _ _; rfl)
  · intro ξ S h1 h2 h3 h4
    have hY8_7 : S 7 = true := h2 7 (by decide)
    have hN8_9 := closed_false h1 h3 (k := 9) rfl (by decide)
    have hN8_10 := closed_false hN8_9 h3 (k := 10) rfl (by decide)
    try simp only [upd_same, updD_same, upd_ne, updD_ne, ne_eq, Nat.reduceEqDiff, not_false_eq_true, stg_t, stg_f, vAd_s, vCap_s, blk_p, List.cons_append, List.nil_append, b2n_t, b2n_f, hY8_7, hN8_10]
    exact goW
  · intro ξ v; rfl
  · intro ξ k v S h3 hn hk
    first
    | rfl
    | skip
      have hY8_7 : S 7 = true := h3 8 _ rfl hn 7 (by decide)
      simp only [upd_S hY8_7 hk]
  apply YSeq.w (by intro _ _ _; rfl)
  · intro ξ S h1 h2 h3 h4
    have hY9_7 : S 7 = true := h2 7 (by decide)
    have hN9_10 := closed_false h1 h3 (k := 10) rfl (by decide)
    try simp only [upd_same, updD_same, upd_ne, updD_ne, ne_eq, Nat.reduceEqDiff, not_false_eq_true, stg_t, stg_f, vAd_s, vCap_s, blk_p, List.cons_append, List.nil_append, b2n_t, b2n_f, hY9_7, hN9_10]
    exact goW
  · intro ξ v; rfl
  · intro ξ k v S h3 hn hk
    first
    | rfl
    | skip
      have hY9_7 : S 7 = true := h3 9 _ rfl hn 7 (by decide)
      simp only [upd_S hY9_7 hk]
  apply YSeq.store
  · intro ξ S h1 h2 h3 h4
    have hY10_7 : S 7 = true := h2 7 (by decide)
    simp only [upd_same, updD_same, upd_ne, updD_ne, ne_eq, Nat.reduceEqDiff, not_false_eq_true, stg_t, stg_f, vAd_s, vCap_s, blk_p, List.cons_append, List.nil_append, b2n_t, b2n_f, hY10_7, h1]
    refine ⟨_, _, _, _, _, _, _, rfl, rfl, inferInstance, goXp, rfl, Nat.le_of_ble_eq_true rfl, ?_⟩
    exact goXm
  refine YSeq.nil fun ξ hf => ?_
  refine ⟨[(0, _)], _, Ent.trans (Ent.eqc rfl (by first | (simp only [upd_same, updD_same, upd_ne, updD_ne, ne_eq, Nat.reduceEqDiff, not_false_eq_true, stg_t, stg_f, vAd_s, vCap_s, blk_p, List.cons_append, List.nil_append, b2n_t, b2n_f, ownV, slV, ptV] <;> rfl) | rfl)) (Ent.sub goSub), ?_⟩
  clear hf
  generalize vAd (ξ 7) = ad62
  generalize vCap (ξ 7) = cap62
  rw [← hrs]
  repeat (first | refine InB.norm ?_ | refine Then.norm ?_)
  repeat' (first | refine goH ?_ | refine goV ?_ | refine goB (fun b => ?_) | refine goC (fun ad cap => ?_) | refine goI ?_ | (refine Cw.k_cond ?_; first | (refine Cw.cond_dec rfl (fun hc => ?_) (fun hc => ?_) <;> try (exfalso; omega)) | refine Cw.cond_bool rfl (fun hc => ?_) (fun hc => ?_)) | refine goR ?_ | refine goP ?_ | apply PSeq.cons | apply PSeq.yes rfl rfl rfl | exact goW | fail)
  exact Fin.ret (Ent.take goTk) (Outs.many rfl (OutL.cons goOe (OutL.cons goOe OutL.nil)) rfl) ⟨_, n + 1, _, m2, by rw [hn]; rfl, hm2, by rw [hn, List.length_append]; rfl, rfl⟩
/-- a copy of its own -/
theorem clone_lne (rows : List (List Tr)) (hk : ∀ r ∈ rows, r.length = 2) (hl : rows.length ≤ 1000000) : PFnO Tryz.prog 52 [.sl 2 rows] 2 57 (· = rows) := by
  unfold PFnO
  refine Spec.body Tryz.func52 rfl rfl (Tryz.ntmps52) rfl fun w0 own0 M => ?_
  repeat' (first | refine goH ?_ | ((fail_if_success refine Ops.k_b_eql ?_); (fail_if_success refine Ops.k_buildSlice ?_); refine goV ?_) | ((fail_if_success refine Ops.k_b_eql ?_); (fail_if_success refine Ops.k_buildSlice ?_); refine goC (fun ad cap => ?_)) | refine goI ?_ | (refine Cw.k_cond ?_; first | (refine Cw.cond_dec rfl (fun hc => ?_) (fun hc => ?_) <;> try (exfalso; omega)) | refine Cw.cond_bool rfl (fun hc => ?_) (fun hc => ?_)) | fail)
  refine Ops.eql_nilS rfl rfl (fun b hb => ?_)
  cases b
  · repeat' (first | refine goH ?_ | ((fail_if_success refine Ops.k_buildSlice ?_); refine goV ?_) | ((fail_if_success refine Ops.k_buildSlice ?_); refine goC (fun ad cap => ?_)) | refine goI ?_ | (refine Cw.k_cond ?_; first | (refine Cw.cond_dec rfl (fun hc => ?_) (fun hc => ?_) <;> try (exfalso; omega)) | refine Cw.cond_bool rfl (fun hc => ?_) (fun hc => ?_)) | fail)
    refine Ops.buildSlice_own (by exact Parts.nil) rfl rfl rfl (fun ad cap => ?_)
    repeat' (first | refine goH ?_ | refine goV ?_ | refine goC (fun ad cap => ?_) | refine goI ?_ | (refine Cw.k_cond ?_; first | (refine Cw.cond_dec rfl (fun hc => ?_) (fun hc => ?_) <;> try (exfalso; omega)) | refine Cw.cond_bool rfl (fun hc => ?_) (fun hc => ?_)) | fail)
    exact Fin.ret (Ent.take goTk) (Outs.one rfl rfl) ⟨_, _, _, rfl, rfl, rfl⟩
  · have hr := hb rfl
    subst hr
    repeat' (first | refine goH ?_ | refine goV ?_ | refine goC (fun ad cap => ?_) | refine goI ?_ | (refine Cw.k_cond ?_; first | (refine Cw.cond_dec rfl (fun hc => ?_) (fun hc => ?_) <;> try (exfalso; omega)) | refine Cw.cond_bool rfl (fun hc => ?_) (fun hc => ?_)) | fail)
    exact Fin.ret (Ent.trans (Ent.nil 2 57) (Ent.take goTk)) (Outs.one rfl rfl) ⟨none, 0, [], rfl, rfl, rfl⟩

theorem postY_fn (bx n cap : Nat) (ad ad2 : Option Addr) (cap2 : Nat) (L : List Ps) (p : Ps) (hok : OkL L) (hp : OkP p) (hky : ∀ x ∈ p.e.ls, isKey x.acc = true) (hn : n = L.length) :
    Spec Tryz.prog 55 [.ptr bx, .agg p.e.row, .int p.back] [ledY bx ad n cap ad2 n cap2, ownE ad cap L, Chunk.own ad2 cap2 1 3 (intRows (L.map Ps.back))]
      (fun r cs => ∃ (ad' ad2' : Option Addr) (n' cap' cap2' : Nat), r = addRes L p ∧ n' = (addR L p).1.length ∧ cs = [ledY bx ad' n' cap' ad2' n' cap2', ownE ad' cap' (addR L p).1, Chunk.own ad2' cap2' 1 3 (intRows ((addR L p).1.map Ps.back))]) := by
  have hL : (L.map enR).length = n := by rw [List.length_map, hn]
  have hL2 : (intRows (L.map Ps.back)).length = n := by rw [intRows_len, List.length_map, hn]
  have hlr : (p.e.ls.map Ln.row).length = p.e.ls.length := List.length_map _
  have hkb := fun a => balY_fn bx n cap ad ad2 n cap2 L a hok hn
  have hkc := (clone_lne (p.e.ls.map Ln.row) (fun r hr => by obtain ⟨x, _, rfl⟩ := List.mem_map.1 hr; rfl) (by rw [hlr]; have := hp.1; omega)).val
  obtain ⟨hLl, hLo⟩ := hok
  obtain ⟨hp1, hp2⟩ := hp
  have hbd := fun a => bal_bd a hLo
  have hst : p.e.row = [.int p.e.day, .str p.e.text, .lns p.e.ls] := rfl
  rw [hst]
  refine Spec.body Tryz.func55 rfl rfl (Tryz.ntmps55) rfl fun w0 own0 M => ?_
  unfold addRes
  by_cases hfull : L.length = 2000
  · rw [addR_full hfull]
    repeat' (first | refine goH ?_ | refine goV ?_ | refine goB (fun b => ?_) | refine goC (fun ad cap => ?_) | refine goG ?_ | (refine Ops.k_guard ?_; first | (refine Ops.guard_dec rfl rfl (fun hc => ?_) (fun hc => ?_) <;> try (exfalso; omega)) | refine Ops.guard_split rfl rfl (fun hc => ?_) (fun hc => ?_)) | refine goI ?_ | (refine Cw.k_cond ?_; first | (refine Cw.cond_dec rfl (fun hc => ?_) (fun hc => ?_) <;> try (exfalso; omega)) | refine Cw.cond_bool rfl (fun hc => ?_) (fun hc => ?_)) | refine goR ?_ | refine goP ?_ | apply PSeq.cons | apply PSeq.yes rfl rfl rfl | exact goW | fail)
    exact Fin.ret (Ent.take goTk) (Outs.many rfl (OutL.cons goOe (OutL.cons goOe OutL.nil)) rfl) ⟨ad, ad2, n, cap, cap2, rfl, hn, rfl⟩
  repeat' (first | refine goH ?_ | refine goV ?_ | refine goB (fun b => ?_) | refine goC (fun ad cap => ?_) | refine goG ?_ | (refine Ops.k_guard ?_; first | (refine Ops.guard_dec rfl rfl (fun hc => ?_) (fun hc => ?_) <;> try (exfalso; omega)) | refine Ops.guard_split rfl rfl (fun hc => ?_) (fun hc => ?_)) | refine goI ?_ | (refine Cw.k_cond ?_; first | (refine Cw.cond_dec rfl (fun hc => ?_) (fun hc => ?_) <;> try (exfalso; omega)) | refine Cw.cond_bool rfl (fun hc => ?_) (fun hc => ?_)) | refine goR ?_ | refine goP ?_ | apply PSeq.cons | apply PSeq.yes rfl rfl rfl | exact goW | fail)
  refine Cw.loopI [(0, _), (2, _), (4, _), (19, _), (20, _)] _ (fun q e cc => ∃ k : Nat, q = p.e.ls.length - k ∧ (k ≤ p.e.ls.length ∧ (p.e.ls.take k).any (ovL L) = false) ∧ e = [(21, .int k)] ∧ cc = []) ⟨_, _, _, (Ent.mkP goSub goPm), 0, rfl, ⟨by omega, rfl⟩, rfl, rfl⟩ ?_
  rintro _ _ _ ⟨k, rfl, ⟨hk, hany⟩, rfl, rfl⟩
  by_cases hkl : k < p.e.ls.length
  · obtain ⟨x, hx⟩ := at_lt hkl
    have hxc := hp2 x (List.mem_of_getElem? hx)
    have hrow : (p.e.ls.map Ln.row)[k]? = some [.str x.acc, .int x.c] := rows_at hx
    have hb := hbd x.acc
    have hA := any_take3 (p := ovL L) hx
    have hov : ovL L x = true ↔ bal x.acc L + x.c < -1000000000000 ∨ 1000000000000 < bal x.acc L + x.c := by unfold ovL; exact decide_eq_true_iff
    have hno : ovL L x = true → addR L p = (L, 0, 2) := fun h => addR_ov hfull (any_mem3 hx h)
    have hb2 := hkb x.acc
    unfold balT at hb2
    rw [hany, Bool.false_or] at hA
    rw [hky x (List.mem_of_getElem? hx), if_neg (by decide)] at hb2
    clear hany
    generalize ovL L x = ov at *
    generalize bal x.acc L = v at *
    cases ov
    · have hov2 : ¬ (v + x.c < -1000000000000 ∨ 1000000000000 < v + x.c) := fun h => by have := hov.2 h; cases this
      clear hov hno
      repeat' (first | refine goH ?_ | refine goV ?_ | refine goB (fun b => ?_) | refine goC (fun ad cap => ?_) | refine goG ?_ | (refine Ops.k_guard ?_; first | (refine Ops.guard_dec rfl rfl (fun hc => ?_) (fun hc => ?_) <;> try (exfalso; omega)) | refine Ops.guard_split rfl rfl (fun hc => ?_) (fun hc => ?_)) | refine goI ?_ | (refine Cw.k_cond ?_; first | (refine Cw.cond_dec rfl (fun hc => ?_) (fun hc => ?_) <;> try (exfalso; omega)) | refine Cw.cond_bool rfl (fun hc => ?_) (fun hc => ?_)) | (refine Ops.k_calla ?_; first | (refine Ops.k_callf 39 ?_; refine Ops.callS hb2 (Evs.cons rfl (Evs.cons rfl Evs.nil)) goPm rfl ?_)) | (apply OpW.k_call; first | (apply OpW.k_callf 39; exact OpW.callS hb2 (Evs.cons rfl (Evs.cons rfl Evs.nil)) goPm)) | refine goR ?_ | refine goP ?_ | apply PSeq.cons | apply PSeq.yes rfl rfl rfl | exact goW | fail)
      exact ⟨_, _, _, (Ent.mk goSub goTk), ⟨k + 1, rfl, ⟨by omega, hA⟩, rfl, rfl⟩, by omega⟩
    · rw [hno rfl]
      have hov2 := hov.1 rfl
      clear hov hno
      by_cases h1 : v + x.c < -1000000000000
      · repeat' (first | refine goH ?_ | refine goV ?_ | refine goB (fun b => ?_) | refine goC (fun ad cap => ?_) | refine goG ?_ | (refine Ops.k_guard ?_; first | (refine Ops.guard_dec rfl rfl (fun hc => ?_) (fun hc => ?_) <;> try (exfalso; omega)) | refine Ops.guard_split rfl rfl (fun hc => ?_) (fun hc => ?_)) | refine goI ?_ | (refine Cw.k_cond ?_; first | (refine Cw.cond_dec rfl (fun hc => ?_) (fun hc => ?_) <;> try (exfalso; omega)) | refine Cw.cond_bool rfl (fun hc => ?_) (fun hc => ?_)) | (refine Ops.k_calla ?_; first | (refine Ops.k_callf 39 ?_; refine Ops.callS hb2 (Evs.cons rfl (Evs.cons rfl Evs.nil)) goPm rfl ?_)) | (apply OpW.k_call; first | (apply OpW.k_callf 39; exact OpW.callS hb2 (Evs.cons rfl (Evs.cons rfl Evs.nil)) goPm)) | refine goR ?_ | refine goP ?_ | apply PSeq.cons | apply PSeq.yes rfl rfl rfl | exact goW | fail)
        exact Fin.ret (Ent.take goTk) (Outs.many rfl (OutL.cons goOe (OutL.cons goOe OutL.nil)) rfl) ⟨ad, ad2, n, cap, cap2, rfl, hn, rfl⟩
      · repeat' (first | refine goH ?_ | refine goV ?_ | refine goB (fun b => ?_) | refine goC (fun ad cap => ?_) | refine goG ?_ | (refine Ops.k_guard ?_; first | (refine Ops.guard_dec rfl rfl (fun hc => ?_) (fun hc => ?_) <;> try (exfalso; omega)) | refine Ops.guard_split rfl rfl (fun hc => ?_) (fun hc => ?_)) | refine goI ?_ | (refine Cw.k_cond ?_; first | (refine Cw.cond_dec rfl (fun hc => ?_) (fun hc => ?_) <;> try (exfalso; omega)) | refine Cw.cond_bool rfl (fun hc => ?_) (fun hc => ?_)) | (refine Ops.k_calla ?_; first | (refine Ops.k_callf 39 ?_; refine Ops.callS hb2 (Evs.cons rfl (Evs.cons rfl Evs.nil)) goPm rfl ?_)) | (apply OpW.k_call; first | (apply OpW.k_callf 39; exact OpW.callS hb2 (Evs.cons rfl (Evs.cons rfl Evs.nil)) goPm)) | refine goR ?_ | refine goP ?_ | apply PSeq.cons | apply PSeq.yes rfl rfl rfl | exact goW | fail)
        exact Fin.ret (Ent.take goTk) (Outs.many rfl (OutL.cons goOe (OutL.cons goOe OutL.nil)) rfl) ⟨ad, ad2, n, cap, cap2, rfl, hn, rfl⟩
  have hal : p.e.ls.any (ovL L) = false := by rwa [List.take_of_length_le (by omega)] at hany
  rw [addR_ok hfull hal]
  clear hany hkb hbd
  have hrs : (L ++ [p]).map enR = L.map enR ++ [[Tr.int p.e.day, Tr.str p.e.text, Tr.lns p.e.ls]] := by rw [List.map_append]; rfl
  have hrs2 : intRows ((L ++ [p]).map Ps.back) = intRows (L.map Ps.back) ++ [[Tr.int p.back]] := by unfold intRows; rw [List.map_append, List.map_append]; rfl
  repeat' (first | refine goH ?_ | refine goV ?_ | refine goB (fun b => ?_) | refine goC (fun ad cap => ?_) | refine goG ?_ | (refine Ops.k_guard ?_; first | (refine Ops.guard_dec rfl rfl (fun hc => ?_) (fun hc => ?_) <;> try (exfalso; omega)) | refine Ops.guard_split rfl rfl (fun hc => ?_) (fun hc => ?_)) | refine goI ?_ | (refine Cw.k_cond ?_; first | (refine Cw.cond_dec rfl (fun hc => ?_) (fun hc => ?_) <;> try (exfalso; omega)) | refine Cw.cond_bool rfl (fun hc => ?_) (fun hc => ?_)) | (refine Ops.k_calla ?_; first | (refine Ops.k_callf 52 ?_; refine Ops.callV hkc (Evs.cons rfl Evs.nil) rfl ?_)) | (apply OpW.k_call; first | (apply OpW.k_callf 52; exact OpW.callV hkc (Evs.cons rfl Evs.nil))) | fail)
  first | refine Cw.region_YP (fun ξ S => Chunk.box bx 87 [stg (S 18) (Tr.raw (.slice ad n cap)) (slV (ξ 8) (n + 1)), stg (S 21) (Tr.raw (.slice ad2 n cap2)) (slV (ξ 15) (n + 1))] :: stg (S 8) (ownE ad cap L) (ownV (ξ 8) 3 52 (L.map enR ++ [[Tr.int p.e.day, Tr.str p.e.text, Tr.lns p.e.ls]])) :: stg (S 15) (Chunk.own ad2 cap2 1 3 (intRows (L.map Ps.back))) (ownV (ξ 15) 1 3 (intRows (L.map Ps.back) ++ [[Tr.int p.back]])) :: Chunk.box b 52 [.int p.e.day, .str p.e.text, .lns p.e.ls] :: []) rfl (by decide +kernel) rfl ((fun (ξ : Nat → Value) (S : Nat → Bool) => Chunk.box bx 87 [stg (S 18) (Tr.raw (.slice ad n cap)) (slV (ξ 8) (n + 1)), stg (S 21) (Tr.raw (.slice ad2 n cap2)) (slV (ξ 15) (n + 1))] :: stg (S 8) (ownE ad cap L) (ownV (ξ 8) 3 52 (L.map enR ++ [[Tr.int p.e.day, Tr.str p.e.text, Tr.lns p.e.ls]])) :: stg (S 15) (Chunk.own ad2 cap2 1 3 (intRows (L.map Ps.back))) (ownV (ξ 15) 1 3 (intRows (L.map Ps.back) ++ [[Tr.int p.back]])) :: Chunk.box b 52 [.int p.e.day, .str p.e.text, .lns p.e.ls] :: []) (fun _ => undef) (fun _ => false)) (by simp only [upd_same, updD_same, upd_ne, updD_ne, ne_eq, Nat.reduceEqDiff, not_false_eq_true, stg_t, stg_f, vAd_s, vCap_s, blk_p, List.cons_append, List.nil_append, b2n_t, b2n_f]; exact goXm) (fun _ => rfl) ?_ | fail
  apply YSeq.w (by intro _ _ _; rfl)
  · intro ξ S h1 h2 h3 h4
    have hN0_18 := closed_false h1 h3 (k := 18) rfl (by decide)
    have hN0_21 := closed_false h1 h3 (k := 21) rfl (by decide)
    try simp only [upd_same, updD_same, upd_ne, updD_ne, ne_eq, Nat.reduceEqDiff, not_false_eq_true, stg_t, stg_f, vAd_s, vCap_s, blk_p, List.cons_append, List.nil_append, b2n_t, b2n_f, hN0_18, hN0_21]
    exact goW
  · intro ξ v; rfl
  · intro ξ k v S h3 hn hk
    first
    | rfl
  apply YSeq.w (by intro _ _ _; rfl)
  · intro ξ S h1 h2 h3 h4
    have hN1_21 := closed_false h1 h3 (k := 21) rfl (by decide)
    try simp only [upd_same, updD_same, upd_ne, updD_ne, ne_eq, Nat.reduceEqDiff, not_false_eq_true, stg_t, stg_f, vAd_s, vCap_s, blk_p, List.cons_append, List.nil_append, b2n_t, b2n_f, hN1_21]
    exact goW
  · intro ξ v; rfl
  · intro ξ k v S h3 hn hk
    first
    | rfl
  apply YSeq.w (by intro _ _ _; rfl)
  · intro ξ S h1 h2 h3 h4
    have hN2_3 := closed_false h1 h3 (k := 3) rfl (by decide)
    have hN2_4 := closed_false hN2_3 h3 (k := 4) rfl (by decide)
    have hN2_5 := closed_false hN2_4 h3 (k := 5) rfl (by decide)
    have hN2_8 := closed_false hN2_5 h3 (k := 8) rfl (by decide)
    have hN2_15 := closed_false hN2_8 h3 (k := 15) rfl (by decide)
    have hN2_18 := closed_false h1 h3 (k := 18) rfl (by decide)
    have hN2_21 := closed_false h1 h3 (k := 21) rfl (by decide)
    try simp only [upd_same, updD_same, upd_ne, updD_ne, ne_eq, Nat.reduceEqDiff, not_false_eq_true, stg_t, stg_f, vAd_s, vCap_s, blk_p, List.cons_append, List.nil_append, b2n_t, b2n_f, hN2_8, hN2_15, hN2_18, hN2_21]
    exact goW
  · intro ξ v; rfl
  · intro ξ k v S h3 hn hk
    first
    | rfl
  apply YSeq.w (by intro _ _ _; rfl)
  · intro ξ S h1 h2 h3 h4
    have hN3_4 := closed_false h1 h3 (k := 4) rfl (by decide)
    have hN3_5 := closed_false hN3_4 h3 (k := 5) rfl (by decide)
    have hN3_8 := closed_false hN3_5 h3 (k := 8) rfl (by decide)
    have hN3_15 := closed_false hN3_8 h3 (k := 15) rfl (by decide)
    have hN3_18 := closed_false h1 h3 (k := 18) rfl (by decide)
    have hN3_21 := closed_false h1 h3 (k := 21) rfl (by decide)
    try simp only [upd_same, updD_same, upd_ne, updD_ne, ne_eq, Nat.reduceEqDiff, not_false_eq_true, stg_t, stg_f, vAd_s, vCap_s, blk_p, List.cons_append, List.nil_append, b2n_t, b2n_f, hN3_8, hN3_15, hN3_18, hN3_21]
    exact goW
  · intro ξ v; rfl
  · intro ξ k v S h3 hn hk
    first
    | rfl
  apply YSeq.w (by intro _ _ _; rfl)
  · intro ξ S h1 h2 h3 h4
    have hN4_5 := closed_false h1 h3 (k := 5) rfl (by decide)
    have hN4_8 := closed_false hN4_5 h3 (k := 8) rfl (by decide)
    have hN4_15 := closed_false hN4_8 h3 (k := 15) rfl (by decide)
    have hN4_18 := closed_false h1 h3 (k := 18) rfl (by decide)
    have hN4_21 := closed_false h1 h3 (k := 21) rfl (by decide)
    try simp only [upd_same, updD_same, upd_ne, updD_ne, ne_eq, Nat.reduceEqDiff, not_false_eq_true, stg_t, stg_f, vAd_s, vCap_s, blk_p, List.cons_append, List.nil_append, b2n_t, b2n_f, hN4_8, hN4_15, hN4_18, hN4_21]
    exact goW
  · intro ξ v; rfl
  · intro ξ k v S h3 hn hk
    first
    | rfl
  apply YSeq.w (by intro _ _ _; rfl)
  · intro ξ S h1 h2 h3 h4
    have hN5_8 := closed_false h1 h3 (k := 8) rfl (by decide)
    have hN5_15 := closed_false hN5_8 h3 (k := 15) rfl (by decide)
    have hN5_18 := closed_false h1 h3 (k := 18) rfl (by decide)
    have hN5_21 := closed_false h1 h3 (k := 21) rfl (by decide)
    try simp only [upd_same, updD_same, upd_ne, updD_ne, ne_eq, Nat.reduceEqDiff, not_false_eq_true, stg_t, stg_f, vAd_s, vCap_s, blk_p, List.cons_append, List.nil_append, b2n_t, b2n_f, hN5_8, hN5_15, hN5_18, hN5_21]
    exact goW
  · intro ξ v; rfl
  · intro ξ k v S h3 hn hk
    first
    | rfl
  apply YSeq.w (by intro _ _ _; rfl)
  · intro ξ S h1 h2 h3 h4
    have hN6_7 := closed_false h1 h3 (k := 7) rfl (by decide)
    have hN6_8 := closed_false hN6_7 h3 (k := 8) rfl (by decide)
    have hN6_15 := closed_false hN6_8 h3 (k := 15) rfl (by decide)
    have hN6_18 := closed_false h1 h3 (k := 18) rfl (by decide)
    have hN6_21 := closed_false h1 h3 (k := 21) rfl (by decide)
    try simp only [upd_same, updD_same, upd_ne, updD_ne, ne_eq, Nat.reduceEqDiff, not_false_eq_true, stg_t, stg_f, vAd_s, vCap_s, blk_p, List.cons_append, List.nil_append, b2n_t, b2n_f, hN6_8, hN6_15, hN6_18, hN6_21]
    exact goW
  · intro ξ v; rfl
  · intro ξ k v S h3 hn hk
    first
    | rfl
  apply YSeq.w (by intro _ _ _; rfl)
  · intro ξ S h1 h2 h3 h4
    have hN7_8 := closed_false h1 h3 (k := 8) rfl (by decide)
    have hN7_15 := closed_false hN7_8 h3 (k := 15) rfl (by decide)
    have hN7_18 := closed_false h1 h3 (k := 18) rfl (by decide)
    have hN7_21 := closed_false h1 h3 (k := 21) rfl (by decide)
    try simp only [upd_same, updD_same, upd_ne, updD_ne, ne_eq, Nat.reduceEqDiff, not_false_eq_true, stg_t, stg_f, vAd_s, vCap_s, blk_p, List.cons_append, List.nil_append, b2n_t, b2n_f, hN7_8, hN7_15, hN7_18, hN7_21]
    exact goW
  · intro ξ v; rfl
  · intro ξ k v S h3 hn hk
    first
    | rfl
  apply YSeq.append (n + 1)
  · intro ξ S h1 h2 h3 h4
    have hN8_15 := closed_false h1 h3 (k := 15) rfl (by decide)
    have hN8_18 := closed_false h1 h3 (k := 18) rfl (by decide)
    have hN8_21 := closed_false h1 h3 (k := 21) rfl (by decide)
    simp only [upd_same, updD_same, upd_ne, updD_ne, ne_eq, Nat.reduceEqDiff, not_false_eq_true, stg_t, stg_f, vAd_s, vCap_s, blk_p, List.cons_append, List.nil_append, b2n_t, b2n_f, h1, hN8_15, hN8_18, hN8_21]
    refine ⟨_, _, _, _, _, _, rfl, rfl, goXp, (by first | rfl | (simp; done) | omega), (by first | rfl | omega | (simp; done) | (simp; omega)), (by first | omega | (simp; done) | (simp; omega)), (by first | omega | (simp; done) | (simp; omega)), fun ad' cap' => ?_⟩
    exact goXm
  apply YSeq.w (by intro _ _ _; rfl)
  · intro ξ S h1 h2 h3 h4
    have hN9_10 := closed_false h1 h3 (k := 10) rfl (by decide)
    have hN9_11 := closed_false hN9_10 h3 (k := 11) rfl (by decide)
    have hN9_12 := closed_false hN9_11 h3 (k := 12) rfl (by decide)
    have hN9_15 := closed_false hN9_12 h3 (k := 15) rfl (by decide)
    have hN9_18 := closed_false hN9_12 h3 (k := 18) rfl (by decide)
    have hN9_21 := closed_false h1 h3 (k := 21) rfl (by decide)
    try simp only [upd_same, updD_same, upd_ne, updD_ne, ne_eq, Nat.reduceEqDiff, not_false_eq_true, stg_t, stg_f, vAd_s, vCap_s, blk_p, List.cons_append, List.nil_append, b2n_t, b2n_f, hN9_15, hN9_18, hN9_21]
    exact goW
  · intro ξ v; rfl
  · intro ξ k v S h3 hn hk
    first
    | rfl
  apply YSeq.w (by intro _ _ _; rfl)
  · intro ξ S h1 h2 h3 h4
    have hN10_11 := closed_false h1 h3 (k := 11) rfl (by decide)
    have hN10_12 := closed_false hN10_11 h3 (k := 12) rfl (by decide)
    have hN10_15 := closed_false hN10_12 h3 (k := 15) rfl (by decide)
    have hN10_18 := closed_false hN10_12 h3 (k := 18) rfl (by decide)
    have hN10_21 := closed_false h1 h3 (k := 21) rfl (by decide)
    try simp only [upd_same, updD_same, upd_ne, updD_ne, ne_eq, Nat.reduceEqDiff, not_false_eq_true, stg_t, stg_f, vAd_s, vCap_s, blk_p, List.cons_append, List.nil_append, b2n_t, b2n_f, hN10_15, hN10_18, hN10_21]
    exact goW
  · intro ξ v; rfl
  · intro ξ k v S h3 hn hk
    first
    | rfl
  apply YSeq.w (by intro _ _ _; rfl)
  · intro ξ S h1 h2 h3 h4
    have hN11_12 := closed_false h1 h3 (k := 12) rfl (by decide)
    have hN11_15 := closed_false hN11_12 h3 (k := 15) rfl (by decide)
    have hN11_18 := closed_false hN11_12 h3 (k := 18) rfl (by decide)
    have hN11_21 := closed_false h1 h3 (k := 21) rfl (by decide)
    try simp only [upd_same, updD_same, upd_ne, updD_ne, ne_eq, Nat.reduceEqDiff, not_false_eq_true, stg_t, stg_f, vAd_s, vCap_s, blk_p, List.cons_append, List.nil_append, b2n_t, b2n_f, hN11_15, hN11_18, hN11_21]
    exact goW
  · intro ξ v; rfl
  · intro ξ k v S h3 hn hk
    first
    | rfl
  apply YSeq.w (by intro _ _ _; rfl)
  · intro ξ S h1 h2 h3 h4
    have hN12_15 := closed_false h1 h3 (k := 15) rfl (by decide)
    have hN12_18 := closed_false h1 h3 (k := 18) rfl (by decide)
    have hN12_21 := closed_false h1 h3 (k := 21) rfl (by decide)
    try simp only [upd_same, updD_same, upd_ne, updD_ne, ne_eq, Nat.reduceEqDiff, not_false_eq_true, stg_t, stg_f, vAd_s, vCap_s, blk_p, List.cons_append, List.nil_append, b2n_t, b2n_f, hN12_15, hN12_18, hN12_21]
    exact goW
  · intro ξ v; rfl
  · intro ξ k v S h3 hn hk
    first
    | rfl
  apply YSeq.w (by intro _ _ _; rfl)
  · intro ξ S h1 h2 h3 h4
    have hN13_14 := closed_false h1 h3 (k := 14) rfl (by decide)
    have hN13_15 := closed_false hN13_14 h3 (k := 15) rfl (by decide)
    have hN13_18 := closed_false hN13_15 h3 (k := 18) rfl (by decide)
    have hN13_21 := closed_false h1 h3 (k := 21) rfl (by decide)
    try simp only [upd_same, updD_same, upd_ne, updD_ne, ne_eq, Nat.reduceEqDiff, not_false_eq_true, stg_t, stg_f, vAd_s, vCap_s, blk_p, List.cons_append, List.nil_append, b2n_t, b2n_f, hN13_15, hN13_18, hN13_21]
    exact goW
  · intro ξ v; rfl
  · intro ξ k v S h3 hn hk
    first
    | rfl
  apply YSeq.w (by intro _ _ _; rfl)
  · intro ξ S h1 h2 h3 h4
    have hN14_15 := closed_false h1 h3 (k := 15) rfl (by decide)
    have hN14_18 := closed_false hN14_15 h3 (k := 18) rfl (by decide)
    have hN14_21 := closed_false h1 h3 (k := 21) rfl (by decide)
    try simp only [upd_same, updD_same, upd_ne, updD_ne, ne_eq, Nat.reduceEqDiff, not_false_eq_true, stg_t, stg_f, vAd_s, vCap_s, blk_p, List.cons_append, List.nil_append, b2n_t, b2n_f, hN14_15, hN14_18, hN14_21]
    exact goW
  · intro ξ v; rfl
  · intro ξ k v S h3 hn hk
    first
    | rfl
  apply YSeq.append (n + 1)
  · intro ξ S h1 h2 h3 h4
    have hY15_8 : S 8 = true := h2 8 (by decide)
    have hN15_18 := closed_false h1 h3 (k := 18) rfl (by decide)
    have hN15_21 := closed_false h1 h3 (k := 21) rfl (by decide)
    simp only [upd_same, updD_same, upd_ne, updD_ne, ne_eq, Nat.reduceEqDiff, not_false_eq_true, stg_t, stg_f, vAd_s, vCap_s, blk_p, List.cons_append, List.nil_append, b2n_t, b2n_f, hY15_8, h1, hN15_18, hN15_21]
    refine ⟨_, _, _, _, _, _, rfl, rfl, goXp, (by first | rfl | (simp; done) | omega), (by first | rfl | omega | (simp; done) | (simp; omega)), (by first | omega | (simp; done) | (simp; omega)), (by first | omega | (simp; done) | (simp; omega)), fun ad' cap' => ?_⟩
    exact goXm
  apply YSeq.w (by intro _ _ _; rfl)
  · intro ξ S h1 h2 h3 h4
    have hY16_8 : S 8 = true := h2 8 (by decide)
    have hY16_15 : S 15 = true := h2 15 (by decide)
    have hN16_17 := closed_false h1 h3 (k := 17) rfl (by decide)
    have hN16_18 := closed_false hN16_17 h3 (k := 18) rfl (by decide)
    have hN16_21 := closed_false h1 h3 (k := 21) rfl (by decide)
    try simp only [upd_same, updD_same, upd_ne, updD_ne, ne_eq, Nat.reduceEqDiff, not_false_eq_true, stg_t, stg_f, vAd_s, vCap_s, blk_p, List.cons_append, List.nil_append, b2n_t, b2n_f, hY16_8, hY16_15, hN16_18, hN16_21]
    exact goW
  · intro ξ v; rfl
  · intro ξ k v S h3 hn hk
    first
    | rfl
    | skip
      have hY16_8 : S 8 = true := h3 16 _ rfl hn 8 (by decide)
      have hY16_15 : S 15 = true := h3 16 _ rfl hn 15 (by decide)
      simp only [upd_S hY16_8 hk, upd_S hY16_15 hk]
  apply YSeq.w (by intro _ _ _; rfl)
  · intro ξ S h1 h2 h3 h4
    have hY17_8 : S 8 = true := h2 8 (by decide)
    have hY17_15 : S 15 = true := h2 15 (by decide)
    have hN17_18 := closed_false h1 h3 (k := 18) rfl (by decide)
    have hN17_21 := closed_false h1 h3 (k := 21) rfl (by decide)
    try simp only [upd_same, updD_same, upd_ne, updD_ne, ne_eq, Nat.reduceEqDiff, not_false_eq_true, stg_t, stg_f, vAd_s, vCap_s, blk_p, List.cons_append, List.nil_append, b2n_t, b2n_f, hY17_8, hY17_15, hN17_18, hN17_21]
    exact goW
  · intro ξ v; rfl
  · intro ξ k v S h3 hn hk
    first
    | rfl
    | skip
      have hY17_8 : S 8 = true := h3 17 _ rfl hn 8 (by decide)
      have hY17_15 : S 15 = true := h3 17 _ rfl hn 15 (by decide)
      simp only [upd_S hY17_8 hk, upd_S hY17_15 hk]
  apply YSeq.store
  · intro ξ S h1 h2 h3 h4
    have hY18_8 : S 8 = true := h2 8 (by decide)
    have hY18_15 : S 15 = true := h2 15 (by decide)
    have hN18_21 := closed_false h1 h3 (k := 21) rfl (by decide)
    simp only [upd_same, updD_same, upd_ne, updD_ne, ne_eq, Nat.reduceEqDiff, not_false_eq_true, stg_t, stg_f, vAd_s, vCap_s, blk_p, List.cons_append, List.nil_append, b2n_t, b2n_f, hY18_8, hY18_15, h1, hN18_21]
    refine ⟨_, _, _, _, _, _, _, rfl, rfl, inferInstance, goXp, rfl, Nat.le_of_ble_eq_true rfl, ?_⟩
    exact goXm
  apply YSeq.w (by intro _ _ _; rfl)
  · intro ξ S h1 h2 h3 h4
    have hY19_8 : S 8 = true := h2 8 (by decide)
    have hY19_15 : S 15 = true := h2 15 (by decide)
    have hY19_18 : S 18 = true := h2 18 (by decide)
    have hN19_20 := closed_false h1 h3 (k := 20) rfl (by decide)
    have hN19_21 := closed_false hN19_20 h3 (k := 21) rfl (by decide)
    try simp only [upd_same, updD_same, upd_ne, updD_ne, ne_eq, Nat.reduceEqDiff, not_false_eq_true, stg_t, stg_f, vAd_s, vCap_s, blk_p, List.cons_append, List.nil_append, b2n_t, b2n_f, hY19_8, hY19_15, hY19_18, hN19_21]
    exact goW
  · intro ξ v; rfl
  · intro ξ k v S h3 hn hk
    first
    | rfl
    | skip
      have hY19_8 : S 8 = true := h3 19 _ rfl hn 8 (by decide)
      have hY19_15 : S 15 = true := h3 19 _ rfl hn 15 (by decide)
      simp only [upd_S hY19_8 hk, upd_S hY19_15 hk]
  apply YSeq.w (by intro _ _ _; rfl)
  · intro ξ S h1 h2 h3 h4
    have hY20_8 : S 8 = true := h2 8 (by decide)
    have hY20_15 : S 15 = true := h2 15 (by decide)
    have hY20_18 : S 18 = true := h2 18 (by decide)
    have hN20_21 := closed_false h1 h3 (k := 21) rfl (by decide)
    try simp only [upd_same, updD_same, upd_ne, updD_ne, ne_eq, Nat.reduceEqDiff, not_false_eq_true, stg_t, stg_f, vAd_s, vCap_s, blk_p, List.cons_append, List.nil_append, b2n_t, b2n_f, hY20_8, hY20_15, hY20_18, hN20_21]
    exact goW
  · intro ξ v; rfl
  · intro ξ k v S h3 hn hk
    first
    | rfl
    | skip
      have hY20_8 : S 8 = true := h3 20 _ rfl hn 8 (by decide)
      have hY20_15 : S 15 = true := h3 20 _ rfl hn 15 (by decide)
      simp only [upd_S hY20_8 hk, upd_S hY20_15 hk]
  apply YSeq.store
  · intro ξ S h1 h2 h3 h4
    have hY21_8 : S 8 = true := h2 8 (by decide)
    have hY21_15 : S 15 = true := h2 15 (by decide)
    have hY21_18 : S 18 = true := h2 18 (by decide)
    simp only [upd_same, updD_same, upd_ne, updD_ne, ne_eq, Nat.reduceEqDiff, not_false_eq_true, stg_t, stg_f, vAd_s, vCap_s, blk_p, List.cons_append, List.nil_append, b2n_t, b2n_f, hY21_8, hY21_15, hY21_18, h1]
    refine ⟨_, _, _, _, _, _, _, rfl, rfl, inferInstance, goXp, rfl, Nat.le_of_ble_eq_true rfl, ?_⟩
    exact goXm
  refine YSeq.nil fun ξ hf => ?_
  refine ⟨[(0, _)], _, Ent.trans (Ent.eqc rfl (by first | (simp only [upd_same, updD_same, upd_ne, updD_ne, ne_eq, Nat.reduceEqDiff, not_false_eq_true, stg_t, stg_f, vAd_s, vCap_s, blk_p, List.cons_append, List.nil_append, b2n_t, b2n_f, ownV, slV, ptV] <;> rfl) | rfl)) (Ent.sub goSub), ?_⟩
  clear hf
  generalize vAd (ξ 8) = ad57
  generalize vCap (ξ 8) = cap57
  generalize vAd (ξ 15) = ad64
  generalize vCap (ξ 15) = cap64
  rw [← hrs, ← hrs2]
  repeat (first | refine InB.norm ?_ | refine Then.norm ?_)
  repeat' (first | refine goH ?_ | refine goV ?_ | refine goB (fun b => ?_) | refine goC (fun ad cap => ?_) | refine goG ?_ | (refine Ops.k_guard ?_; first | (refine Ops.guard_dec rfl rfl (fun hc => ?_) (fun hc => ?_) <;> try (exfalso; omega)) | refine Ops.guard_split rfl rfl (fun hc => ?_) (fun hc => ?_)) | refine goI ?_ | (refine Cw.k_cond ?_; first | (refine Cw.cond_dec rfl (fun hc => ?_) (fun hc => ?_) <;> try (exfalso; omega)) | refine Cw.cond_bool rfl (fun hc => ?_) (fun hc => ?_)) | refine goR ?_ | refine goP ?_ | apply PSeq.cons | apply PSeq.yes rfl rfl rfl | exact goW | fail)
  exact Fin.ret (Ent.take goTk) (Outs.many rfl (OutL.cons goOe (OutL.cons goOe OutL.nil)) rfl) ⟨_, _, n + 1, _, _, by rw [hn]; rfl, by rw [hn, List.length_append]; rfl, rfl⟩
end Lg
