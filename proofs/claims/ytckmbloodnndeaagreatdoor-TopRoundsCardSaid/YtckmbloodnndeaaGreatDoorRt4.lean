/- A part of the proof of a law of this seat: it adds no condition. By an AI agent. -/
import Derived.Test.YtckmbloodnndeaaGreatDoorLgY2
import Derived.Test.YtckmbloodnndeaaGreatDoorRt2
section
set_option linter.all false
set_option maxRecDepth 100000
set_option maxHeartbeats 8000000
namespace Lg
open Go Go.Proofs

theorem Fin.ent {P : Program} {Γ : Ctx} {env env1 : Env} {cs cs1 : List Chunk} {fn : Func} {post : Tr → List Chunk → Prop} {ex : Exit} (h : Ent Γ env cs env1 cs1) (k : Fin P fn Γ post ex env1 cs1) : Fin P fn Γ post ex env cs := by
  unfold Fin at k ⊢
  obtain ⟨h0, e2, c2, r, h1, h2, h3⟩ := k
  exact ⟨h0, e2, c2, r, h.trans h1, h2, h3⟩
abbrev Tr.tour (bs : List Int) (e w q : Int) : Tr := .agg [.ints bs, .int e, .int w, .int q]
def drv (l : List Stop) (h : Spot) : List Int → Spot → Int → List Int → Int → Int → Option (List Int × Int × Int × Int)
  | [], a, now, bs, w, q => some (bs, now + farI a h, w + farI a h, q)
  | i :: o, a, now, bs, w, q => match l[i.toNat]? with
    | none => none
    | some s => if s.t < max (now + farI a s.spot) s.f then none else drv l h o s.spot (max (now + farI a s.spot) s.f + s.n) (bs ++ [max (now + farI a s.spot) s.f]) (w + farI a s.spot) (q + (max (now + farI a s.spot) s.f - now - farI a s.spot))
def drvT : Option (List Int × Int × Int × Int) → Tr
  | none => .tup [.tour [] 0 0 0, .bool false]
  | some (bs, e, w, q) => .tup [.tour bs e w q, .bool true]
theorem drv_end {l : List Stop} {h a : Spot} {o bs : List Int} {k : Nat} {now w q : Int} (hk : o.length ≤ k) : drv l h (o.drop k) a now bs w q = some (bs, now + farI a h, w + farI a h, q) := by rw [List.drop_of_length_le hk, drv]
theorem drv_step {l : List Stop} {h a : Spot} {o bs : List Int} {k : Nat} {now w q i : Int} {s : Stop} (hi : o[k]? = some i) (hs : l[i.toNat]? = some s) : drv l h (o.drop k) a now bs w q = if s.t < max (now + farI a s.spot) s.f then none else drv l h (o.drop (k + 1)) s.spot (max (now + farI a s.spot) s.f + s.n) (bs ++ [max (now + farI a s.spot) s.f]) (w + farI a s.spot) (q + (max (now + farI a s.spot) s.f - now - farI a s.spot)) := by
  rw [drop_at hi, drv, hs]
theorem stops_ok {l : List Stop} (h : stopsE l = 0) : l.length ≤ 60 ∧ ∀ s ∈ l, stopB s = true := by
  unfold stopsE at h
  by_cases h1 : l.length > 60
  · rw [if_pos h1] at h; omega
  rw [if_neg h1] at h
  refine ⟨by omega, fun s hs => ?_⟩
  obtain ⟨k, hk⟩ := List.getElem?_of_mem hs
  have hlt := (List.getElem?_eq_some_iff.1 hk).1
  have h2 := firstE_zero h k (by omega) (by omega)
  unfold stopE at h2
  rw [hk] at h2
  simp only at h2
  by_cases g1 : isKey s.key = false
  · rw [if_pos g1] at h2; omega
  rw [if_neg g1] at h2
  by_cases g2 : (l.take k).any (keyQ s) = true
  · rw [if_pos g2] at h2; omega
  rw [if_neg g2] at h2
  by_cases g3 : stopB s = false
  · rw [if_pos g3] at h2; omega
  simpa using g3
theorem stopB_ok {s : Stop} (h : stopB s = true) : (spotB s.spot = true ∧ -10000 ≤ s.x ∧ s.x ≤ 10000 ∧ -10000 ≤ s.y ∧ s.y ≤ 10000) ∧ 0 ≤ s.f ∧ s.f ≤ s.t ∧ s.t ≤ 1440 ∧ 0 ≤ s.n ∧ s.n ≤ 1440 := by
  unfold stopB at h
  rw [Bool.and_eq_true] at h
  exact ⟨⟨h.1, spotB_iff.1 h.1⟩, of_decide_eq_true h.2⟩
theorem farI_bd {a b : Spot} (ha : spotB a = true) (hb : spotB b = true) : 0 ≤ farI a b ∧ farI a b ≤ 40000 := by
  have h1 := spotB_iff.1 ha
  have h2 := spotB_iff.1 hb
  unfold farI
  omega
theorem far_ok {a b : Spot} (ha : spotB a = true) (hb : spotB b = true) : PFn Tryz.prog 41 [.agg a.row, .agg b.row] (· = .int (farI a b)) := by
  have h1 := spotB_iff.1 ha
  have h2 := spotB_iff.1 hb
  exact far_fn a b ⟨by omega, by omega, by omega, by omega⟩ ⟨by omega, by omega, by omega, by omega⟩
theorem impT : ImpL [Tr.raw (.slice none 0 0), Tr.raw (.int .i64 0), Tr.raw (.int .i64 0), Tr.raw (.int .i64 0)] [.ints [], .int 0, .int 0, .int 0] := .cons Imp.nil (.cons Imp.refl (.cons Imp.refl (.cons Imp.refl .nil)))
theorem intRows_nil : intRows [] = [] := rfl
theorem intRows_snoc (l : List Int) (x : Int) : intRows l ++ [[Tr.int x]] = intRows (l ++ [x]) := by rw [intRows_app]; rfl
attribute [local irreducible] intRows farI
theorem drive_fn (h : Spot) (l : List Stop) (s : Int) (o : List Int) (ht : tripE h l s = 0) (hoe : ∀ i ∈ o, 0 ≤ i ∧ i < l.length) (hol : o.length ≤ 1000) : PFn Tryz.prog 44 [.agg [.int h.x, .int h.y, .stops l, .int s], .ints o] (· = drvT (drv l h o h s [] 0 0)) := by
  have hL : (l.map Stop.row).length = l.length := List.length_map _
  have hoR := intRows_len o
  have ht2 : stopsE l = 0 ∧ spotB h = true ∧ 0 ≤ s ∧ s ≤ 1440 := by
    unfold tripE at ht
    by_cases h1 : stopsE l ≠ 0
    · rw [if_pos h1] at ht; exact absurd ht h1
    rw [if_neg h1] at ht
    by_cases h2 : spotB h = true ∧ 0 ≤ s ∧ s ≤ 1440
    · exact ⟨by omega, h2⟩
    · rw [if_neg h2] at ht; omega
  obtain ⟨hse, hhb, hsb⟩ := ht2
  obtain ⟨hl60, hst⟩ := stops_ok hse
  obtain ⟨R, hR⟩ : ∃ R, R = drv l h o h s [] 0 0 := ⟨_, rfl⟩
  rw [← hR]
  clear ht hse
  refine PFn.mk (Spec.body Tryz.func44 rfl rfl (Tryz.ntmps44) rfl fun w0 own0 M => ?_)
  repeat' (first | refine goH ?_ | refine goV ?_ | refine goB (fun b => ?_) | refine goC (fun ad cap => ?_) | refine goI ?_ | (refine Cw.k_cond ?_; first | (refine Cw.cond_dec rfl (fun hc => ?_) (fun hc => ?_) <;> try (exfalso; omega)) | refine Cw.cond_bool rfl (fun hc => ?_) (fun hc => ?_)) | refine goR ?_ | refine goP ?_ | apply PSeq.cons | apply PSeq.yes rfl rfl rfl | exact goW | fail)
  rename_i b2 b4
  obtain ⟨b6, hb6⟩ : ∃ b6, b6 = b := ⟨_, rfl⟩
  subst hb6
  first | refine Cw.region_YP (fun ξ S => Chunk.box b6 50 (List.map Tr.raw [.slice none 0 0, .int .i64 0, .int .i64 0, .int .i64 0]) :: Chunk.box b4 50 (List.map Tr.raw [.slice none 0 0, .int .i64 0, .int .i64 0, .int .i64 0]) :: Chunk.box b2 92 [.int h.x, .int h.y, .stops l, .int s] :: (stg (S 4) [] [Chunk.box (blk (ξ 4)) 43 (stg (S 5) [Tr.int 0, Tr.int 0] [.int h.x, .int h.y])] ++ [])) rfl (by decide +kernel) rfl ((fun (ξ : Nat → Value) (S : Nat → Bool) => Chunk.box b6 50 (List.map Tr.raw [.slice none 0 0, .int .i64 0, .int .i64 0, .int .i64 0]) :: Chunk.box b4 50 (List.map Tr.raw [.slice none 0 0, .int .i64 0, .int .i64 0, .int .i64 0]) :: Chunk.box b2 92 [.int h.x, .int h.y, .stops l, .int s] :: (stg (S 4) [] [Chunk.box (blk (ξ 4)) 43 (stg (S 5) [Tr.int 0, Tr.int 0] [.int h.x, .int h.y])] ++ [])) (fun _ => undef) (fun _ => false)) (by simp only [upd_same, updD_same, upd_ne, updD_ne, ne_eq, Nat.reduceEqDiff, not_false_eq_true, stg_t, stg_f, vAd_s, vCap_s, blk_p, List.cons_append, List.nil_append, b2n_t, b2n_f]; exact goXm) (fun _ => rfl) ?_ | fail
  apply YSeq.w (by intro _ _ _; rfl)
  · intro ξ S h1 h2 h3 h4
    have hN0_5 := closed_false h1 h3 (k := 5) rfl (by decide)
    try simp only [upd_same, updD_same, upd_ne, updD_ne, ne_eq, Nat.reduceEqDiff, not_false_eq_true, stg_t, stg_f, vAd_s, vCap_s, blk_p, List.cons_append, List.nil_append, b2n_t, b2n_f, hN0_5]
    exact goW
  · intro ξ v; rfl
  · intro ξ k v S h3 hn hk
    first
    | rfl
  apply YSeq.w (by intro _ _ _; rfl)
  · intro ξ S h1 h2 h3 h4
    have hN1_5 := closed_false h1 h3 (k := 5) rfl (by decide)
    try simp only [upd_same, updD_same, upd_ne, updD_ne, ne_eq, Nat.reduceEqDiff, not_false_eq_true, stg_t, stg_f, vAd_s, vCap_s, blk_p, List.cons_append, List.nil_append, b2n_t, b2n_f, hN1_5]
    exact goW
  · intro ξ v; rfl
  · intro ξ k v S h3 hn hk
    first
    | rfl
  apply YSeq.w (by intro _ _ _; rfl)
  · intro ξ S h1 h2 h3 h4
    try simp only [upd_same, updD_same, upd_ne, updD_ne, ne_eq, Nat.reduceEqDiff, not_false_eq_true, stg_t, stg_f, vAd_s, vCap_s, blk_p, List.cons_append, List.nil_append, b2n_t, b2n_f]
    exact goW
  · intro ξ v; rfl
  · intro ξ k v S h3 hn hk
    first
    | rfl
  apply YSeq.w (by intro _ _ _; rfl)
  · intro ξ S h1 h2 h3 h4
    try simp only [upd_same, updD_same, upd_ne, updD_ne, ne_eq, Nat.reduceEqDiff, not_false_eq_true, stg_t, stg_f, vAd_s, vCap_s, blk_p, List.cons_append, List.nil_append, b2n_t, b2n_f]
    exact goW
  · intro ξ v; rfl
  · intro ξ k v S h3 hn hk
    first
    | rfl
  apply YSeq.alloc
  · intro ξ S b h1 h3
    have hN4_5 := closed_false h1 h3 (k := 5) rfl (by decide)
    simp only [upd_same, updD_same, upd_ne, updD_ne, ne_eq, Nat.reduceEqDiff, not_false_eq_true, stg_t, stg_f, vAd_s, vCap_s, blk_p, List.cons_append, List.nil_append, b2n_t, b2n_f, h1, hN4_5]
    exact goXm
  apply YSeq.store
  · intro ξ S h1 h2 h3 h4
    have hY5_4 : S 4 = true := h2 4 (by decide)
    simp only [upd_same, updD_same, upd_ne, updD_ne, ne_eq, Nat.reduceEqDiff, not_false_eq_true, stg_t, stg_f, vAd_s, vCap_s, blk_p, List.cons_append, List.nil_append, b2n_t, b2n_f, hY5_4, h1]
    refine ⟨_, _, _, _, _, _, _, rfl, rfl, inferInstance, goXp, rfl, Nat.le_of_ble_eq_true rfl, ?_⟩
    exact goXm
  apply YSeq.w (by intro _ _ _; rfl)
  · intro ξ S h1 h2 h3 h4
    have hY6_4 : S 4 = true := h2 4 (by decide)
    have hY6_5 : S 5 = true := h2 5 (by decide)
    try simp only [upd_same, updD_same, upd_ne, updD_ne, ne_eq, Nat.reduceEqDiff, not_false_eq_true, stg_t, stg_f, vAd_s, vCap_s, blk_p, List.cons_append, List.nil_append, b2n_t, b2n_f, hY6_4, hY6_5]
    exact goW
  · intro ξ v; rfl
  · intro ξ k v S h3 hn hk
    first
    | rfl
    | skip
      have hY6_4 : S 4 = true := h3 6 _ rfl hn 4 (by decide)
      simp only [upd_S hY6_4 hk]
  refine YSeq.nil fun ξ hf => ?_
  refine ⟨[(1, _), (2, _), (4, _), (6, _), (7, _), (8, _)], _, Ent.trans (Ent.eqc rfl (by first | (simp only [upd_same, updD_same, upd_ne, updD_ne, ne_eq, Nat.reduceEqDiff, not_false_eq_true, stg_t, stg_f, vAd_s, vCap_s, blk_p, List.cons_append, List.nil_append, b2n_t, b2n_f, ownV, slV, ptV] <;> rfl) | rfl)) (Ent.sub goSub), ?_⟩
  clear hf
  generalize blk (ξ 4) = b7
  refine Then.norm ?_
  repeat' (first | refine goH ?_ | refine goV ?_ | refine goB (fun b => ?_) | refine goC (fun ad cap => ?_) | refine goI ?_ | (refine Cw.k_cond ?_; first | (refine Cw.cond_dec rfl (fun hc => ?_) (fun hc => ?_) <;> try (exfalso; omega)) | refine Cw.cond_bool rfl (fun hc => ?_) (fun hc => ?_)) | refine goR ?_ | refine goP ?_ | apply PSeq.cons | apply PSeq.yes rfl rfl rfl | exact goW | fail)
  refine Cw.loopI [(2, _), (4, _), (6, _), (7, _), (19, _), (20, _)] _ (fun z e cc => ∃ (k : Nat) (a : Spot) (now w q : Int) (bs : List Int) (rows : List (List Tr)) (ad : Option Addr) (cap : Nat), z = o.length - k ∧ (k ≤ o.length ∧ R = drv l h (o.drop k) a now bs w q ∧ spotB a = true ∧ (0 ≤ now ∧ now ≤ 3000) ∧ (0 ≤ w ∧ w ≤ (k : Int) * 40000) ∧ (0 ≤ q ∧ q ≤ (k : Int) * 3000) ∧ rows = intRows bs ∧ rows.length = k) ∧ e = [(8, .int now), (21, .int k)] ∧ cc = [Chunk.box b6 50 [Tr.raw (.slice ad k cap), .int 0, .int w, .int q], Chunk.own ad cap 1 3 rows, Chunk.box b7 43 [.int a.x, .int a.y]])
    ⟨_, _, _, Ent.trans (Ent.nil 1 3) (Ent.mkP goSub goPm), 0, h, s, 0, 0, [], [], none, 0, rfl, ⟨by omega, by rw [List.drop_zero]; exact hR, hhb, by omega, by omega, by omega, intRows_nil.symm, rfl⟩, rfl, rfl⟩ ?_
  clear hR
  rintro _ _ _ ⟨k, a, now, w, q, bs, rows, ad, cap, rfl, ⟨hk, hV, hab, hnow, hw, hq, hrs, hrl⟩, rfl, rfl⟩
  have hfb := farI_bd hab hhb
  have kH : PFn Tryz.prog 41 [.agg [.int a.x, .int a.y], .agg [.int h.x, .int h.y]] (· = .int (farI a h)) := far_ok hab hhb
  by_cases hkl : k < o.length
  rotate_left
  · rw [drv_end (by omega)] at hV
    rw [hV]
    generalize farI a h = g at *
    clear hV hst hoe
    repeat' (first | refine goH ?_ | refine goV ?_ | refine goB (fun b => ?_) | refine goC (fun ad cap => ?_) | refine goI ?_ | (refine Cw.k_cond ?_; first | (refine Cw.cond_dec rfl (fun hc => ?_) (fun hc => ?_) <;> try (exfalso; omega)) | refine Cw.cond_bool rfl (fun hc => ?_) (fun hc => ?_)) | (refine Ops.k_calla ?_; first | (refine Ops.k_callf 41 ?_; refine Ops.callV kH (Evs.cons rfl (Evs.cons rfl Evs.nil)) rfl ?_)) | (apply OpW.k_call; first | (apply OpW.k_callf 41; exact OpW.callV kH (Evs.cons rfl (Evs.cons rfl Evs.nil)))) | refine goR ?_ | refine goP ?_ | apply PSeq.cons | apply PSeq.yes rfl rfl rfl | exact goW | fail)
    subst hrs
    refine Fin.ent (Ent.settle_box (b := b4) (i := 0) (ad := ad) (kk := 1) (rows := intRows bs) (by exact Perm.cons' goPk (Perm.cons' goPk (List.Perm.refl _))) rfl hrl.symm rfl) ?_
    unfold drvT
    refine Fin.ret (Ent.trans (Ent.setbox (s := 4) rfl goPk) (Ent.take goTk)) (Outs.many rfl (OutL.cons goOe (OutL.cons goOe OutL.nil)) rfl) ⟨rfl, rfl⟩
  obtain ⟨i, hi⟩ := at_lt hkl
  have r1 := intRows_at hi
  have hib := hoe i (List.mem_of_getElem? hi)
  obtain ⟨x, hx⟩ := at_lt (l := l) (k := i.toNat) (by omega)
  have hrow : (l.map Stop.row)[i.toNat]? = some [.str x.key, .int x.x, .int x.y, .int x.f, .int x.t, .int x.n] := rows_at hx
  obtain ⟨⟨hxs, hx1⟩, hx2⟩ := stopB_ok (hst x (List.mem_of_getElem? hx))
  have kS : PFn Tryz.prog 41 [.agg [.int a.x, .int a.y], .agg [.int x.x, .int x.y]] (· = .int (farI a x.spot)) := far_ok hab hxs
  have hgb := farI_bd hab hxs
  rw [drv_step hi hx] at hV
  generalize farI a x.spot = g at *
  obtain ⟨m, hm⟩ : ∃ m, m = max (now + g) x.f := ⟨_, rfl⟩
  have hmb : now + g ≤ m ∧ (m = now + g ∨ m = x.f) := by omega
  clear hi hx hst hoe kH hfb
  by_cases hlate : x.t < m
  · rw [if_pos (by rw [← hm]; exact hlate)] at hV
    rw [hV]
    clear hV hrs
    rw [hm] at hlate
    repeat' (first | refine goH ?_ | refine goV ?_ | refine goB (fun b => ?_) | refine goC (fun ad cap => ?_) | refine goI ?_ | (refine Cw.k_cond ?_; first | (refine Cw.cond_dec rfl (fun hc => ?_) (fun hc => ?_) <;> try (exfalso; omega)) | refine Cw.cond_bool rfl (fun hc => ?_) (fun hc => ?_)) | (refine Ops.k_calla ?_; first | (refine Ops.k_callf 41 ?_; refine Ops.callV kS (Evs.cons rfl (Evs.cons rfl Evs.nil)) rfl ?_)) | (apply OpW.k_call; first | (apply OpW.k_callf 41; exact OpW.callV kS (Evs.cons rfl (Evs.cons rfl Evs.nil)))) | refine goR ?_ | refine goP ?_ | apply PSeq.cons | apply PSeq.yes rfl rfl rfl | exact goW | fail)
    unfold drvT
    refine Fin.ent (Ent.imp_box (b := b4) goPk impT) ?_
    refine Fin.ret (Ent.trans (Ent.setbox (s := 4) rfl goPk) (Ent.take goTk)) (Outs.many rfl (OutL.cons goOe (OutL.cons goOe OutL.nil)) rfl) ⟨rfl, rfl⟩
  · rw [if_neg (by rw [← hm]; exact hlate)] at hV
    have hrs2 : rows ++ [[Tr.int m]] = intRows (bs ++ [m]) := by rw [hrs, intRows_snoc]
    have hrl2 : (rows ++ [[Tr.int m]]).length = k + 1 := by rw [List.length_append, hrl]; rfl
    have hm2 : max (now + g) x.f = m := hm.symm
    have hlate2 : ¬ x.t < max (now + g) x.f := by rw [hm2]; exact hlate
    rw [hm2] at hV
    clear hrs hm
    repeat' (first | refine goH ?_ | refine goV ?_ | refine goB (fun b => ?_) | refine goC (fun ad cap => ?_) | refine goI ?_ | (refine Cw.k_cond ?_; first | (refine Cw.cond_dec rfl (fun hc => ?_) (fun hc => ?_) <;> try (exfalso; omega)) | refine Cw.cond_bool rfl (fun hc => ?_) (fun hc => ?_)) | (refine Ops.k_calla ?_; first | (refine Ops.k_callf 41 ?_; refine Ops.callV kS (Evs.cons rfl (Evs.cons rfl Evs.nil)) rfl ?_)) | (apply OpW.k_call; first | (apply OpW.k_callf 41; exact OpW.callV kS (Evs.cons rfl (Evs.cons rfl Evs.nil)))) | refine goR ?_ | refine goP ?_ | apply PSeq.cons | apply PSeq.yes rfl rfl rfl | exact goW | fail)
    rw [hm2, hrl2]
    first | refine Cw.region_YP (fun ξ S => Chunk.box b 45 [.str x.key, .int x.x, .int x.y, .int x.f, .int x.t, .int x.n] :: Chunk.box b6 50 [Tr.raw (.slice ad (k + 1) cap), .int 0, .int (w + g), .int (q + (m - now - g))] :: Chunk.own ad cap 1 3 (rows ++ [[Tr.int m]]) :: Chunk.box b7 43 (stg (S 6) [.int a.x, .int a.y] [.int x.x, .int x.y]) :: Chunk.box b4 50 (List.map Tr.raw [.slice none 0 0, .int .i64 0, .int .i64 0, .int .i64 0]) :: Chunk.box b2 92 [.int h.x, .int h.y, .stops l, .int s] :: []) rfl (by decide +kernel) rfl ((fun (ξ : Nat → Value) (S : Nat → Bool) => Chunk.box b 45 [.str x.key, .int x.x, .int x.y, .int x.f, .int x.t, .int x.n] :: Chunk.box b6 50 [Tr.raw (.slice ad (k + 1) cap), .int 0, .int (w + g), .int (q + (m - now - g))] :: Chunk.own ad cap 1 3 (rows ++ [[Tr.int m]]) :: Chunk.box b7 43 (stg (S 6) [.int a.x, .int a.y] [.int x.x, .int x.y]) :: Chunk.box b4 50 (List.map Tr.raw [.slice none 0 0, .int .i64 0, .int .i64 0, .int .i64 0]) :: Chunk.box b2 92 [.int h.x, .int h.y, .stops l, .int s] :: []) (fun _ => undef) (fun _ => false)) (by simp only [upd_same, updD_same, upd_ne, updD_ne, ne_eq, Nat.reduceEqDiff, not_false_eq_true, stg_t, stg_f, vAd_s, vCap_s, blk_p, List.cons_append, List.nil_append, b2n_t, b2n_f]; exact goXm) (fun _ => rfl) ?_ | fail
    apply YSeq.w (by intro _ _ _; rfl)
    · intro ξ S h1 h2 h3 h4
      have hN0_6 := closed_false h1 h3 (k := 6) rfl (by decide)
      try simp only [upd_same, updD_same, upd_ne, updD_ne, ne_eq, Nat.reduceEqDiff, not_false_eq_true, stg_t, stg_f, vAd_s, vCap_s, blk_p, List.cons_append, List.nil_append, b2n_t, b2n_f, hN0_6]
      exact goW
    · intro ξ v; rfl
    · intro ξ k v S h3 hn hk
      first
      | rfl
    apply YSeq.w (by intro _ _ _; rfl)
    · intro ξ S h1 h2 h3 h4
      have hN1_6 := closed_false h1 h3 (k := 6) rfl (by decide)
      try simp only [upd_same, updD_same, upd_ne, updD_ne, ne_eq, Nat.reduceEqDiff, not_false_eq_true, stg_t, stg_f, vAd_s, vCap_s, blk_p, List.cons_append, List.nil_append, b2n_t, b2n_f, hN1_6]
      exact goW
    · intro ξ v; rfl
    · intro ξ k v S h3 hn hk
      first
      | rfl
    apply YSeq.w (by intro _ _ _; rfl)
    · intro ξ S h1 h2 h3 h4
      try simp only [upd_same, updD_same, upd_ne, updD_ne, ne_eq, Nat.reduceEqDiff, not_false_eq_true, stg_t, stg_f, vAd_s, vCap_s, blk_p, List.cons_append, List.nil_append, b2n_t, b2n_f]
      exact goW
    · intro ξ v; rfl
    · intro ξ k v S h3 hn hk
      first
      | rfl
    apply YSeq.w (by intro _ _ _; rfl)
    · intro ξ S h1 h2 h3 h4
      try simp only [upd_same, updD_same, upd_ne, updD_ne, ne_eq, Nat.reduceEqDiff, not_false_eq_true, stg_t, stg_f, vAd_s, vCap_s, blk_p, List.cons_append, List.nil_append, b2n_t, b2n_f]
      exact goW
    · intro ξ v; rfl
    · intro ξ k v S h3 hn hk
      first
      | rfl
    apply YSeq.w (by intro _ _ _; rfl)
    · intro ξ S h1 h2 h3 h4
      try simp only [upd_same, updD_same, upd_ne, updD_ne, ne_eq, Nat.reduceEqDiff, not_false_eq_true, stg_t, stg_f, vAd_s, vCap_s, blk_p, List.cons_append, List.nil_append, b2n_t, b2n_f]
      exact goW
    · intro ξ v; rfl
    · intro ξ k v S h3 hn hk
      first
      | rfl
    apply YSeq.w (by intro _ _ _; rfl)
    · intro ξ S h1 h2 h3 h4
      try simp only [upd_same, updD_same, upd_ne, updD_ne, ne_eq, Nat.reduceEqDiff, not_false_eq_true, stg_t, stg_f, vAd_s, vCap_s, blk_p, List.cons_append, List.nil_append, b2n_t, b2n_f]
      exact goW
    · intro ξ v; rfl
    · intro ξ k v S h3 hn hk
      first
      | rfl
    apply YSeq.store
    · intro ξ S h1 h2 h3 h4
      simp only [upd_same, updD_same, upd_ne, updD_ne, ne_eq, Nat.reduceEqDiff, not_false_eq_true, stg_t, stg_f, vAd_s, vCap_s, blk_p, List.cons_append, List.nil_append, b2n_t, b2n_f, h1]
      refine ⟨_, _, _, _, _, _, _, rfl, rfl, inferInstance, goXp, rfl, Nat.le_of_ble_eq_true rfl, ?_⟩
      exact goXm
    apply YSeq.w (by intro _ _ _; rfl)
    · intro ξ S h1 h2 h3 h4
      have hY7_6 : S 6 = true := h2 6 (by decide)
      try simp only [upd_same, updD_same, upd_ne, updD_ne, ne_eq, Nat.reduceEqDiff, not_false_eq_true, stg_t, stg_f, vAd_s, vCap_s, blk_p, List.cons_append, List.nil_append, b2n_t, b2n_f, hY7_6]
      exact goW
    · intro ξ v; rfl
    · intro ξ k v S h3 hn hk
      first
      | rfl
    refine YSeq.nil fun ξ hf => ?_
    refine ⟨[(2, _), (4, _), (6, _), (7, _), (8, _), (19, _), (20, _), (21, _)], _, Ent.trans (Ent.eqc rfl (by first | (simp only [upd_same, updD_same, upd_ne, updD_ne, ne_eq, Nat.reduceEqDiff, not_false_eq_true, stg_t, stg_f, vAd_s, vCap_s, blk_p, List.cons_append, List.nil_append, b2n_t, b2n_f, ownV, slV, ptV] <;> rfl) | rfl)) (Ent.sub goSub), ?_⟩
    clear hf
    repeat' (first | refine goH ?_ | refine goV ?_ | refine goB (fun b => ?_) | refine goC (fun ad cap => ?_) | refine goI ?_ | (refine Cw.k_cond ?_; first | (refine Cw.cond_dec rfl (fun hc => ?_) (fun hc => ?_) <;> try (exfalso; omega)) | refine Cw.cond_bool rfl (fun hc => ?_) (fun hc => ?_)) | refine goR ?_ | refine goP ?_ | apply PSeq.cons | apply PSeq.yes rfl rfl rfl | exact goW | fail)
    exact ⟨_, _, _, (Ent.mk goSub goTk), ⟨k + 1, x.spot, m + x.n, w + g, q + (m - now - g), bs ++ [m], _, _, _, rfl, ⟨by omega, hV, hxs, by omega, by omega, by omega, hrs2, hrl2⟩, rfl, rfl⟩, by omega⟩
end Lg
end
section
set_option linter.all false
set_option maxRecDepth 100000
set_option maxHeartbeats 8000000
namespace Lg
open Go Go.Proofs

def idxN : List Int → Int → Nat
  | [], _ => 0
  | x :: l, v => if x = v then 0 else idxN l v + 1
theorem idxN_no {l : List Int} {k : Nat} {x v : Int} (h : l[k]? = some x) (hx : x ≠ v) : k + idxN (l.drop k) v = (k + 1) + idxN (l.drop (k + 1)) v := by
  rw [drop_at h, idxN, if_neg hx]
  omega
theorem idxN_yes {l : List Int} {k : Nat} {v : Int} (h : l[k]? = some v) : k + idxN (l.drop k) v = k := by
  rw [drop_at h, idxN, if_pos rfl]
  omega
theorem idxN_lt : ∀ {l : List Int} {v : Int}, v ∈ l → idxN l v < l.length
  | x :: l, v, h => by
    rw [idxN]
    by_cases hx : x = v
    · rw [if_pos hx]; simp
    · rw [if_neg hx]
      rcases List.mem_cons.1 h with e | h
      · exact absurd e.symm hx
      · have := idxN_lt h
        simp
        omega
attribute [local irreducible] intRows
theorem index_fn (l : List Int) (v : Int) (hv : v ∈ l) (hl : l.length ≤ 1000000) : PFn Tryz.prog 80 [.ints l, .int v] (· = .int (idxN l v)) := by
  have hL := intRows_len l
  have hlt := idxN_lt hv
  refine PFn.mk (Spec.body Tryz.func80 rfl rfl (Tryz.ntmps80) rfl fun w0 own0 M => ?_)
  repeat' (first | refine goH ?_ | refine goV ?_ | refine goI ?_ | (refine Cw.k_cond ?_; first | (refine Cw.cond_dec rfl (fun hc => ?_) (fun hc => ?_) <;> try (exfalso; omega)) | refine Cw.cond_bool rfl (fun hc => ?_) (fun hc => ?_)) | fail)
  refine Cw.loopI [(0, _), (1, _), (7, _)] _ (fun q e cc => ∃ (k : Nat), q = l.length - k ∧ (k ≤ l.length ∧ idxN l v = k + idxN (l.drop k) v) ∧ e = [(8, .int k)] ∧ cc = []) ⟨_, _, _, (Ent.mkP goSub goPm), 0, rfl, ⟨by omega, by rw [List.drop_zero]; omega⟩, rfl, rfl⟩ ?_
  rintro _ _ _ ⟨k, rfl, ⟨hk, hV⟩, rfl, rfl⟩
  by_cases hkl : k < l.length
  · obtain ⟨y, hy⟩ := at_lt hkl
    have r1 := intRows_at hy
    by_cases hyv : v = y
    · subst hyv
      have hV2 := hV.trans (idxN_yes hy)
      rw [hV2]
      clear hV hy hV2
      repeat' (first | refine goH ?_ | refine goV ?_ | refine goI ?_ | (refine Cw.k_cond ?_; first | (refine Cw.cond_dec rfl (fun hc => ?_) (fun hc => ?_) <;> try (exfalso; omega)) | refine Cw.cond_bool rfl (fun hc => ?_) (fun hc => ?_)) | fail)
      exact Fin.ret (Ent.take goTk) (Outs.one rfl rfl) ⟨rfl, rfl⟩
    · have hV2 := hV.trans (idxN_no hy (fun e => hyv e.symm))
      clear hV hy
      repeat' (first | refine goH ?_ | refine goV ?_ | refine goI ?_ | (refine Cw.k_cond ?_; first | (refine Cw.cond_dec rfl (fun hc => ?_) (fun hc => ?_) <;> try (exfalso; omega)) | refine Cw.cond_bool rfl (fun hc => ?_) (fun hc => ?_)) | fail)
      exact ⟨_, _, _, (Ent.mk goSub goTk), ⟨k + 1, rfl, ⟨by omega, hV2⟩, rfl, rfl⟩, by omega⟩
  · exfalso
    omega
theorem indexN_fn (l : List Int) (v : Int) (hv : v ∉ l) (hl : l.length ≤ 1000000) : PFn Tryz.prog 80 [.ints l, .int v] (· = .int (-1)) := by
  have hL := intRows_len l
  refine PFn.mk (Spec.body Tryz.func80 rfl rfl (Tryz.ntmps80) rfl fun w0 own0 M => ?_)
  repeat' (first | refine goH ?_ | refine goV ?_ | refine goI ?_ | (refine Cw.k_cond ?_; first | (refine Cw.cond_dec rfl (fun hc => ?_) (fun hc => ?_) <;> try (exfalso; omega)) | refine Cw.cond_bool rfl (fun hc => ?_) (fun hc => ?_)) | fail)
  refine Cw.loopI [(0, _), (1, _), (7, _)] _ (fun q e cc => ∃ (k : Nat), q = l.length - k ∧ k ≤ l.length ∧ e = [(8, .int k)] ∧ cc = []) ⟨_, _, _, (Ent.mkP goSub goPm), 0, rfl, by omega, rfl, rfl⟩ ?_
  rintro _ _ _ ⟨k, rfl, hk, rfl, rfl⟩
  by_cases hkl : k < l.length
  · obtain ⟨y, hy⟩ := at_lt hkl
    have r1 := intRows_at hy
    have hyv : v ≠ y := fun e => hv (by rw [e]; exact List.mem_of_getElem? hy)
    clear hy
    repeat' (first | refine goH ?_ | refine goV ?_ | refine goI ?_ | (refine Cw.k_cond ?_; first | (refine Cw.cond_dec rfl (fun hc => ?_) (fun hc => ?_) <;> try (exfalso; omega)) | refine Cw.cond_bool rfl (fun hc => ?_) (fun hc => ?_)) | fail)
    exact ⟨_, _, _, (Ent.mk goSub goTk), ⟨k + 1, rfl, by omega, rfl, rfl⟩, by omega⟩
  · repeat' (first | refine goH ?_ | refine goV ?_ | refine goI ?_ | (refine Cw.k_cond ?_; first | (refine Cw.cond_dec rfl (fun hc => ?_) (fun hc => ?_) <;> try (exfalso; omega)) | refine Cw.cond_bool rfl (fun hc => ?_) (fun hc => ?_)) | fail)
    exact Fin.ret (Ent.take goTk) (Outs.one rfl rfl) ⟨rfl, rfl⟩
theorem contains_fn (l : List Int) (v : Int) (hl : l.length ≤ 1000000) : PFn Tryz.prog 42 [.ints l, .int v] (· = .bool (decide (v ∈ l))) := by
  by_cases hv : v ∈ l
  · rw [decide_eq_true hv]
    have k1 := index_fn l v hv hl
    generalize idxN l v = i at *
    refine PFn.mk (Spec.body Tryz.func42 rfl rfl (Tryz.ntmps42) rfl fun w0 own0 M => ?_)
    repeat' (first | refine goH ?_ | refine goV ?_ | refine goI ?_ | (refine Cw.k_cond ?_; first | (refine Cw.cond_dec rfl (fun hc => ?_) (fun hc => ?_) <;> try (exfalso; omega)) | refine Cw.cond_bool rfl (fun hc => ?_) (fun hc => ?_)) | (refine Ops.k_calla ?_; first | (refine Ops.k_callf 80 ?_; refine Ops.callV k1 (Evs.cons rfl (Evs.cons rfl Evs.nil)) rfl ?_)) | fail)
    exact Fin.ret (Ent.take goTk) (Outs.one rfl rfl) ⟨rfl, congrArg Tr.bool (decide_eq_true (by omega))⟩
  · rw [decide_eq_false hv]
    have k1 := indexN_fn l v hv hl
    refine PFn.mk (Spec.body Tryz.func42 rfl rfl (Tryz.ntmps42) rfl fun w0 own0 M => ?_)
    repeat' (first | refine goH ?_ | refine goV ?_ | refine goI ?_ | (refine Cw.k_cond ?_; first | (refine Cw.cond_dec rfl (fun hc => ?_) (fun hc => ?_) <;> try (exfalso; omega)) | refine Cw.cond_bool rfl (fun hc => ?_) (fun hc => ?_)) | (refine Ops.k_calla ?_; first | (refine Ops.k_callf 80 ?_; refine Ops.callV k1 (Evs.cons rfl (Evs.cons rfl Evs.nil)) rfl ?_)) | fail)
    exact Fin.ret (Ent.take goTk) (Outs.one rfl rfl) ⟨rfl, congrArg Tr.bool (decide_eq_false (by omega))⟩
end Lg
end
section
set_option linter.all false
set_option maxRecDepth 100000
set_option maxHeartbeats 8000000
namespace Lg
open Go Go.Proofs

def drvV : Option (List Int × Int × Int × Int) → Tr
  | none => .tup [.tour [] 0 0 0, .int 16]
  | some (bs, e, w, q) => .tup [.tour bs e w q, .int 0]
def drvU (l : List Stop) (h : Spot) (s : Int) (o : List Int) : Tr := if ordersE l.length o ≠ 0 then .tup [.tour [] 0 0 0, .int (ordersE l.length o)] else drvV (drv l h o h s [] 0 0)
theorem trip_ok {h : Spot} {l : List Stop} {s : Int} (ht : tripE h l s = 0) : stopsE l = 0 ∧ spotB h = true ∧ 0 ≤ s ∧ s ≤ 1440 := by
  unfold tripE at ht
  by_cases h1 : stopsE l ≠ 0
  · rw [if_pos h1] at ht; exact absurd ht h1
  rw [if_neg h1] at ht
  by_cases h2 : spotB h = true ∧ 0 ≤ s ∧ s ≤ 1440
  · exact ⟨by omega, h2⟩
  · rw [if_neg h2] at ht; omega
attribute [local irreducible] intRows farI
end Lg
end
