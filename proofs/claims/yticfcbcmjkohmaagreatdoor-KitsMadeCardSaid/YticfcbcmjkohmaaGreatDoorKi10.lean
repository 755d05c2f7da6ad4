/- A part of the proof of a law of this seat: it adds no condition. By an AI agent. -/
import Derived.Test.YticfcbcmjkohmaaGreatDoorKi7
section
set_option linter.all false
set_option maxRecDepth 100000
set_option maxHeartbeats 16000000
namespace Lg
open Go Go.Proofs

/-! ### maps of rows of numbers -/
def mpS (f : ByteArray → List Int) (ps : List ByteArray) : List (ByteArray × Tr) := ps.map fun q => (q, Tr.ints (f q))
theorem mpS_read {f : ByteArray → List Int} {a : ByteArray} {z : Value} : ∀ {ps : List ByteArray}, a ∈ ps → mread a z (mpS f ps) = Tr.ints (f a)
  | p :: ps, h => by
    unfold mread mpS
    rw [List.map_cons, mget]
    by_cases e : a = p
    · subst e
      rw [if_pos rfl]
      rfl
    · rw [if_neg e]
      rcases List.mem_cons.1 h with h | h
      · exact absurd h e
      · exact mpS_read h
theorem mpS_keep {f : ByteArray → List Int} {a : ByteArray} {v : List Int} : ∀ {ps : List ByteArray}, a ∉ ps → mpS (fun q => if q = a then v else f q) ps = mpS f ps
  | [], _ => rfl
  | p :: ps, h => by
    rw [List.mem_cons, not_or] at h
    unfold mpS
    rw [List.map_cons, List.map_cons]
    congr 1
    · show (p, Tr.ints (if p = a then v else f p)) = _
      rw [if_neg (fun e => h.1 e.symm)]
    · exact mpS_keep h.2
theorem mpS_set {f : ByteArray → List Int} {a : ByteArray} {v : List Int} : ∀ {ps : List ByteArray}, ps.Nodup → a ∈ ps → mset a (Tr.ints v) (mpS f ps) = mpS (fun q => if q = a then v else f q) ps
  | p :: ps, hn, h => by
    rw [List.nodup_cons] at hn
    unfold mpS
    rw [List.map_cons, List.map_cons, mset]
    by_cases e : a = p
    · subst e
      rw [if_pos rfl]
      show _ = (a, Tr.ints (if a = a then v else f a)) :: _
      rw [if_pos rfl]
      congr 1
      exact (mpS_keep hn.1).symm
    · rw [if_neg e]
      show _ = (p, Tr.ints (if p = a then v else f p)) :: _
      rw [if_neg (fun h => e h.symm)]
      rcases List.mem_cons.1 h with h | h
      · exact absurd h e
      · congr 1
        exact mpS_set hn.2 h
theorem mpS_new {f : ByteArray → List Int} {a : ByteArray} {v : List Int} : ∀ {ps : List ByteArray}, a ∉ ps → v = f a → mset a (Tr.ints v) (mpS f ps) = mpS f (ps ++ [a])
  | [], _, e => by subst e; rfl
  | p :: ps, h, e => by
    rw [List.mem_cons, not_or] at h
    unfold mpS
    rw [List.map_cons, List.cons_append, List.map_cons, mset, if_neg h.1]
    congr 1
    exact mpS_new h.2 e
theorem mpS_congr {f f' : ByteArray → List Int} {ps : List ByteArray} (h : ∀ q, f q = f' q) : mpS f ps = mpS f' ps := by
  rw [show f = f' from funext h]
theorem ints_tail (l : List Int) : (intRows l).drop 1 = intRows (l.drop 1) := by
  unfold intRows
  rw [List.map_drop]
instance : TyMap Tryz.prog 83 9 22 (.slice none 0 0) := ⟨Tryz.underlying83, ⟨_, rfl, rfl⟩⟩
theorem OpV.lookup_eq {P : Program} {Γ : Ctx} {env : Env} {cs cf : List Chunk} {ty T K E : TypeId} {x y : Operand} {α : Type} [DecidableEq α] {enc : α → Value} {zv : Value} [hT : TyMap P T K E zv] [hK : KeyTy P K enc] {b : Nat} {a : α} {kv : List (α × Tr)} {t : Tr} (hx : ev env x = some (.raw (.map (some b)))) (hy : ev env y = some (.raw (enc a)))
    (hp : cs.Perm (Chunk.mp enc b kv :: cf)) (he : mread a zv kv = t) : OpW P Γ (.lookup T x y false) ty env cs t := he ▸ OpV.w (OpV.lookup hx hy hp)
theorem kitOf_fn (x : List Lot) (ho : LOk x) (hx : x.length ≤ 10) (l : List Need) (hn : NOk l) (day dl : Int) (hd : 0 ≤ day ∧ day ≤ 4000) (hle : 0 ≤ dl ∧ dl ≤ 4000) : PFn Tryz.prog 16 [.lots x, .needs l, .int day, .int dl] (· = .tup [.sl 3 ((kitsOf x (day + dl) l).map Kt.row), .lots (restOf x (day + dl) l)]) := by
  have k1 := needed_fn l hn
  have hl := hn.len
  have hml := ndM_len l
  have hL : (l.map Need.row).length = l.length := List.length_map _
  have kcl := clone_lot (x.map Lot.row) lotRow4 (by rw [List.length_map]; omega)
  refine PFn.mk (Spec.body Tryz.func16 rfl rfl (Tryz.ntmps16) rfl fun w0 own0 M => ?_)
  repeat' (first | refine goH ?_ | (refine Ops.k_makeMap ?_; first | (refine Ops.makeMap Value.string rfl (fun b2 => ?_))) | (refine Ops.k_range ?_; first | (refine Ops.range rfl goPk rfl (fun r => ?_))) | refine goV ?_ | refine goB (fun b => ?_) | refine goC (fun ad cap => ?_) | refine goI ?_ | (refine Cw.k_cond ?_; first | (refine Cw.cond_dec rfl (fun hc => ?_) (fun hc => ?_) <;> try (exfalso; omega)) | refine Cw.cond_bool rfl (fun hc => ?_) (fun hc => ?_)) | (refine Ops.k_calla ?_; first | (refine Ops.k_callf 33 ?_; (refine Ops.callO kcl (Evs.cons rfl Evs.nil) rfl (fun ad2 cap2 rows2 hr => ?_); subst hr)) | (refine Ops.k_callf 39 ?_; (refine Ops.call k1 (Evs.cons rfl Evs.nil) goPm rfl ?_; rintro r cs' ⟨bm, rfl, rfl⟩))) | refine goR ?_ | refine goP ?_ | apply PSeq.cons | apply PSeq.yes rfl rfl rfl | exact goW | fail)
  refine Cw.loopI [(0, _), (1, _), (2, _), (3, _), (10, _), (11, _), (27, _)] _ (fun q e cc => ∃ (g lf : List (ByteArray × Int)) (kv : List (ByteArray × Tr)), q = lf.length ∧ ((ndM l).Perm (g ++ lf) ∧ kv = mpS (shP x (day + dl) l) (g.map Prod.fst)) ∧ e = [] ∧ cc = [Chunk.rg Value.string bm r (tkv (ndM l)) (tkv lf), Chunk.mp Value.string b2 kv])
    ⟨_, _, _, (Ent.mkP goSub goPm), [], ndM l, [], rfl, ⟨List.Perm.refl _, rfl⟩, rfl, rfl⟩ ?_
  rintro _ _ _ ⟨g, lf, kv, rfl, ⟨hp, hkv⟩, rfl, rfl⟩
  repeat' (first | refine goH ?_ | ((fail_if_success refine Ops.k_next ?_); refine goV ?_) | ((fail_if_success refine Ops.k_next ?_); refine goB (fun b => ?_)) | ((fail_if_success refine Ops.k_next ?_); refine goC (fun ad cap => ?_)) | refine goI ?_ | (refine Cw.k_cond ?_; first | (refine Cw.cond_dec rfl (fun hc => ?_) (fun hc => ?_) <;> try (exfalso; omega)) | refine Cw.cond_bool rfl (fun hc => ?_) (fun hc => ?_)) | refine goR ?_ | refine goP ?_ | apply PSeq.cons | apply PSeq.yes rfl rfl rfl | exact goW | fail)
  refine Ops.k_next ?_
  refine Ops.nextC rfl goPk rfl (fun hl0 => ?_) (fun j a t hj => ?_)
  · -- all products seen: the kits
    have hl0 := tkv_nil hl0
    subst hl0
    rw [List.append_nil] at hp
    have hnd : (g.map Prod.fst).Nodup := (hp.map Prod.fst).nodup_iff.1 (ndM_nodup l)
    have hin : ∀ z ∈ l, z.pr ∈ g.map Prod.fst := fun z hz => by
      rw [← (hp.map Prod.fst).mem_iff]
      exact (ndM_key z.pr).2 ⟨z, hz, rfl⟩
    generalize g.map Prod.fst = ps at *
    have hkv : kv = mpS (fun q => (shP x (day + dl) l q).drop (cntP q (l.take 0))) ps := hkv
    clear hp
    repeat' (first | refine goH ?_ | refine goV ?_ | refine goB (fun b => ?_) | refine goC (fun ad cap => ?_) | refine goI ?_ | (refine Cw.k_cond ?_; first | (refine Cw.cond_dec rfl (fun hc => ?_) (fun hc => ?_) <;> try (exfalso; omega)) | refine Cw.cond_bool rfl (fun hc => ?_) (fun hc => ?_)) | refine goR ?_ | refine goP ?_ | apply PSeq.cons | apply PSeq.yes rfl rfl rfl | exact goW | fail)
    rw [show (x.map Lot.row).length = x.length from List.length_map _]
    refine Cw.loopI [(2, _), (3, _), (10, _), (11, _), (63, _), (64, _)] _ (fun q e cc => ∃ (k : Nat) (ad3 : Option Addr) (cap3 : Nat) (lr kr : List (List Tr)) (kv : List (ByteArray × Tr)), q = l.length - k ∧ (k ≤ l.length ∧ lr = (kitSt x (day + dl) l k).2.map Lot.row ∧ lr.length = x.length ∧ kr = (kitSt x (day + dl) l k).1.map Kt.row ∧ kr.length = k ∧ kv = mpS (fun q => (shP x (day + dl) l q).drop (cntP q (l.take k))) ps) ∧ e = [(18, Tr.raw (.slice ad3 k cap3)), (65, .int k)] ∧ cc = [Chunk.own ad2 cap2 4 49 lr, Chunk.own ad3 cap3 3 74 kr, Chunk.mp Value.string b2 kv])
      ⟨_, _, _, Ent.trans (Ent.nil 3 74) (Ent.mkP goSub goPm), 0, none, 0, _, [], _, rfl, ⟨by omega, rfl, List.length_map _, rfl, rfl, hkv⟩, rfl, rfl⟩ ?_
    clear hkv
    rintro _ _ _ ⟨k, ad3, cap3, lr, kr, kv, rfl, ⟨hk, hlr, hlrl, hkr, hkrl, hkv⟩, rfl, rfl⟩
    by_cases hkl : k < l.length
    · obtain ⟨z, hz⟩ := at_lt hkl
      have hrow : (l.map Need.row)[k]? = some [.str z.pl, .str z.pr, .int z.many] := rows_at hz
      obtain ⟨q1, q2, q3, q4, q5, q6⟩ := kit_step ho hn (fr := day + dl) hz
      have hgk := (kgets_at (lots := x) (fr := day + dl) hz).1
      have hst := kitSt_succ (lots := x) (fr := day + dl) hz
      unfold kitS at hst
      generalize (kgets x (day + dl) l).getD k 0 = v at *
      have hsame := pick_same q1 z.pr (day + dl) q4
      have kp := taken_val (l := (kitSt x (day + dl) l k).2) q1 (by omega) (p := z.pr) (many := v) (day := day) (left := dl) (by omega) (by omega) (by omega) q6 (ad := ad2) (cap := cap2) (n := lr.length) (by rw [hlr, List.length_map])
      rw [← hlr, hlrl] at kp
      have e1 : lr.length = x.length := hlrl
      have hks : (kitSt x (day + dl) l k).1.map Kt.row ++ [[Tr.str z.pl, .str z.pr, .pieces (pickR (kitSt x (day + dl) l k).2 z.pr v (day + dl)).2.2]] = ((kitSt x (day + dl) l k).1 ++ [(⟨z.pl, z.pr, (pickR (kitSt x (day + dl) l k).2 z.pr v (day + dl)).2.2⟩ : Kt)]).map Kt.row := by rw [List.map_append]; rfl
      rw [← hkr] at hks
      simp only at hst
      have hr1 : ((pickR (kitSt x (day + dl) l k).2 z.pr v (day + dl)).1.map Lot.row).length = x.length := by rw [List.length_map, hsame.2, q2]
      have f1 : (pickR (kitSt x (day + dl) l k).2 z.pr v (day + dl)).1.map Lot.row = (kitSt x (day + dl) l (k + 1)).2.map Lot.row := by rw [hst]
      have f2 : kr ++ [[Tr.str z.pl, .str z.pr, .pieces (pickR (kitSt x (day + dl) l k).2 z.pr v (day + dl)).2.2]] = (kitSt x (day + dl) l (k + 1)).1.map Kt.row := by rw [hks, hst]
      generalize (pickR (kitSt x (day + dl) l k).2 z.pr v (day + dl)).1.map Lot.row = lr2 at *
      generalize (pickR (kitSt x (day + dl) l k).2 z.pr v (day + dl)).2.2 = pp at *
      -- the map's row of this product
      have hzin := hin z (List.mem_of_getElem? hz)
      have hmr : mread z.pr (.slice none 0 0) kv = Tr.ints ((shP x (day + dl) l z.pr).drop (cntP z.pr (l.take k))) := by rw [hkv]; exact mpS_read hzin
      have hms : mset z.pr (Tr.sl 1 ((intRows ((shP x (day + dl) l z.pr).drop (cntP z.pr (l.take k)))).drop 1)) kv = mpS (fun q => (shP x (day + dl) l q).drop (cntP q (l.take (k + 1)))) ps := by
        rw [ints_tail, List.drop_drop, hkv]
        refine (mpS_set hnd hzin).trans (mpS_congr fun q => ?_)
        by_cases e : q = z.pr
        · subst e
          rw [if_pos rfl, cntP_succ hz, if_pos rfl]
        · rw [if_neg e, cntP_succ hz, if_neg (fun h => e h.symm), Nat.add_zero]
      have hY : ((shP x (day + dl) l z.pr).drop (cntP z.pr (l.take k)))[0]? = some v := by rw [List.getElem?_drop, Nat.add_zero]; exact hgk
      generalize (shP x (day + dl) l z.pr).drop (cntP z.pr (l.take k)) = Y at *
      have hYr := intRows_at hY
      have hYl := intRows_len Y
      have hY1 := (List.getElem?_eq_some_iff.1 hY).1
      obtain ⟨kv2, hkv2⟩ : ∃ kv2, kv2 = mpS (fun q => (shP x (day + dl) l q).drop (cntP q (l.take (k + 1)))) ps := ⟨_, rfl⟩
      rw [← hkv2] at hms
      clear hst hks hlr hkr hgk hz hkv hY
      repeat' (first | refine goH ?_ | (refine Ops.k_lookup ?_; first | (refine Ops.lookup rfl rfl goPk rfl ?_; rw [hmr])) | refine goV ?_ | refine goB (fun b => ?_) | refine goC (fun ad cap => ?_) | refine goI ?_ | (refine Cw.k_cond ?_; first | (refine Cw.cond_dec rfl (fun hc => ?_) (fun hc => ?_) <;> try (exfalso; omega)) | refine Cw.cond_bool rfl (fun hc => ?_) (fun hc => ?_)) | fail)
      refine Cw.region_seqM 8 rfl (by decide +kernel) rfl ?_
      repeat' (first | refine goH ?_ | (refine Ops.k_mapUpdate ?_; first | (refine Ops.mapUpdate (t := Tr.sl 1 ((intRows Y).drop 1)) rfl rfl rfl goPk ?_; rw [hms])) | refine goV ?_ | refine goB (fun b => ?_) | refine goC (fun ad cap => ?_) | refine goI ?_ | (refine Cw.k_cond ?_; first | (refine Cw.cond_dec rfl (fun hc => ?_) (fun hc => ?_) <;> try (exfalso; omega)) | refine Cw.cond_bool rfl (fun hc => ?_) (fun hc => ?_)) | exact OpV.lookup_eq rfl rfl goPk hmr | refine goP ?_ | apply PSeq.cons | apply PSeq.yes rfl rfl rfl | exact goW | fail)
      have hk4 : (kr ++ [[Tr.str z.pl, Tr.str z.pr, Tr.pieces pp]]).length = k + 1 := by rw [List.length_append, hkrl]; rfl
      first | refine Cw.region_YP (fun ξ S => Chunk.box b 59 [.str z.pl, .str z.pr, .int z.many] :: stg (S 11) (Chunk.own ad2 cap2 4 49 lr) (Chunk.own ad2 cap2 4 49 lr2) :: stg (S 14) (Chunk.own ad3 cap3 3 74 kr) (ownV (ξ 14) 3 74 (kr ++ [[Tr.str z.pl, Tr.str z.pr, Tr.pieces pp]])) :: Chunk.mp Value.string b2 kv2 :: Chunk.mp Value.string bm (tkv (ndM l)) :: []) rfl (by decide +kernel) rfl ((fun (ξ : Nat → Value) (S : Nat → Bool) => Chunk.box b 59 [.str z.pl, .str z.pr, .int z.many] :: stg (S 11) (Chunk.own ad2 cap2 4 49 lr) (Chunk.own ad2 cap2 4 49 lr2) :: stg (S 14) (Chunk.own ad3 cap3 3 74 kr) (ownV (ξ 14) 3 74 (kr ++ [[Tr.str z.pl, Tr.str z.pr, Tr.pieces pp]])) :: Chunk.mp Value.string b2 kv2 :: Chunk.mp Value.string bm (tkv (ndM l)) :: []) (fun _ => undef) (fun _ => false)) (by simp only [upd_same, updD_same, upd_ne, updD_ne, ne_eq, Nat.reduceEqDiff, not_false_eq_true, stg_t, stg_f, vAd_s, vCap_s, blk_p, List.cons_append, List.nil_append, b2n_t, b2n_f]; exact goXm) (fun _ => rfl) ?_ | fail
      apply YSeq.w (by intro _ _ _; rfl)
      · intro ξ S h1 h2 h3 h4
        have hN0_14 := closed_false h1 h3 (k := 14) rfl (by decide)
        try simp only [upd_same, updD_same, upd_ne, updD_ne, ne_eq, Nat.reduceEqDiff, not_false_eq_true, stg_t, stg_f, vAd_s, vCap_s, blk_p, List.cons_append, List.nil_append, b2n_t, b2n_f, hN0_14]
        exact goW
      · intro ξ v; rfl
      · intro ξ k v S h3 hn hk
        first
        | rfl
      apply YSeq.w (by intro _ _ _; rfl)
      · intro ξ S h1 h2 h3 h4
        have hN1_2 := closed_false h1 h3 (k := 2) rfl (by decide)
        have hN1_12 := closed_false hN1_2 h3 (k := 12) rfl (by decide)
        have hN1_13 := closed_false hN1_12 h3 (k := 13) rfl (by decide)
        have hN1_14 := closed_false hN1_13 h3 (k := 14) rfl (by decide)
        try simp only [upd_same, updD_same, upd_ne, updD_ne, ne_eq, Nat.reduceEqDiff, not_false_eq_true, stg_t, stg_f, vAd_s, vCap_s, blk_p, List.cons_append, List.nil_append, b2n_t, b2n_f, hN1_14]
        exact goW
      · intro ξ v; rfl
      · intro ξ k v S h3 hn hk
        first
        | rfl
      apply YSeq.w (by intro _ _ _; rfl)
      · intro ξ S h1 h2 h3 h4
        have hN2_12 := closed_false h1 h3 (k := 12) rfl (by decide)
        have hN2_13 := closed_false hN2_12 h3 (k := 13) rfl (by decide)
        have hN2_14 := closed_false hN2_13 h3 (k := 14) rfl (by decide)
        try simp only [upd_same, updD_same, upd_ne, updD_ne, ne_eq, Nat.reduceEqDiff, not_false_eq_true, stg_t, stg_f, vAd_s, vCap_s, blk_p, List.cons_append, List.nil_append, b2n_t, b2n_f, hN2_14]
        exact goW
      · intro ξ v; rfl
      · intro ξ k v S h3 hn hk
        first
        | rfl
      apply YSeq.w (by intro _ _ _; rfl)
      · intro ξ S h1 h2 h3 h4
        have hN3_4 := closed_false h1 h3 (k := 4) rfl (by decide)
        have hN3_12 := closed_false hN3_4 h3 (k := 12) rfl (by decide)
        have hN3_13 := closed_false hN3_12 h3 (k := 13) rfl (by decide)
        have hN3_14 := closed_false hN3_13 h3 (k := 14) rfl (by decide)
        try simp only [upd_same, updD_same, upd_ne, updD_ne, ne_eq, Nat.reduceEqDiff, not_false_eq_true, stg_t, stg_f, vAd_s, vCap_s, blk_p, List.cons_append, List.nil_append, b2n_t, b2n_f, hN3_14]
        exact goW
      · intro ξ v; rfl
      · intro ξ k v S h3 hn hk
        first
        | rfl
      apply YSeq.w (by intro _ _ _; rfl)
      · intro ξ S h1 h2 h3 h4
        have hN4_12 := closed_false h1 h3 (k := 12) rfl (by decide)
        have hN4_13 := closed_false hN4_12 h3 (k := 13) rfl (by decide)
        have hN4_14 := closed_false hN4_13 h3 (k := 14) rfl (by decide)
        try simp only [upd_same, updD_same, upd_ne, updD_ne, ne_eq, Nat.reduceEqDiff, not_false_eq_true, stg_t, stg_f, vAd_s, vCap_s, blk_p, List.cons_append, List.nil_append, b2n_t, b2n_f, hN4_14]
        exact goW
      · intro ξ v; rfl
      · intro ξ k v S h3 hn hk
        first
        | rfl
      apply YSeq.w (by intro _ _ _; rfl)
      · intro ξ S h1 h2 h3 h4
        have hN5_11 := closed_false h1 h3 (k := 11) rfl (by decide)
        have hN5_14 := closed_false hN5_11 h3 (k := 14) rfl (by decide)
        try simp only [upd_same, updD_same, upd_ne, updD_ne, ne_eq, Nat.reduceEqDiff, not_false_eq_true, stg_t, stg_f, vAd_s, vCap_s, blk_p, List.cons_append, List.nil_append, b2n_t, b2n_f, hN5_11, hN5_14]
        exact goW
      · intro ξ v; rfl
      · intro ξ k v S h3 hn hk
        first
        | rfl
      apply YSeq.w (by intro _ _ _; rfl)
      · intro ξ S h1 h2 h3 h4
        have hN6_7 := closed_false h1 h3 (k := 7) rfl (by decide)
        have hN6_11 := closed_false hN6_7 h3 (k := 11) rfl (by decide)
        have hN6_14 := closed_false hN6_11 h3 (k := 14) rfl (by decide)
        try simp only [upd_same, updD_same, upd_ne, updD_ne, ne_eq, Nat.reduceEqDiff, not_false_eq_true, stg_t, stg_f, vAd_s, vCap_s, blk_p, List.cons_append, List.nil_append, b2n_t, b2n_f, hN6_11, hN6_14]
        exact goW
      · intro ξ v; rfl
      · intro ξ k v S h3 hn hk
        first
        | rfl
      apply YSeq.w (by intro _ _ _; rfl)
      · intro ξ S h1 h2 h3 h4
        have hN7_11 := closed_false h1 h3 (k := 11) rfl (by decide)
        have hN7_14 := closed_false hN7_11 h3 (k := 14) rfl (by decide)
        try simp only [upd_same, updD_same, upd_ne, updD_ne, ne_eq, Nat.reduceEqDiff, not_false_eq_true, stg_t, stg_f, vAd_s, vCap_s, blk_p, List.cons_append, List.nil_append, b2n_t, b2n_f, hN7_11, hN7_14]
        exact goW
      · intro ξ v; rfl
      · intro ξ k v S h3 hn hk
        first
        | rfl
      apply YSeq.w (by intro _ _ _; rfl)
      · intro ξ S h1 h2 h3 h4
        have hN8_11 := closed_false h1 h3 (k := 11) rfl (by decide)
        have hN8_14 := closed_false hN8_11 h3 (k := 14) rfl (by decide)
        try simp only [upd_same, updD_same, upd_ne, updD_ne, ne_eq, Nat.reduceEqDiff, not_false_eq_true, stg_t, stg_f, vAd_s, vCap_s, blk_p, List.cons_append, List.nil_append, b2n_t, b2n_f, hN8_11, hN8_14]
        exact goW
      · intro ξ v; rfl
      · intro ξ k v S h3 hn hk
        first
        | rfl
      apply YSeq.w (by intro _ _ _; rfl)
      · intro ξ S h1 h2 h3 h4
        have hN9_11 := closed_false h1 h3 (k := 11) rfl (by decide)
        have hN9_14 := closed_false hN9_11 h3 (k := 14) rfl (by decide)
        try simp only [upd_same, updD_same, upd_ne, updD_ne, ne_eq, Nat.reduceEqDiff, not_false_eq_true, stg_t, stg_f, vAd_s, vCap_s, blk_p, List.cons_append, List.nil_append, b2n_t, b2n_f, hN9_11, hN9_14]
        exact goW
      · intro ξ v; rfl
      · intro ξ k v S h3 hn hk
        first
        | rfl
      apply YSeq.w (by intro _ _ _; rfl)
      · intro ξ S h1 h2 h3 h4
        have hN10_11 := closed_false h1 h3 (k := 11) rfl (by decide)
        have hN10_14 := closed_false hN10_11 h3 (k := 14) rfl (by decide)
        try simp only [upd_same, updD_same, upd_ne, updD_ne, ne_eq, Nat.reduceEqDiff, not_false_eq_true, stg_t, stg_f, vAd_s, vCap_s, blk_p, List.cons_append, List.nil_append, b2n_t, b2n_f, hN10_11, hN10_14]
        exact goW
      · intro ξ v; rfl
      · intro ξ k v S h3 hn hk
        first
        | rfl
      apply YSeq.callC
      · intro ξ S h1 h2 h3 h4
        have hN11_14 := closed_false h1 h3 (k := 14) rfl (by decide)
        try simp only [upd_same, updD_same, upd_ne, updD_ne, ne_eq, Nat.reduceEqDiff, not_false_eq_true, stg_t, stg_f, vAd_s, vCap_s, blk_p, List.cons_append, List.nil_append, b2n_t, b2n_f, h1, hN11_14]
        exact ⟨_, _, _, _, kp, (Evs.cons rfl (Evs.cons rfl (Evs.cons rfl (Evs.cons rfl (Evs.cons rfl Evs.nil))))), goXp, fun v => (by first | exact goXp | (simp only [upd_same, updD_same, upd_ne, updD_ne, ne_eq, Nat.reduceEqDiff, not_false_eq_true, stg_t, stg_f, vAd_s, vCap_s, blk_p, List.cons_append, List.nil_append, b2n_t, b2n_f]; exact goXp))⟩
      · intro ξ v; rfl
      · intro ξ k v S h3 hn hk
        first
        | rfl
      apply YSeq.w (by intro _ _ _; rfl)
      · intro ξ S h1 h2 h3 h4
        have hY12_11 : S 11 = true := h2 11 (by decide)
        have hN12_13 := closed_false h1 h3 (k := 13) rfl (by decide)
        have hN12_14 := closed_false hN12_13 h3 (k := 14) rfl (by decide)
        try simp only [upd_same, updD_same, upd_ne, updD_ne, ne_eq, Nat.reduceEqDiff, not_false_eq_true, stg_t, stg_f, vAd_s, vCap_s, blk_p, List.cons_append, List.nil_append, b2n_t, b2n_f, hY12_11, hN12_14]
        exact goW
      · intro ξ v; rfl
      · intro ξ k v S h3 hn hk
        first
        | rfl
      apply YSeq.w (by intro _ _ _; rfl)
      · intro ξ S h1 h2 h3 h4
        have hY13_12 : S 12 = true := h2 12 (by decide)
        have hY13_11 : S 11 = true := h3 12 _ rfl hY13_12 11 (by decide)
        have hN13_14 := closed_false h1 h3 (k := 14) rfl (by decide)
        try simp only [upd_same, updD_same, upd_ne, updD_ne, ne_eq, Nat.reduceEqDiff, not_false_eq_true, stg_t, stg_f, vAd_s, vCap_s, blk_p, List.cons_append, List.nil_append, b2n_t, b2n_f, hY13_11, hN13_14]
        exact goW
      · intro ξ v; rfl
      · intro ξ k v S h3 hn hk
        first
        | rfl
      apply YSeq.append (k + 1)
      · intro ξ S h1 h2 h3 h4
        have hY14_11 : S 11 = true := h2 11 (by decide)
        simp only [upd_same, updD_same, upd_ne, updD_ne, ne_eq, Nat.reduceEqDiff, not_false_eq_true, stg_t, stg_f, vAd_s, vCap_s, blk_p, List.cons_append, List.nil_append, b2n_t, b2n_f, hY14_11, h1]
        refine ⟨_, _, _, _, _, _, rfl, rfl, goXp, (by first | rfl | (simp; done) | omega), (by first | rfl | omega | (simp; done) | (simp; omega)), (by first | omega | (simp; done) | (simp; omega)), (by first | omega | (simp; done) | (simp; omega)), fun ad' cap' => ?_⟩
        exact goXm
      apply YSeq.w (by intro _ _ _; rfl)
      · intro ξ S h1 h2 h3 h4
        have hY15_11 : S 11 = true := h2 11 (by decide)
        have hY15_14 : S 14 = true := h2 14 (by decide)
        try simp only [upd_same, updD_same, upd_ne, updD_ne, ne_eq, Nat.reduceEqDiff, not_false_eq_true, stg_t, stg_f, vAd_s, vCap_s, blk_p, List.cons_append, List.nil_append, b2n_t, b2n_f, hY15_11, hY15_14]
        exact goW
      · intro ξ v; rfl
      · intro ξ k v S h3 hn hk
        first
        | rfl
        | skip
          have hY15_14 : S 14 = true := h3 15 _ rfl hn 14 (by decide)
          simp only [upd_S hY15_14 hk]
      refine YSeq.nil fun ξ hf => ?_
      refine ⟨[(2, _), (3, _), (10, _), (11, _), (18, _), (63, _), (64, _), (65, _)], _, Ent.trans (Ent.eqc rfl (by first | (simp only [upd_same, updD_same, upd_ne, updD_ne, ne_eq, Nat.reduceEqDiff, not_false_eq_true, stg_t, stg_f, vAd_s, vCap_s, blk_p, List.cons_append, List.nil_append, b2n_t, b2n_f, ownV, slV, ptV] <;> rfl) | rfl)) (Ent.sub goSub), ?_⟩
      clear hf
      generalize vAd (ξ 14) = ad97
      generalize vCap (ξ 14) = cap97
      repeat' (first | refine goH ?_ | refine goV ?_ | refine goB (fun b => ?_) | refine goC (fun ad cap => ?_) | refine goI ?_ | (refine Cw.k_cond ?_; first | (refine Cw.cond_dec rfl (fun hc => ?_) (fun hc => ?_) <;> try (exfalso; omega)) | refine Cw.cond_bool rfl (fun hc => ?_) (fun hc => ?_)) | refine goR ?_ | refine goP ?_ | apply PSeq.cons | apply PSeq.yes rfl rfl rfl | exact goW | fail)
      exact ⟨_, _, _, (Ent.mk goSub goTk), ⟨k + 1, _, _, _, _, _, rfl, ⟨by omega, f1, hr1, f2, hk4, hkv2⟩, rfl, rfl⟩, by omega⟩
    · have hkn : k = l.length := by omega
      subst hkrl
      rw [hkn] at hlr
      have hkr : kr = (kitSt x (day + dl) l l.length).1.map Kt.row := by rw [← hkn]; exact hkr
      have hfin : Tr.tup [.sl 3 kr, .sl 4 lr] = .tup [.sl 3 ((kitsOf x (day + dl) l).map Kt.row), .lots (restOf x (day + dl) l)] := by unfold kitsOf restOf; rw [← hkr, hlr]
      rw [← hlrl]
      clear hlr hkr hkv
      repeat' (first | refine goH ?_ | refine goV ?_ | refine goB (fun b => ?_) | refine goC (fun ad cap => ?_) | refine goI ?_ | (refine Cw.k_cond ?_; first | (refine Cw.cond_dec rfl (fun hc => ?_) (fun hc => ?_) <;> try (exfalso; omega)) | refine Cw.cond_bool rfl (fun hc => ?_) (fun hc => ?_)) | refine goR ?_ | refine goP ?_ | apply PSeq.cons | apply PSeq.yes rfl rfl rfl | exact goW | fail)
      refine Fin.ret (Ent.trans (Ent.settle (s := 8) rfl goPk rfl) (Ent.trans (Ent.settle (s := 9) rfl goPk rfl) (Ent.take goTk))) (Outs.many rfl (OutL.cons goOe (OutL.cons goOe OutL.nil)) rfl) ⟨rfl, hfin⟩
  · -- one product
    obtain ⟨v, hjv, rfl⟩ := tkv_at hj
    rw [tkv_erase]
    have hp2 := eraseIdx_snoc hp hjv
    have hlen := eraseIdx_len hjv
    have hmem : (a, v) ∈ ndM l := hp.mem_iff.2 (List.mem_append.2 (.inr (List.mem_of_getElem? hjv)))
    have hbd := ndM_bd hn hmem
    have hv := ndM_val hmem
    have hnot : a ∉ g.map Prod.fst := by
      have h1 := ((hp2.map Prod.fst).nodup_iff.1 (ndM_nodup l))
      rw [List.map_append, List.map_append] at h1
      have h2 := (List.nodup_append.1 h1).1
      intro hc
      exact (List.nodup_append.1 h2).2.2 a hc a (by simp) rfl
    simp only at hbd
    have hw := hn.wts a
    have k2 := freshOf_fn x ho a day dl (by omega) (by omega)
    have hfb := freshI_bd ho a (day + dl)
    have hms : mset a (Tr.ints (shP x (day + dl) l a)) kv = mpS (shP x (day + dl) l) ((g ++ [(a, v)]).map Prod.fst) := by
      rw [hkv, mpS_new hnot rfl, List.map_append]
      rfl
    have hsP : shP x (day + dl) l a = if freshI x a (day + dl) < v then shOf (freshI x a (day + dl)) (wts a l) else wts a l := by rw [hv]; rfl
    obtain ⟨SH, hSH⟩ : ∃ SH, SH = shP x (day + dl) l a := ⟨_, rfl⟩
    rw [← hSH] at hms hsP
    clear hSH
    obtain ⟨kv2, hkv2⟩ : ∃ kv2, kv2 = mpS (shP x (day + dl) l) ((g ++ [(a, v)]).map Prod.fst) := ⟨_, rfl⟩
    rw [← hkv2] at hms
    clear hkv
    have k3 : freshI x a (day + dl) < v → PFn Tryz.prog 42 [.int (freshI x a (day + dl)), .ints (wts a l)] (· = .ints SH) := fun h => by
      rw [hsP, if_pos h]
      refine shareOf_fn _ _ (by omega) ⟨?_, by omega⟩ (fun w h => by have := hw.1 w h; omega) (by omega)
      cases e : wts a l with
      | nil => rw [e, sumL_nil] at hv; omega
      | cons _ _ => simp
    generalize freshI x a (day + dl) = ff at *
    repeat' (first | refine goH ?_ | (refine Ops.k_entry ?_; first | (refine Ops.entry rfl goPk rfl ?_)) | refine goV ?_ | refine goB (fun b => ?_) | refine goC (fun ad cap => ?_) | refine goI ?_ | (refine Cw.k_cond ?_; first | (refine Cw.cond_dec rfl (fun hc => ?_) (fun hc => ?_) <;> try (exfalso; omega)) | refine Cw.cond_bool rfl (fun hc => ?_) (fun hc => ?_)) | refine goR ?_ | refine goP ?_ | apply PSeq.cons | apply PSeq.yes rfl rfl rfl | exact goW | fail)
    refine Cw.loopI [(0, _), (1, _), (2, _), (3, _), (10, _), (11, _), (12, _), (13, _), (27, _), (33, _), (34, _)] _ (fun q e cc => ∃ (k : Nat) (ad5 : Option Addr) (cap5 : Nat) (r5 : List (List Tr)), q = l.length - k ∧ (k ≤ l.length ∧ r5 = intRows (wts a (l.take k)) ∧ r5.length ≤ k) ∧ e = [(14, Tr.raw (.slice ad5 r5.length cap5)), (35, .int k)] ∧ cc = [Chunk.own ad5 cap5 1 3 r5])
      ⟨_, _, _, Ent.trans (Ent.nil 1 3) (Ent.mkP goSub goPm), 0, none, 0, [], rfl, ⟨by omega, rfl, by simp⟩, rfl, rfl⟩ ?_
    rintro _ _ _ ⟨k, ad5, cap5, r5, rfl, ⟨hk, h5, hl5⟩, rfl, rfl⟩
    by_cases hkl : k < l.length
    · obtain ⟨z, hz⟩ := at_lt hkl
      have hrow : (l.map Need.row)[k]? = some [.str z.pl, .str z.pr, .int z.many] := rows_at hz
      have g5 := wts_take a hz
      clear hz
      by_cases hpa : z.pr = a
      · rw [if_pos hpa] at g5
        have f5 : r5 ++ [[Tr.int z.many]] = intRows (wts a (l.take (k + 1))) := by rw [h5, g5]; unfold intRows; rw [List.map_append]; rfl
        clear h5
        repeat' (first | refine goH ?_ | refine goV ?_ | refine goB (fun b => ?_) | refine goC (fun ad cap => ?_) | refine goI ?_ | (refine Cw.k_cond ?_; first | (refine Cw.cond_dec rfl (fun hc => ?_) (fun hc => ?_) <;> try (exfalso; omega)) | refine Cw.cond_bool rfl (fun hc => ?_) (fun hc => ?_)) | refine goR ?_ | refine goP ?_ | apply PSeq.cons | apply PSeq.yes rfl rfl rfl | exact goW | fail)
        all_goals first | exact ⟨_, _, _, (Ent.mk goSub goTk), ⟨k + 1, _, _, _, rfl, ⟨by omega, f5, by simp; omega⟩, rfl, rfl⟩, by omega⟩ | (exfalso; simp_all; done)
      · rw [if_neg hpa, List.append_nil] at g5
        rw [← g5] at h5
        repeat' (first | refine goH ?_ | refine goV ?_ | refine goB (fun b => ?_) | refine goC (fun ad cap => ?_) | refine goI ?_ | (refine Cw.k_cond ?_; first | (refine Cw.cond_dec rfl (fun hc => ?_) (fun hc => ?_) <;> try (exfalso; omega)) | refine Cw.cond_bool rfl (fun hc => ?_) (fun hc => ?_)) | refine goR ?_ | refine goP ?_ | apply PSeq.cons | apply PSeq.yes rfl rfl rfl | exact goW | fail)
        all_goals first | exact ⟨_, _, _, (Ent.mk goSub goTk), ⟨k + 1, _, _, _, rfl, ⟨by omega, h5, by omega⟩, rfl, rfl⟩, by omega⟩ | (exfalso; simp_all; done)
    have hkn : k = l.length := by omega
    subst hkn
    rw [List.take_of_length_le (Nat.le_refl _)] at h5
    subst h5
    refine Cw.ent (Ent.settle (s := 14) rfl goPk rfl) ?_
    by_cases hsh : ff < v
    · have k3 := k3 hsh
      clear hsP hv
      repeat' (first | refine goH ?_ | (refine Ops.k_mapUpdate ?_; first | (refine Ops.mapUpdate rfl rfl rfl goPk ?_; rw [hms])) | refine goV ?_ | refine goB (fun b => ?_) | refine goC (fun ad cap => ?_) | refine goI ?_ | (refine Cw.k_cond ?_; first | (refine Cw.cond_dec rfl (fun hc => ?_) (fun hc => ?_) <;> try (exfalso; omega)) | refine Cw.cond_bool rfl (fun hc => ?_) (fun hc => ?_)) | (refine Ops.k_calla ?_; first | (refine Ops.k_callf 41 ?_; refine Ops.callV k2 (Evs.cons rfl (Evs.cons rfl (Evs.cons rfl (Evs.cons rfl Evs.nil)))) rfl ?_) | (refine Ops.k_callf 42 ?_; refine Ops.callV k3 (Evs.cons rfl (Evs.cons rfl Evs.nil)) rfl ?_)) | (apply OpW.k_call; first | (apply OpW.k_callf 41; exact OpW.callV k2 (Evs.cons rfl (Evs.cons rfl (Evs.cons rfl (Evs.cons rfl Evs.nil))))) | (apply OpW.k_callf 42; exact OpW.callV k3 (Evs.cons rfl (Evs.cons rfl Evs.nil)))) | refine goR ?_ | refine goP ?_ | apply PSeq.cons | apply PSeq.yes rfl rfl rfl | exact goW | fail)
      exact ⟨_, _, _, (Ent.mk goSub goTk), ⟨g ++ [(a, v)], _, _, rfl, ⟨hp2, hkv2⟩, rfl, rfl⟩, by omega⟩
    · rw [if_neg hsh] at hsP
      rw [← hsP]
      clear k3 hv
      repeat' (first | refine goH ?_ | (refine Ops.k_mapUpdate ?_; first | (refine Ops.mapUpdate rfl rfl rfl goPk ?_; rw [hms])) | refine goV ?_ | refine goB (fun b => ?_) | refine goC (fun ad cap => ?_) | refine goI ?_ | (refine Cw.k_cond ?_; first | (refine Cw.cond_dec rfl (fun hc => ?_) (fun hc => ?_) <;> try (exfalso; omega)) | refine Cw.cond_bool rfl (fun hc => ?_) (fun hc => ?_)) | (refine Ops.k_calla ?_; first | (refine Ops.k_callf 41 ?_; refine Ops.callV k2 (Evs.cons rfl (Evs.cons rfl (Evs.cons rfl (Evs.cons rfl Evs.nil)))) rfl ?_)) | (apply OpW.k_call; first | (apply OpW.k_callf 41; exact OpW.callV k2 (Evs.cons rfl (Evs.cons rfl (Evs.cons rfl (Evs.cons rfl Evs.nil)))))) | refine goR ?_ | refine goP ?_ | apply PSeq.cons | apply PSeq.yes rfl rfl rfl | exact goW | fail)
      exact ⟨_, _, _, (Ent.mk goSub goTk), ⟨g ++ [(a, v)], _, _, rfl, ⟨hp2, hkv2⟩, rfl, rfl⟩, by omega⟩
end Lg
end
section
set_option linter.all false
set_option maxRecDepth 100000
set_option maxHeartbeats 4000000
namespace Lg
open Go Go.Proofs

theorem rightLots_gen : GenO Tryz.prog 25 21 [] 20 4 49 (fun rows => ∃ l : List Lot, rows = l.map Lot.row ∧ l.length ≤ 5) := by
  unfold GenO
  intro b xs N hN
  refine Spec.body Tryz.func21 rfl rfl (Tryz.ntmps21) rfl fun w0 own0 M => ?_
  repeat' (first | refine goH ?_ | refine goV ?_ | refine goC (fun ad cap => ?_) | refine goI ?_ | (refine Cw.k_cond ?_; first | (refine Cw.cond_dec rfl (fun hc => ?_) (fun hc => ?_) <;> try (exfalso; omega)) | refine Cw.cond_bool rfl (fun hc => ?_) (fun hc => ?_)) | fail)
  refine Cw.loopI [(0, _), (6, _), (7, .int 5)] _ (fun q e cc => ∃ (k : Nat) (ad : Option Addr) (cap : Nat) (rows : List (List Tr)) (c : Nat), q = 5 - k ∧ (k ≤ 5 ∧ (∃ l : List Lot, rows = l.map Lot.row ∧ l.length ≤ k) ∧ rows.length ≤ k ∧ c ≤ N + 4 * k) ∧ e = [(3, Tr.raw (.slice ad rows.length cap)), (8, .int k)] ∧ cc = [Chunk.own ad cap 4 49 rows, Chunk.strm 25 b (intRows xs) c])
    ⟨_, _, _, Ent.trans (Ent.nil 4 49) (Ent.mkP goSub goPm), 0, none, 0, [], N, rfl, ⟨by omega, ⟨[], rfl, by simp⟩, by simp, by omega⟩, rfl, rfl⟩ ?_
  rintro _ _ _ ⟨k, ad, cap, rows, c, rfl, ⟨hk, ⟨l, hrows, hll⟩, hlen, h3⟩, rfl, rfl⟩
  by_cases hkl : k < 5
  · obtain ⟨y, hy⟩ : ∃ y : ByteArray, ([[Tr.str ⟨#[108, 97]⟩], [Tr.str ⟨#[108, 98]⟩], [Tr.str ⟨#[108, 99]⟩], [Tr.str ⟨#[108, 100]⟩], [Tr.str ⟨#[108, 101]⟩]] : List (List Tr))[k]? = some [Tr.str y] := by
      match k, hkl with
      | 0, _ => exact ⟨_, rfl⟩
      | 1, _ => exact ⟨_, rfl⟩
      | 2, _ => exact ⟨_, rfl⟩
      | 3, _ => exact ⟨_, rfl⟩
      | 4, _ => exact ⟨_, rfl⟩
    have key : ∀ x : Lot, rows ++ [x.row] = (l ++ [x]).map Lot.row := by intro x; rw [hrows, List.map_append]; rfl
    repeat' (first | refine goH ?_ | refine goV ?_ | refine goC (fun ad cap => ?_) | refine goI ?_ | (refine Cw.k_cond ?_; first | (refine Cw.cond_dec rfl (fun hc => ?_) (fun hc => ?_) <;> try (exfalso; omega)) | refine Cw.cond_bool rfl (fun hc => ?_) (fun hc => ?_)) | (refine Ops.k_calla ?_; first | (refine Ops.k_callf 22 ?_; (refine Ops.callG (flip_gen _ (by omega)) (Evs.cons rfl (Evs.cons rfl Evs.nil)) goPk (by omega) rfl ?_; rintro r ⟨v, rfl⟩)) | (refine Ops.k_callf 7 ?_; (refine Ops.callG (pick_gen (by repeat' (first | exact IsInts.nil | apply IsInts.cons)) (by simp)) (Evs.cons rfl (Evs.cons rfl Evs.nil)) goPk (by omega) rfl ?_; rintro r ⟨u, rfl, hu⟩; clear hu)) | (refine Ops.k_callf 23 ?_; (refine Ops.callG (one_gen (by repeat' (first | exact IsStrs.nil | apply IsStrs.cons)) (by simp)) (Evs.cons rfl (Evs.cons rfl Evs.nil)) goPk (by omega) rfl ?_; rintro r ⟨w, rfl, hw⟩; clear hw))) | fail)
    · exact ⟨_, _, _, (Ent.mk goSub goTk), ⟨k + 1, _, _, _, _, rfl, ⟨by omega, ⟨l, hrows, by omega⟩, by omega, by omega⟩, rfl, rfl⟩, by omega⟩
    · exact ⟨_, _, _, (Ent.mk goSub goTk), ⟨k + 1, _, _, _, _, rfl, ⟨by omega, ⟨_, key ⟨_, _, _, _⟩, by simp; omega⟩, by simp only [List.length_append, List.length_cons, List.length_nil]; omega, by omega⟩, rfl, rfl⟩, by omega⟩
  · repeat' (first | refine goH ?_ | refine goV ?_ | refine goC (fun ad cap => ?_) | refine goI ?_ | (refine Cw.k_cond ?_; first | (refine Cw.cond_dec rfl (fun hc => ?_) (fun hc => ?_) <;> try (exfalso; omega)) | refine Cw.cond_bool rfl (fun hc => ?_) (fun hc => ?_)) | fail)
    exact Fin.ret (Ent.own_strm goPk goPk (by omega)) (Outs.one rfl rfl) ⟨ad, cap, rows, rfl, rfl, l, hrows, by omega⟩

theorem lots_gen : Gen Tryz.prog 25 4 [] 30 (fun r => ∃ l : List Lot, r = .lots l ∧ l.length ≤ 6) := by
  unfold Gen
  intro b xs N hN
  refine Spec.body Tryz.func4 rfl rfl (Tryz.ntmps4) rfl fun w0 own0 M => ?_
  repeat' (first | refine goH ?_ | refine goV ?_ | refine goC (fun ad cap => ?_) | refine goI ?_ | (refine Cw.k_cond ?_; first | (refine Cw.cond_dec rfl (fun hc => ?_) (fun hc => ?_) <;> try (exfalso; omega)) | refine Cw.cond_bool rfl (fun hc => ?_) (fun hc => ?_)) | (refine Ops.k_calla ?_; first | (refine Ops.k_callf 21 ?_; (refine Ops.callGO rightLots_gen (Evs.cons rfl Evs.nil) goPk (by omega) rfl (fun ad cap rows hr => ?_); obtain ⟨l, hrows, hl⟩ := hr; have hrl : rows.length = l.length := (by rw [hrows]; simp))) | (refine Ops.k_callf 22 ?_; (refine Ops.callG (flip_gen _ (by omega)) (Evs.cons rfl (Evs.cons rfl Evs.nil)) goPk (by omega) rfl ?_; rintro r ⟨v, rfl⟩)) | (refine Ops.k_callf 7 ?_; (refine Ops.callG (pick_gen (by repeat' (first | exact IsInts.nil | apply IsInts.cons)) (by simp)) (Evs.cons rfl (Evs.cons rfl Evs.nil)) goPk (by omega) rfl ?_; rintro r ⟨u, rfl, hu⟩; clear hu)) | (refine Ops.k_callf 23 ?_; (refine Ops.callG (one_gen (by repeat' (first | exact IsStrs.nil | apply IsStrs.cons)) (by simp)) (Evs.cons rfl (Evs.cons rfl Evs.nil)) goPk (by omega) rfl ?_; rintro r ⟨w, rfl, hw⟩; clear hw))) | fail)
  all_goals (have key : ∀ x : Lot, rows ++ [x.row] = (l ++ [x]).map Lot.row := by intro x; rw [hrows, List.map_append]; rfl)
  · refine Fin.ret (Ent.trans (Ent.settle (s := 2) rfl goPk rfl) (Ent.strm_only goPk (by omega))) (Outs.one rfl rfl) ⟨rfl, _, congrArg (Tr.sl 4) (key ⟨_, _, _, _⟩), ?_⟩
    simp only [List.length_append, List.length_cons, List.length_nil]; omega
  · exact Fin.ret (Ent.trans (Ent.settle (s := 2) rfl goPk rfl) (Ent.strm_only goPk (by omega))) (Outs.one rfl rfl) ⟨rfl, _, congrArg (Tr.sl 4) hrows, by omega⟩
end Lg
end
section
set_option linter.all false
set_option maxRecDepth 100000
set_option maxHeartbeats 4000000
namespace Lg
open Go Go.Proofs

theorem needs_gen : Gen Tryz.prog 25 5 [] 40 (fun r => ∃ l : List Need, r = .needs l ∧ l.length ≤ 7) := by
  unfold Gen
  intro b xs N hN
  refine Spec.body Tryz.func5 rfl rfl (Tryz.ntmps5) rfl fun w0 own0 M => ?_
  repeat' (first | refine goH ?_ | refine goV ?_ | refine goC (fun ad cap => ?_) | refine goI ?_ | (refine Cw.k_cond ?_; first | (refine Cw.cond_dec rfl (fun hc => ?_) (fun hc => ?_) <;> try (exfalso; omega)) | refine Cw.cond_bool rfl (fun hc => ?_) (fun hc => ?_)) | fail)
  refine Cw.loopI [(0, _), (8, _), (9, .int 3)] _ (fun q e cc => ∃ (k : Nat) (ad : Option Addr) (cap n : Nat) (rows : List (List Tr)) (c : Nat), q = 3 - k ∧ (k ≤ 3 ∧ (∃ l : List Need, rows = l.map Need.row) ∧ rows.length = n ∧ n ≤ 2 * k ∧ c ≤ N + 8 * k) ∧ e = [(3, Tr.raw (.slice ad n cap)), (10, .int k)] ∧ cc = [Chunk.own ad cap 3 59 rows, Chunk.strm 25 b (intRows xs) c])
    ⟨_, _, _, Ent.trans (Ent.nil 3 59) (Ent.mkP goSub goPm), 0, none, 0, 0, [], N, rfl, ⟨by omega, ⟨[], rfl⟩, rfl, by omega, by omega⟩, rfl, rfl⟩ ?_
  rintro _ _ _ ⟨k, ad, cap, n, rows, c, rfl, ⟨hk, ⟨l, hrows⟩, hlen, hn, h3⟩, rfl, rfl⟩
  by_cases hkl : k < 3
  · obtain ⟨y, hy⟩ : ∃ y : ByteArray, ([[Tr.str ⟨#[120]⟩], [Tr.str ⟨#[121]⟩], [Tr.str ⟨#[122]⟩]] : List (List Tr))[k]? = some [Tr.str y] := by
      match k, hkl with
      | 0, _ => exact ⟨_, rfl⟩
      | 1, _ => exact ⟨_, rfl⟩
      | 2, _ => exact ⟨_, rfl⟩
    repeat' (first | refine goH ?_ | refine goV ?_ | refine goC (fun ad cap => ?_) | refine goI ?_ | (refine Cw.k_cond ?_; first | (refine Cw.cond_dec rfl (fun hc => ?_) (fun hc => ?_) <;> try (exfalso; omega)) | refine Cw.cond_bool rfl (fun hc => ?_) (fun hc => ?_)) | fail)
    refine Cw.loopI [(0, _), (5, _), (8, _), (10, _), (14, _), (9, .int 3), (15, .int 2)] _ (fun q e cc => ∃ (i : Nat) (ad : Option Addr) (cap n : Nat) (rows : List (List Tr)) (c2 : Nat), q = 2 - i ∧ (i ≤ 2 ∧ (∃ l : List Need, rows = l.map Need.row) ∧ rows.length = n ∧ n ≤ 2 * k + i ∧ c2 ≤ c + 4 * i) ∧ e = [(3, Tr.raw (.slice ad n cap)), (16, .int i)] ∧ cc = [Chunk.own ad cap 3 59 rows, Chunk.strm 25 b (intRows xs) c2])
      ⟨_, _, _, (Ent.mkP goSub goPm), 0, _, _, _, _, _, rfl, ⟨by omega, ⟨l, hrows⟩, hlen, by omega, by omega⟩, rfl, rfl⟩ ?_
    clear hrows hlen hn hy
    rintro _ _ _ ⟨i, ad, cap, n, rows, c2, rfl, ⟨hi, ⟨l, hrows⟩, hlen, hn, h4⟩, rfl, rfl⟩
    by_cases hil : i < 2
    · obtain ⟨y2, hy2⟩ : ∃ y : ByteArray, ([[Tr.str ⟨#[98, 97, 114]⟩], [Tr.str ⟨#[99, 97, 110]⟩]] : List (List Tr))[i]? = some [Tr.str y] := by
        match i, hil with
        | 0, _ => exact ⟨_, rfl⟩
        | 1, _ => exact ⟨_, rfl⟩
      have key : ∀ x : Need, rows ++ [x.row] = (l ++ [x]).map Need.row := by intro x; rw [hrows, List.map_append]; rfl
      have hle2 : ∀ x : List Tr, (rows ++ [x]).length = n + 1 := fun x => by rw [List.length_append, hlen]; rfl
      repeat' (first | refine goH ?_ | refine goV ?_ | refine goC (fun ad cap => ?_) | refine goI ?_ | (refine Cw.k_cond ?_; first | (refine Cw.cond_dec rfl (fun hc => ?_) (fun hc => ?_) <;> try (exfalso; omega)) | refine Cw.cond_bool rfl (fun hc => ?_) (fun hc => ?_)) | (refine Ops.k_calla ?_; first | (refine Ops.k_callf 22 ?_; (refine Ops.callG (flip_gen _ (by omega)) (Evs.cons rfl (Evs.cons rfl Evs.nil)) goPk (by omega) rfl ?_; rintro r ⟨v, rfl⟩)) | (refine Ops.k_callf 7 ?_; (refine Ops.callG (pick_gen (by repeat' (first | exact IsInts.nil | apply IsInts.cons)) (by simp)) (Evs.cons rfl (Evs.cons rfl Evs.nil)) goPk (by omega) rfl ?_; rintro r ⟨u, rfl, hu⟩; clear hu))) | fail)
      · erw [hle2]
        exact ⟨_, _, _, (Ent.mk goSub goTk), ⟨i + 1, _, _, _, _, _, rfl, ⟨by omega, ⟨_, key ⟨_, _, _⟩⟩, hle2 _, by omega, by omega⟩, rfl, rfl⟩, by omega⟩
      · exact ⟨_, _, _, (Ent.mk goSub goTk), ⟨i + 1, _, _, _, _, _, rfl, ⟨by omega, ⟨l, hrows⟩, hlen, by omega, by omega⟩, rfl, rfl⟩, by omega⟩
    · repeat' (first | refine goH ?_ | refine goV ?_ | refine goC (fun ad cap => ?_) | refine goI ?_ | (refine Cw.k_cond ?_; first | (refine Cw.cond_dec rfl (fun hc => ?_) (fun hc => ?_) <;> try (exfalso; omega)) | refine Cw.cond_bool rfl (fun hc => ?_) (fun hc => ?_)) | fail)
      exact ⟨_, _, _, (Ent.mk goSub goTk), ⟨k + 1, _, _, _, _, _, rfl, ⟨by omega, ⟨l, hrows⟩, hlen, by omega, by omega⟩, rfl, rfl⟩, by omega⟩
  · have key : ∀ x : Need, rows ++ [x.row] = (l ++ [x]).map Need.row := by intro x; rw [hrows, List.map_append]; rfl
    have hll : rows.length = l.length := by rw [hrows, List.length_map]
    subst hlen
    repeat' (first | refine goH ?_ | refine goV ?_ | refine goC (fun ad cap => ?_) | refine goI ?_ | (refine Cw.k_cond ?_; first | (refine Cw.cond_dec rfl (fun hc => ?_) (fun hc => ?_) <;> try (exfalso; omega)) | refine Cw.cond_bool rfl (fun hc => ?_) (fun hc => ?_)) | (refine Ops.k_calla ?_; first | (refine Ops.k_callf 22 ?_; (refine Ops.callG (flip_gen _ (by omega)) (Evs.cons rfl (Evs.cons rfl Evs.nil)) goPk (by omega) rfl ?_; rintro r ⟨v, rfl⟩)) | (refine Ops.k_callf 7 ?_; (refine Ops.callG (pick_gen (by repeat' (first | exact IsInts.nil | apply IsInts.cons)) (by simp)) (Evs.cons rfl (Evs.cons rfl Evs.nil)) goPk (by omega) rfl ?_; rintro r ⟨u, rfl, hu⟩; clear hu)) | (refine Ops.k_callf 23 ?_; (refine Ops.callG (one_gen (by repeat' (first | exact IsStrs.nil | apply IsStrs.cons)) (by simp)) (Evs.cons rfl (Evs.cons rfl Evs.nil)) goPk (by omega) rfl ?_; rintro r ⟨w, rfl, hw⟩; clear hw))) | fail)
    · refine Fin.ret (Ent.trans (Ent.settle (s := 2) rfl goPk rfl) (Ent.strm_only goPk (by omega))) (Outs.one rfl rfl) ⟨rfl, _, congrArg (Tr.sl 3) (key ⟨_, _, _⟩), ?_⟩
      simp only [List.length_append, List.length_cons, List.length_nil]; omega
    · exact Fin.ret (Ent.trans (Ent.settle (s := 2) rfl goPk rfl) (Ent.strm_only goPk (by omega))) (Outs.one rfl rfl) ⟨rfl, _, congrArg (Tr.sl 3) hrows, by omega⟩
end Lg
end
