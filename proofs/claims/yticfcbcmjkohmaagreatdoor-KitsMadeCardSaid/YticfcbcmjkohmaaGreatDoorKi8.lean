/- A part of the proof of a law of this seat: it adds no condition. By an AI agent. -/
import Derived.Test.YticfcbcmjkohmaaGreatDoorKi7
set_option linter.all false
set_option maxRecDepth 100000
set_option maxHeartbeats 16000000
namespace Lg
open Go Go.Proofs

/-! ### stock.Kit -/
theorem kt_snoc (ks : List Kt) (a b : ByteArray) (ps : List Piece) : ks.map Kt.row ++ [[Tr.str a, .str b, .pieces ps]] = (ks ++ [(⟨a, b, ps⟩ : Kt)]).map Kt.row := by
  rw [List.map_append]
  rfl
def kitT (x : List Lot) (l : List Need) (day dl : Int) : Tr := if wantE x l day dl ≠ 0 then .tup [.sl 3 [], .sl 4 [], .int (wantE x l day dl)] else .tup [.sl 3 ((kitsOf x (day + dl) l).map Kt.row), .lots (restOf x (day + dl) l), .int 0]
theorem kitE_fn (x : List Lot) (hx : x.length ≤ 10) (l : List Need) (hl : l.length ≤ 10) (day dl : Int) (h : wantE x l day dl ≠ 0) : PFn Tryz.prog 10 [.lots x, .needs l, .int day, .int dl] (· = .tup [.sl 3 [], .sl 4 [], .int (wantE x l day dl)]) := by
  have k1 := wantedE_fn x (by omega) l (by omega) day dl h
  refine PFn.mk (Spec.body Tryz.func10 rfl rfl (Tryz.ntmps10) rfl fun w0 own0 M => ?_)
  repeat' (first | refine goH ?_ | refine goV ?_ | refine goB (fun b => ?_) | refine goC (fun ad cap => ?_) | refine goI ?_ | (refine Cw.k_cond ?_; first | (refine Cw.cond_dec rfl (fun hc => ?_) (fun hc => ?_) <;> try (exfalso; omega)) | refine Cw.cond_bool rfl (fun hc => ?_) (fun hc => ?_)) | (refine Ops.k_calla ?_; first | (refine Ops.k_callf 30 ?_; refine Ops.callV k1 (Evs.cons rfl (Evs.cons rfl (Evs.cons rfl (Evs.cons rfl Evs.nil)))) rfl ?_)) | (apply OpW.k_call; first | (apply OpW.k_callf 30; exact OpW.callV k1 (Evs.cons rfl (Evs.cons rfl (Evs.cons rfl (Evs.cons rfl Evs.nil)))))) | refine goR ?_ | refine goP ?_ | apply PSeq.cons | apply PSeq.yes rfl rfl rfl | exact goW | fail)
  refine Fin.ret (Ent.trans (Ent.nilsl 3 (s := 8) rfl) (Ent.trans (Ent.nilsl 4 (s := 9) rfl) (Ent.take goTk))) (Outs.many rfl (OutL.cons goOe (OutL.cons goOe (OutL.cons goOe OutL.nil))) rfl) ⟨rfl, rfl⟩
theorem kit_fn (x : List Lot) (hx : x.length ≤ 10) (l : List Need) (hl : l.length ≤ 10) (day dl : Int) (h : wantE x l day dl = 0) : PFn Tryz.prog 10 [.lots x, .needs l, .int day, .int dl] (· = .tup [.sl 3 ((kitsOf x (day + dl) l).map Kt.row), .lots (restOf x (day + dl) l), .int 0]) := by
  have k1 := wanted_fn x (by omega) l hl day dl h
  obtain ⟨w1, w2, w3, w4⟩ := wantE_ok h
  have hn : NOk l := ⟨hl, needsErr_ok w2⟩
  have ho := lotsErr_LOk w1
  have hd := dayB_f w3
  have hle := dayB_f w4
  have hml := ndM_len l
  have hL : (l.map Need.row).length = l.length := List.length_map _
  have hBl : (l.map Need.many).length = l.length := List.length_map _
  have kcl := clone_lot (x.map Lot.row) lotRow4 (by rw [List.length_map]; omega)
  clear h w1 w2 w3 w4
  refine PFn.mk (Spec.body Tryz.func10 rfl rfl (Tryz.ntmps10) rfl fun w0 own0 M => ?_)
  have hn2 : (((l.map Need.row).length : Nat) : Int).toNat = l.length := by rw [hL]; rfl
  repeat' (first | refine goH ?_ | (refine Ops.k_makeSlice ?_; first | (refine Ops.makeSlice rfl rfl (by omega) (by omega) (by omega) rfl (fun ad cap => ?_); rw [hn2, show List.map Tr.raw [Value.int .i64 0] = [Tr.int 0] from rfl, ints_rep])) | refine goV ?_ | refine goB (fun b => ?_) | refine goC (fun ad cap => ?_) | refine goI ?_ | (refine Cw.k_cond ?_; first | (refine Cw.cond_dec rfl (fun hc => ?_) (fun hc => ?_) <;> try (exfalso; omega)) | refine Cw.cond_bool rfl (fun hc => ?_) (fun hc => ?_)) | (refine Ops.k_calla ?_; first | (refine Ops.k_callf 30 ?_; (refine Ops.call k1 (Evs.cons rfl (Evs.cons rfl (Evs.cons rfl (Evs.cons rfl Evs.nil)))) goPm rfl ?_; rintro r cs' ⟨bm, rfl, rfl⟩))) | refine goR ?_ | refine goP ?_ | apply PSeq.cons | apply PSeq.yes rfl rfl rfl | exact goW | fail)
  refine Cw.loopI [(0, _), (1, _), (2, _), (3, _), (11, _), (13, _), (45, _), (46, _)] _ (fun q e cc => ∃ (k : Nat) (rows : List (List Tr)), q = l.length - k ∧ (k ≤ l.length ∧ rows = intRows ((l.map Need.many).take k ++ List.replicate (l.length - k) 0) ∧ rows.length = l.length) ∧ e = [(47, .int k)] ∧ cc = [Chunk.own ad cap 1 3 rows])
    ⟨_, _, _, (Ent.mkP goSub goPm), 0, _, rfl, ⟨by omega, rfl, by rw [intRows_len]; simp⟩, rfl, rfl⟩ ?_
  rintro _ _ _ ⟨k, rows, rfl, ⟨hk, hrows, hrl⟩, rfl, rfl⟩
  by_cases hkl : k < l.length
  · obtain ⟨z, hz⟩ := at_lt hkl
    have hrow : (l.map Need.row)[k]? = some [.str z.pl, .str z.pr, .int z.many] := rows_at hz
    have hBk : (l.map Need.many)[k]? = some z.many := by rw [List.getElem?_map, hz]; rfl
    have s1 : rows.set ((k : Nat) : Int).toNat [Tr.int z.many] = intRows ((l.map Need.many).take (k + 1) ++ List.replicate (l.length - (k + 1)) 0) := by rw [hrows, Int.toNat_natCast, ints_set, fill_set hBl hBk]
    have l1 : (rows.set ((k : Nat) : Int).toNat [Tr.int z.many]).length = l.length := by rw [List.length_set, hrl]
    have hv1 : rows[((k : Nat) : Int).toNat]? = some [Tr.int 0] := by rw [hrows, Int.toNat_natCast]; exact intRows_at (fill_at _ hBl hkl)
    clear hz hBk hrows
    repeat' (first | refine goH ?_ | refine goV ?_ | refine goB (fun b => ?_) | refine goC (fun ad cap => ?_) | refine goI ?_ | (refine Cw.k_cond ?_; first | (refine Cw.cond_dec rfl (fun hc => ?_) (fun hc => ?_) <;> try (exfalso; omega)) | refine Cw.cond_bool rfl (fun hc => ?_) (fun hc => ?_)) | refine goR ?_ | refine goP ?_ | apply PSeq.cons | apply PSeq.yes rfl rfl rfl | exact goW | fail)
    exact ⟨_, _, _, (Ent.mk goSub goTk), ⟨k + 1, _, rfl, ⟨by omega, s1, l1⟩, rfl, rfl⟩, by omega⟩
  rw [List.take_of_length_le (by omega), show l.length - k = 0 by omega, List.replicate_zero, List.append_nil] at hrows
  rw [← gvK_nil x (day + dl) l ⟨#[]⟩] at hrows
  repeat' (first | refine goH ?_ | (refine Ops.k_range ?_; first | (refine Ops.range rfl goPk rfl (fun r => ?_))) | refine goV ?_ | refine goB (fun b => ?_) | refine goC (fun ad cap => ?_) | refine goI ?_ | (refine Cw.k_cond ?_; first | (refine Cw.cond_dec rfl (fun hc => ?_) (fun hc => ?_) <;> try (exfalso; omega)) | refine Cw.cond_bool rfl (fun hc => ?_) (fun hc => ?_)) | refine goR ?_ | refine goP ?_ | apply PSeq.cons | apply PSeq.yes rfl rfl rfl | exact goW | fail)
  refine Cw.loopI [(0, _), (1, _), (2, _), (3, _), (13, _), (59, _)] _ (fun q e cc => ∃ (g lf : List (ByteArray × Int)) (rows : List (List Tr)), q = lf.length ∧ ((ndM l).Perm (g ++ lf) ∧ rows = intRows (gvK x (day + dl) l (g.map Prod.fst) ⟨#[]⟩ 0) ∧ rows.length = l.length) ∧ e = [] ∧ cc = [Chunk.rg Value.string bm r (tkv (ndM l)) (tkv lf), Chunk.own ad cap 1 3 rows])
    ⟨_, _, _, (Ent.mkP goSub goPm), [], ndM l, _, rfl, ⟨List.Perm.refl _, hrows, hrl⟩, rfl, rfl⟩ ?_
  clear hrows hrl hkl hk
  rintro _ _ _ ⟨g, lf, rows, rfl, ⟨hp, hrows, hrl⟩, rfl, rfl⟩
  repeat' (first | refine goH ?_ | ((fail_if_success refine Ops.k_next ?_); refine goV ?_) | ((fail_if_success refine Ops.k_next ?_); refine goB (fun b => ?_)) | ((fail_if_success refine Ops.k_next ?_); refine goC (fun ad cap => ?_)) | refine goI ?_ | (refine Cw.k_cond ?_; first | (refine Cw.cond_dec rfl (fun hc => ?_) (fun hc => ?_) <;> try (exfalso; omega)) | refine Cw.cond_bool rfl (fun hc => ?_) (fun hc => ?_)) | refine goR ?_ | refine goP ?_ | apply PSeq.cons | apply PSeq.yes rfl rfl rfl | exact goW | fail)
  refine Ops.k_next ?_
  refine Ops.nextC rfl goPk rfl (fun hl0 => ?_) (fun j a t hj => ?_)
  · -- all products seen: the kits
    have hl0 := tkv_nil hl0
    subst hl0
    rw [List.append_nil] at hp
    rw [gvK_end ⟨#[]⟩ (fun z hz => by
      rw [← (hp.map Prod.fst).mem_iff]
      exact (ndM_key z.pr).2 ⟨z, hz, rfl⟩)] at hrows
    clear hp
    repeat' (first | refine goH ?_ | refine goV ?_ | refine goB (fun b => ?_) | refine goC (fun ad cap => ?_) | refine goI ?_ | (refine Cw.k_cond ?_; first | (refine Cw.cond_dec rfl (fun hc => ?_) (fun hc => ?_) <;> try (exfalso; omega)) | refine Cw.cond_bool rfl (fun hc => ?_) (fun hc => ?_)) | (refine Ops.k_calla ?_; first | (refine Ops.k_callf 33 ?_; (refine Ops.callO kcl (Evs.cons rfl Evs.nil) rfl (fun ad2 cap2 rows2 hr => ?_); subst hr))) | refine goR ?_ | refine goP ?_ | apply PSeq.cons | apply PSeq.yes rfl rfl rfl | exact goW | fail)
    rw [show (x.map Lot.row).length = x.length from List.length_map _]
    refine Cw.loopI [(2, _), (3, _), (13, _), (27, _), (121, _), (122, _)] _ (fun q e cc => ∃ (k : Nat) (ad3 : Option Addr) (cap3 : Nat) (lr kr : List (List Tr)), q = l.length - k ∧ (k ≤ l.length ∧ lr = (kitSt x (day + dl) l k).2.map Lot.row ∧ lr.length = x.length ∧ kr = (kitSt x (day + dl) l k).1.map Kt.row ∧ kr.length = k) ∧ e = [(28, Tr.raw (.slice ad3 k cap3)), (123, .int k)] ∧ cc = [Chunk.own ad2 cap2 4 49 lr, Chunk.own ad3 cap3 3 74 kr])
      ⟨_, _, _, Ent.trans (Ent.nil 3 74) (Ent.mkP goSub goPm), 0, none, 0, _, [], rfl, ⟨by omega, rfl, List.length_map _, rfl, rfl⟩, rfl, rfl⟩ ?_
    rintro _ _ _ ⟨k, ad3, cap3, lr, kr, rfl, ⟨hk, hlr, hlrl, hkr, hkrl⟩, rfl, rfl⟩
    by_cases hkl : k < l.length
    · obtain ⟨z, hz⟩ := at_lt hkl
      have hrow : (l.map Need.row)[k]? = some [.str z.pl, .str z.pr, .int z.many] := rows_at hz
      obtain ⟨q1, q2, q3, q4, q5, q6⟩ := kit_step ho hn (fr := day + dl) hz
      have hgk := (kgets_at (lots := x) (fr := day + dl) hz).2
      have hgr : rows[((k : Nat) : Int).toNat]? = some [Tr.int ((kgets x (day + dl) l).getD k 0)] := by rw [hrows, Int.toNat_natCast]; exact intRows_at hgk
      have hst := kitSt_succ (lots := x) (fr := day + dl) hz
      unfold kitS at hst
      generalize (kgets x (day + dl) l).getD k 0 = v at *
      have hsame := pick_same q1 z.pr (day + dl) q4
      have kp := picked_val (l := (kitSt x (day + dl) l k).2) q1 (by omega) (p := z.pr) (many := v) (fr := day + dl) (by omega) (ad := ad2) (cap := cap2) (n := lr.length) (by rw [hlr, List.length_map])
      rw [← hlr, hlrl] at kp
      have e1 : lr.length = x.length := hlrl
      have hks := kt_snoc (kitSt x (day + dl) l k).1 z.pl z.pr (pickR (kitSt x (day + dl) l k).2 z.pr v (day + dl)).2.2
      rw [← hkr] at hks
      simp only at hst
      have hr1 : ((pickR (kitSt x (day + dl) l k).2 z.pr v (day + dl)).1.map Lot.row).length = x.length := by rw [List.length_map, hsame.2, q2]
      have f1 : (pickR (kitSt x (day + dl) l k).2 z.pr v (day + dl)).1.map Lot.row = (kitSt x (day + dl) l (k + 1)).2.map Lot.row := by rw [hst]
      have f2 : kr ++ [[Tr.str z.pl, .str z.pr, .pieces (pickR (kitSt x (day + dl) l k).2 z.pr v (day + dl)).2.2]] = (kitSt x (day + dl) l (k + 1)).1.map Kt.row := by rw [hks, hst]
      generalize (pickR (kitSt x (day + dl) l k).2 z.pr v (day + dl)).1.map Lot.row = lr2 at *
      generalize (pickR (kitSt x (day + dl) l k).2 z.pr v (day + dl)).2.2 = pp at *
      clear hst hks hlr hkr hgk hz hrows
      repeat' (first | refine goH ?_ | refine goV ?_ | refine goB (fun b => ?_) | refine goC (fun ad cap => ?_) | refine goI ?_ | (refine Cw.k_cond ?_; first | (refine Cw.cond_dec rfl (fun hc => ?_) (fun hc => ?_) <;> try (exfalso; omega)) | refine Cw.cond_bool rfl (fun hc => ?_) (fun hc => ?_)) | fail)
      have hk4 : (kr ++ [[Tr.str z.pl, Tr.str z.pr, Tr.pieces pp]]).length = k + 1 := by rw [List.length_append, hkrl]; rfl
      first | refine Cw.region_YP (fun ξ S => Chunk.box b 59 [.str z.pl, .str z.pr, .int z.many] :: stg (S 15) (Chunk.own ad2 cap2 4 49 lr) (Chunk.own ad2 cap2 4 49 lr2) :: stg (S 18) (Chunk.own ad3 cap3 3 74 kr) (ownV (ξ 18) 3 74 (kr ++ [[Tr.str z.pl, Tr.str z.pr, Tr.pieces pp]])) :: Chunk.mp Value.string bm (tkv (ndM l)) :: Chunk.own ad cap 1 3 rows :: []) rfl (by decide +kernel) rfl ((fun (ξ : Nat → Value) (S : Nat → Bool) => Chunk.box b 59 [.str z.pl, .str z.pr, .int z.many] :: stg (S 15) (Chunk.own ad2 cap2 4 49 lr) (Chunk.own ad2 cap2 4 49 lr2) :: stg (S 18) (Chunk.own ad3 cap3 3 74 kr) (ownV (ξ 18) 3 74 (kr ++ [[Tr.str z.pl, Tr.str z.pr, Tr.pieces pp]])) :: Chunk.mp Value.string bm (tkv (ndM l)) :: Chunk.own ad cap 1 3 rows :: []) (fun _ => undef) (fun _ => false)) (by simp only [upd_same, updD_same, upd_ne, updD_ne, ne_eq, Nat.reduceEqDiff, not_false_eq_true, stg_t, stg_f, vAd_s, vCap_s, blk_p, List.cons_append, List.nil_append, b2n_t, b2n_f]; exact goXm) (fun _ => rfl) ?_ | fail
      apply YSeq.w (by intro _ _ _; rfl)
      · intro ξ S h1 h2 h3 h4
        have hN0_18 := closed_false h1 h3 (k := 18) rfl (by decide)
        try simp only [upd_same, updD_same, upd_ne, updD_ne, ne_eq, Nat.reduceEqDiff, not_false_eq_true, stg_t, stg_f, vAd_s, vCap_s, blk_p, List.cons_append, List.nil_append, b2n_t, b2n_f, hN0_18]
        exact goW
      · intro ξ v; rfl
      · intro ξ k v S h3 hn hk
        first
        | rfl
      apply YSeq.w (by intro _ _ _; rfl)
      · intro ξ S h1 h2 h3 h4
        have hN1_2 := closed_false h1 h3 (k := 2) rfl (by decide)
        have hN1_16 := closed_false hN1_2 h3 (k := 16) rfl (by decide)
        have hN1_17 := closed_false hN1_16 h3 (k := 17) rfl (by decide)
        have hN1_18 := closed_false hN1_17 h3 (k := 18) rfl (by decide)
        try simp only [upd_same, updD_same, upd_ne, updD_ne, ne_eq, Nat.reduceEqDiff, not_false_eq_true, stg_t, stg_f, vAd_s, vCap_s, blk_p, List.cons_append, List.nil_append, b2n_t, b2n_f, hN1_18]
        exact goW
      · intro ξ v; rfl
      · intro ξ k v S h3 hn hk
        first
        | rfl
      apply YSeq.w (by intro _ _ _; rfl)
      · intro ξ S h1 h2 h3 h4
        have hN2_16 := closed_false h1 h3 (k := 16) rfl (by decide)
        have hN2_17 := closed_false hN2_16 h3 (k := 17) rfl (by decide)
        have hN2_18 := closed_false hN2_17 h3 (k := 18) rfl (by decide)
        try simp only [upd_same, updD_same, upd_ne, updD_ne, ne_eq, Nat.reduceEqDiff, not_false_eq_true, stg_t, stg_f, vAd_s, vCap_s, blk_p, List.cons_append, List.nil_append, b2n_t, b2n_f, hN2_18]
        exact goW
      · intro ξ v; rfl
      · intro ξ k v S h3 hn hk
        first
        | rfl
      apply YSeq.w (by intro _ _ _; rfl)
      · intro ξ S h1 h2 h3 h4
        have hN3_4 := closed_false h1 h3 (k := 4) rfl (by decide)
        have hN3_16 := closed_false hN3_4 h3 (k := 16) rfl (by decide)
        have hN3_17 := closed_false hN3_16 h3 (k := 17) rfl (by decide)
        have hN3_18 := closed_false hN3_17 h3 (k := 18) rfl (by decide)
        try simp only [upd_same, updD_same, upd_ne, updD_ne, ne_eq, Nat.reduceEqDiff, not_false_eq_true, stg_t, stg_f, vAd_s, vCap_s, blk_p, List.cons_append, List.nil_append, b2n_t, b2n_f, hN3_18]
        exact goW
      · intro ξ v; rfl
      · intro ξ k v S h3 hn hk
        first
        | rfl
      apply YSeq.w (by intro _ _ _; rfl)
      · intro ξ S h1 h2 h3 h4
        have hN4_16 := closed_false h1 h3 (k := 16) rfl (by decide)
        have hN4_17 := closed_false hN4_16 h3 (k := 17) rfl (by decide)
        have hN4_18 := closed_false hN4_17 h3 (k := 18) rfl (by decide)
        try simp only [upd_same, updD_same, upd_ne, updD_ne, ne_eq, Nat.reduceEqDiff, not_false_eq_true, stg_t, stg_f, vAd_s, vCap_s, blk_p, List.cons_append, List.nil_append, b2n_t, b2n_f, hN4_18]
        exact goW
      · intro ξ v; rfl
      · intro ξ k v S h3 hn hk
        first
        | rfl
      apply YSeq.w (by intro _ _ _; rfl)
      · intro ξ S h1 h2 h3 h4
        have hN5_15 := closed_false h1 h3 (k := 15) rfl (by decide)
        have hN5_18 := closed_false hN5_15 h3 (k := 18) rfl (by decide)
        try simp only [upd_same, updD_same, upd_ne, updD_ne, ne_eq, Nat.reduceEqDiff, not_false_eq_true, stg_t, stg_f, vAd_s, vCap_s, blk_p, List.cons_append, List.nil_append, b2n_t, b2n_f, hN5_15, hN5_18]
        exact goW
      · intro ξ v; rfl
      · intro ξ k v S h3 hn hk
        first
        | rfl
      apply YSeq.w (by intro _ _ _; rfl)
      · intro ξ S h1 h2 h3 h4
        have hN6_7 := closed_false h1 h3 (k := 7) rfl (by decide)
        have hN6_15 := closed_false hN6_7 h3 (k := 15) rfl (by decide)
        have hN6_18 := closed_false hN6_15 h3 (k := 18) rfl (by decide)
        try simp only [upd_same, updD_same, upd_ne, updD_ne, ne_eq, Nat.reduceEqDiff, not_false_eq_true, stg_t, stg_f, vAd_s, vCap_s, blk_p, List.cons_append, List.nil_append, b2n_t, b2n_f, hN6_15, hN6_18]
        exact goW
      · intro ξ v; rfl
      · intro ξ k v S h3 hn hk
        first
        | rfl
      apply YSeq.w (by intro _ _ _; rfl)
      · intro ξ S h1 h2 h3 h4
        have hN7_15 := closed_false h1 h3 (k := 15) rfl (by decide)
        have hN7_18 := closed_false hN7_15 h3 (k := 18) rfl (by decide)
        try simp only [upd_same, updD_same, upd_ne, updD_ne, ne_eq, Nat.reduceEqDiff, not_false_eq_true, stg_t, stg_f, vAd_s, vCap_s, blk_p, List.cons_append, List.nil_append, b2n_t, b2n_f, hN7_15, hN7_18]
        exact goW
      · intro ξ v; rfl
      · intro ξ k v S h3 hn hk
        first
        | rfl
      apply YSeq.w (by intro _ _ _; rfl)
      · intro ξ S h1 h2 h3 h4
        have hN8_10 := closed_false h1 h3 (k := 10) rfl (by decide)
        have hN8_11 := closed_false hN8_10 h3 (k := 11) rfl (by decide)
        have hN8_15 := closed_false hN8_11 h3 (k := 15) rfl (by decide)
        have hN8_18 := closed_false hN8_15 h3 (k := 18) rfl (by decide)
        try simp only [upd_same, updD_same, upd_ne, updD_ne, ne_eq, Nat.reduceEqDiff, not_false_eq_true, stg_t, stg_f, vAd_s, vCap_s, blk_p, List.cons_append, List.nil_append, b2n_t, b2n_f, hN8_15, hN8_18]
        exact goW
      · intro ξ v; rfl
      · intro ξ k v S h3 hn hk
        first
        | rfl
      apply YSeq.w (by intro _ _ _; rfl)
      · intro ξ S h1 h2 h3 h4
        have hN9_10 := closed_false h1 h3 (k := 10) rfl (by decide)
        have hN9_11 := closed_false hN9_10 h3 (k := 11) rfl (by decide)
        have hN9_15 := closed_false hN9_11 h3 (k := 15) rfl (by decide)
        have hN9_18 := closed_false hN9_15 h3 (k := 18) rfl (by decide)
        try simp only [upd_same, updD_same, upd_ne, updD_ne, ne_eq, Nat.reduceEqDiff, not_false_eq_true, stg_t, stg_f, vAd_s, vCap_s, blk_p, List.cons_append, List.nil_append, b2n_t, b2n_f, hN9_15, hN9_18]
        exact goW
      · intro ξ v; rfl
      · intro ξ k v S h3 hn hk
        first
        | rfl
      apply YSeq.w (by intro _ _ _; rfl)
      · intro ξ S h1 h2 h3 h4
        have hN10_11 := closed_false h1 h3 (k := 11) rfl (by decide)
        have hN10_15 := closed_false hN10_11 h3 (k := 15) rfl (by decide)
        have hN10_18 := closed_false hN10_15 h3 (k := 18) rfl (by decide)
        try simp only [upd_same, updD_same, upd_ne, updD_ne, ne_eq, Nat.reduceEqDiff, not_false_eq_true, stg_t, stg_f, vAd_s, vCap_s, blk_p, List.cons_append, List.nil_append, b2n_t, b2n_f, hN10_15, hN10_18]
        exact goW
      · intro ξ v; rfl
      · intro ξ k v S h3 hn hk
        first
        | rfl
      apply YSeq.w (by intro _ _ _; rfl)
      · intro ξ S h1 h2 h3 h4
        have hN11_15 := closed_false h1 h3 (k := 15) rfl (by decide)
        have hN11_18 := closed_false hN11_15 h3 (k := 18) rfl (by decide)
        try simp only [upd_same, updD_same, upd_ne, updD_ne, ne_eq, Nat.reduceEqDiff, not_false_eq_true, stg_t, stg_f, vAd_s, vCap_s, blk_p, List.cons_append, List.nil_append, b2n_t, b2n_f, hN11_15, hN11_18]
        exact goW
      · intro ξ v; rfl
      · intro ξ k v S h3 hn hk
        first
        | rfl
      apply YSeq.w (by intro _ _ _; rfl)
      · intro ξ S h1 h2 h3 h4
        have hN12_14 := closed_false h1 h3 (k := 14) rfl (by decide)
        have hN12_15 := closed_false hN12_14 h3 (k := 15) rfl (by decide)
        have hN12_18 := closed_false hN12_15 h3 (k := 18) rfl (by decide)
        try simp only [upd_same, updD_same, upd_ne, updD_ne, ne_eq, Nat.reduceEqDiff, not_false_eq_true, stg_t, stg_f, vAd_s, vCap_s, blk_p, List.cons_append, List.nil_append, b2n_t, b2n_f, hN12_15, hN12_18]
        exact goW
      · intro ξ v; rfl
      · intro ξ k v S h3 hn hk
        first
        | rfl
      apply YSeq.w (by intro _ _ _; rfl)
      · intro ξ S h1 h2 h3 h4
        have hN13_14 := closed_false h1 h3 (k := 14) rfl (by decide)
        have hN13_15 := closed_false hN13_14 h3 (k := 15) rfl (by decide)
        have hN13_18 := closed_false hN13_15 h3 (k := 18) rfl (by decide)
        try simp only [upd_same, updD_same, upd_ne, updD_ne, ne_eq, Nat.reduceEqDiff, not_false_eq_true, stg_t, stg_f, vAd_s, vCap_s, blk_p, List.cons_append, List.nil_append, b2n_t, b2n_f, hN13_15, hN13_18]
        exact goW
      · intro ξ v; rfl
      · intro ξ k v S h3 hn hk
        first
        | rfl
      apply YSeq.w (by intro _ _ _; rfl)
      · intro ξ S h1 h2 h3 h4
        have hN14_15 := closed_false h1 h3 (k := 15) rfl (by decide)
        have hN14_18 := closed_false hN14_15 h3 (k := 18) rfl (by decide)
        try simp only [upd_same, updD_same, upd_ne, updD_ne, ne_eq, Nat.reduceEqDiff, not_false_eq_true, stg_t, stg_f, vAd_s, vCap_s, blk_p, List.cons_append, List.nil_append, b2n_t, b2n_f, hN14_15, hN14_18]
        exact goW
      · intro ξ v; rfl
      · intro ξ k v S h3 hn hk
        first
        | rfl
      apply YSeq.callC
      · intro ξ S h1 h2 h3 h4
        have hN15_18 := closed_false h1 h3 (k := 18) rfl (by decide)
        try simp only [upd_same, updD_same, upd_ne, updD_ne, ne_eq, Nat.reduceEqDiff, not_false_eq_true, stg_t, stg_f, vAd_s, vCap_s, blk_p, List.cons_append, List.nil_append, b2n_t, b2n_f, h1, hN15_18]
        exact ⟨_, _, _, _, kp, (Evs.cons rfl (Evs.cons rfl (Evs.cons rfl (Evs.cons rfl Evs.nil)))), goXp, fun v => (by first | exact goXp | (simp only [upd_same, updD_same, upd_ne, updD_ne, ne_eq, Nat.reduceEqDiff, not_false_eq_true, stg_t, stg_f, vAd_s, vCap_s, blk_p, List.cons_append, List.nil_append, b2n_t, b2n_f]; exact goXp))⟩
      · intro ξ v; rfl
      · intro ξ k v S h3 hn hk
        first
        | rfl
      apply YSeq.w (by intro _ _ _; rfl)
      · intro ξ S h1 h2 h3 h4
        have hY16_15 : S 15 = true := h2 15 (by decide)
        have hN16_17 := closed_false h1 h3 (k := 17) rfl (by decide)
        have hN16_18 := closed_false hN16_17 h3 (k := 18) rfl (by decide)
        try simp only [upd_same, updD_same, upd_ne, updD_ne, ne_eq, Nat.reduceEqDiff, not_false_eq_true, stg_t, stg_f, vAd_s, vCap_s, blk_p, List.cons_append, List.nil_append, b2n_t, b2n_f, hY16_15, hN16_18]
        exact goW
      · intro ξ v; rfl
      · intro ξ k v S h3 hn hk
        first
        | rfl
      apply YSeq.w (by intro _ _ _; rfl)
      · intro ξ S h1 h2 h3 h4
        have hY17_16 : S 16 = true := h2 16 (by decide)
        have hY17_15 : S 15 = true := h3 16 _ rfl hY17_16 15 (by decide)
        have hN17_18 := closed_false h1 h3 (k := 18) rfl (by decide)
        try simp only [upd_same, updD_same, upd_ne, updD_ne, ne_eq, Nat.reduceEqDiff, not_false_eq_true, stg_t, stg_f, vAd_s, vCap_s, blk_p, List.cons_append, List.nil_append, b2n_t, b2n_f, hY17_15, hN17_18]
        exact goW
      · intro ξ v; rfl
      · intro ξ k v S h3 hn hk
        first
        | rfl
      apply YSeq.append (k + 1)
      · intro ξ S h1 h2 h3 h4
        have hY18_15 : S 15 = true := h2 15 (by decide)
        simp only [upd_same, updD_same, upd_ne, updD_ne, ne_eq, Nat.reduceEqDiff, not_false_eq_true, stg_t, stg_f, vAd_s, vCap_s, blk_p, List.cons_append, List.nil_append, b2n_t, b2n_f, hY18_15, h1]
        refine ⟨_, _, _, _, _, _, rfl, rfl, goXp, (by first | rfl | (simp; done) | omega), (by first | rfl | omega | (simp; done) | (simp; omega)), (by first | omega | (simp; done) | (simp; omega)), (by first | omega | (simp; done) | (simp; omega)), fun ad' cap' => ?_⟩
        exact goXm
      apply YSeq.w (by intro _ _ _; rfl)
      · intro ξ S h1 h2 h3 h4
        have hY19_15 : S 15 = true := h2 15 (by decide)
        have hY19_18 : S 18 = true := h2 18 (by decide)
        try simp only [upd_same, updD_same, upd_ne, updD_ne, ne_eq, Nat.reduceEqDiff, not_false_eq_true, stg_t, stg_f, vAd_s, vCap_s, blk_p, List.cons_append, List.nil_append, b2n_t, b2n_f, hY19_15, hY19_18]
        exact goW
      · intro ξ v; rfl
      · intro ξ k v S h3 hn hk
        first
        | rfl
        | skip
          have hY19_18 : S 18 = true := h3 19 _ rfl hn 18 (by decide)
          simp only [upd_S hY19_18 hk]
      refine YSeq.nil fun ξ hf => ?_
      refine ⟨[(2, _), (3, _), (13, _), (27, _), (28, _), (121, _), (122, _), (123, _)], _, Ent.trans (Ent.eqc rfl (by first | (simp only [upd_same, updD_same, upd_ne, updD_ne, ne_eq, Nat.reduceEqDiff, not_false_eq_true, stg_t, stg_f, vAd_s, vCap_s, blk_p, List.cons_append, List.nil_append, b2n_t, b2n_f, ownV, slV, ptV] <;> rfl) | rfl)) (Ent.sub goSub), ?_⟩
      clear hf
      generalize vAd (ξ 18) = ad146
      generalize vCap (ξ 18) = cap146
      repeat' (first | refine goH ?_ | refine goV ?_ | refine goB (fun b => ?_) | refine goC (fun ad cap => ?_) | refine goI ?_ | (refine Cw.k_cond ?_; first | (refine Cw.cond_dec rfl (fun hc => ?_) (fun hc => ?_) <;> try (exfalso; omega)) | refine Cw.cond_bool rfl (fun hc => ?_) (fun hc => ?_)) | refine goR ?_ | refine goP ?_ | apply PSeq.cons | apply PSeq.yes rfl rfl rfl | exact goW | fail)
      exact ⟨_, _, _, (Ent.mk goSub goTk), ⟨k + 1, _, _, _, _, rfl, ⟨by omega, f1, hr1, f2, hk4⟩, rfl, rfl⟩, by omega⟩
    · have hkn : k = l.length := by omega
      subst hkrl
      rw [hkn] at hlr
      have hkr : kr = (kitSt x (day + dl) l l.length).1.map Kt.row := by rw [← hkn]; exact hkr
      have hfin : Tr.tup [.sl 3 kr, .sl 4 lr, .int 0] = .tup [.sl 3 ((kitsOf x (day + dl) l).map Kt.row), .lots (restOf x (day + dl) l), .int 0] := by unfold kitsOf restOf; rw [← hkr, hlr]
      rw [← hlrl]
      clear hlr hkr
      repeat' (first | refine goH ?_ | refine goV ?_ | refine goB (fun b => ?_) | refine goC (fun ad cap => ?_) | refine goI ?_ | (refine Cw.k_cond ?_; first | (refine Cw.cond_dec rfl (fun hc => ?_) (fun hc => ?_) <;> try (exfalso; omega)) | refine Cw.cond_bool rfl (fun hc => ?_) (fun hc => ?_)) | refine goR ?_ | refine goP ?_ | apply PSeq.cons | apply PSeq.yes rfl rfl rfl | exact goW | fail)
      refine Fin.ret (Ent.trans (Ent.settle (s := 8) rfl goPk rfl) (Ent.trans (Ent.settle (s := 9) rfl goPk rfl) (Ent.take goTk))) (Outs.many rfl (OutL.cons goOe (OutL.cons goOe (OutL.cons goOe OutL.nil))) rfl) ⟨rfl, hfin⟩
  · -- one product
    obtain ⟨v, hjv, rfl⟩ := tkv_at hj
    rw [tkv_erase]
    have hp2 := eraseIdx_snoc hp hjv
    have hlen := eraseIdx_len hjv
    have hmem : (a, v) ∈ ndM l := hp.mem_iff.2 (List.mem_append.2 (.inr (List.mem_of_getElem? hjv)))
    have hbd := ndM_bd hn hmem
    have hv := ndM_val hmem
    have hnot : a ∉ g.map Prod.fst := by
      have h1 := ((hp2.map Prod.fst).nodup_iff.1 (ndM_nodup l))
      rw [List.map_append, List.map_append] at h1
      have h2 := (List.nodup_append.1 h1).1
      intro hc
      exact (List.nodup_append.1 h2).2.2 a hc a (by simp) rfl
    simp only at hbd
    have k2 := fresh_fn x ho a (day + dl)
    have hfb := freshI_bd ho a (day + dl)
    have hgs : (g ++ [(a, v)]).map Prod.fst = g.map Prod.fst ++ [a] := by rw [List.map_append]; rfl
    by_cases hsh : freshI x a (day + dl) < sumL (wts a l)
    rotate_left
    · have hkeep : rows = intRows (gvK x (day + dl) l ((g ++ [(a, v)]).map Prod.fst) ⟨#[]⟩ 0) := by
        rw [hrows, gvK_p0 x (day + dl) l _ ⟨#[]⟩ a, ← gvK_full hsh, gvK_next x (day + dl) l _ a ⟨#[]⟩, hgs]
      rw [← hv] at hsh
      generalize freshI x a (day + dl) = ff at *
      repeat' (first | refine goH ?_ | (refine Ops.k_entry ?_; first | (refine Ops.entry rfl goPk rfl ?_)) | refine goV ?_ | refine goB (fun b => ?_) | refine goC (fun ad cap => ?_) | refine goI ?_ | (refine Cw.k_cond ?_; first | (refine Cw.cond_dec rfl (fun hc => ?_) (fun hc => ?_) <;> try (exfalso; omega)) | refine Cw.cond_bool rfl (fun hc => ?_) (fun hc => ?_)) | (refine Ops.k_calla ?_; first | (refine Ops.k_callf 31 ?_; refine Ops.callV k2 (Evs.cons rfl (Evs.cons rfl (Evs.cons rfl Evs.nil))) rfl ?_)) | (apply OpW.k_call; first | (apply OpW.k_callf 31; exact OpW.callV k2 (Evs.cons rfl (Evs.cons rfl (Evs.cons rfl Evs.nil))))) | refine goR ?_ | refine goP ?_ | apply PSeq.cons | apply PSeq.yes rfl rfl rfl | exact goW | fail)
      all_goals first | exact ⟨_, _, _, (Ent.mk goSub goTk), ⟨g ++ [(a, v)], _, _, rfl, ⟨hp2, hkeep, hrl⟩, rfl, rfl⟩, by omega⟩ | (exfalso; omega)
    have k3 := share_fn (freshI x a (day + dl)) (wts a l) (by have := hn.wts a; omega)
    rw [kitSh_ok ho hx hn hsh] at k3
    have hsl := shP_len x (day + dl) l a
    rw [gvK_p0 x (day + dl) l _ ⟨#[]⟩ a] at hrows
    rw [← hv] at hsh
    have hnx := gvK_next x (day + dl) l (g.map Prod.fst) a ⟨#[]⟩
    rw [← hgs] at hnx
    generalize freshI x a (day + dl) = ff at *
    repeat' (first | refine goH ?_ | (refine Ops.k_entry ?_; first | (refine Ops.entry rfl goPk rfl ?_)) | refine goV ?_ | refine goB (fun b => ?_) | refine goC (fun ad cap => ?_) | refine goI ?_ | (refine Cw.k_cond ?_; first | (refine Cw.cond_dec rfl (fun hc => ?_) (fun hc => ?_) <;> try (exfalso; omega)) | refine Cw.cond_bool rfl (fun hc => ?_) (fun hc => ?_)) | (refine Ops.k_calla ?_; first | (refine Ops.k_callf 31 ?_; refine Ops.callV k2 (Evs.cons rfl (Evs.cons rfl (Evs.cons rfl Evs.nil))) rfl ?_)) | (apply OpW.k_call; first | (apply OpW.k_callf 31; exact OpW.callV k2 (Evs.cons rfl (Evs.cons rfl (Evs.cons rfl Evs.nil))))) | refine goR ?_ | refine goP ?_ | apply PSeq.cons | apply PSeq.yes rfl rfl rfl | exact goW | fail)
    all_goals first | (exfalso; omega) | skip
    refine Cw.loopI [(0, _), (1, _), (2, _), (3, _), (13, _), (16, _), (18, _), (59, _), (74, _), (75, _)] _ (fun q e cc => ∃ (k n4 : Nat) (ad4 : Option Addr) (cap4 : Nat) (ad5 : Option Addr) (cap5 : Nat) (r4 r5 : List (List Tr)), q = l.length - k ∧ (k ≤ l.length ∧ r4 = intRows (idxN a l k) ∧ r5 = intRows (wts a (l.take k)) ∧ r4.length = n4 ∧ r5.length = n4 ∧ n4 ≤ k) ∧ e = [(19, Tr.raw (.slice ad4 n4 cap4)), (20, Tr.raw (.slice ad5 n4 cap5)), (76, .int k)] ∧ cc = [Chunk.own ad4 cap4 1 3 r4, Chunk.own ad5 cap5 1 3 r5])
      ⟨_, _, _, Ent.trans (Ent.nil 1 3) (Ent.trans (Ent.nil 1 3) (Ent.mkP goSub goPm)), 0, 0, none, 0, none, 0, [], [], rfl, ⟨by omega, rfl, rfl, rfl, rfl, by omega⟩, rfl, rfl⟩ ?_
    rintro _ _ _ ⟨k, n4, ad4, cap4, ad5, cap5, r4, r5, rfl, ⟨hk, h4, h5, hl4, hl5, hn4⟩, rfl, rfl⟩
    by_cases hkl : k < l.length
    · obtain ⟨z, hz⟩ := at_lt hkl
      have hrow : (l.map Need.row)[k]? = some [.str z.pl, .str z.pr, .int z.many] := rows_at hz
      have g4 := idxN_succ (p := a) hz
      have g5 := wts_take a hz
      clear hz
      by_cases hpa : z.pr = a
      · rw [if_pos hpa] at g4 g5
        have f4 : r4 ++ [[Tr.int (k : Int)]] = intRows (idxN a l (k + 1)) := by rw [h4, g4]; unfold intRows; rw [List.map_append]; rfl
        have f5 : r5 ++ [[Tr.int z.many]] = intRows (wts a (l.take (k + 1))) := by rw [h5, g5]; unfold intRows; rw [List.map_append]; rfl
        have fl4 : (r4 ++ [[Tr.int (k : Int)]]).length = n4 + 1 := by rw [List.length_append, hl4]; rfl
        have fl5 : (r5 ++ [[Tr.int z.many]]).length = n4 + 1 := by rw [List.length_append, hl5]; rfl
        clear h4 h5 g4 g5
        repeat' (first | refine goH ?_ | refine goV ?_ | refine goB (fun b => ?_) | refine goC (fun ad cap => ?_) | refine goI ?_ | (refine Cw.k_cond ?_; first | (refine Cw.cond_dec rfl (fun hc => ?_) (fun hc => ?_) <;> try (exfalso; omega)) | refine Cw.cond_bool rfl (fun hc => ?_) (fun hc => ?_)) | fail)
        first | refine Cw.region_YP (fun ξ S => Chunk.box b 59 [.str z.pl, .str z.pr, .int z.many] :: stg (S 3) (Chunk.own ad4 cap4 1 3 r4) (ownV (ξ 3) 1 3 (r4 ++ [[Tr.int (k : Int)]])) :: stg (S 8) (Chunk.own ad5 cap5 1 3 r5) (ownV (ξ 8) 1 3 (r5 ++ [[Tr.int z.many]])) :: Chunk.rg Value.string bm r (tkv (ndM l)) (tkv (lf.eraseIdx j)) :: Chunk.own ad cap 1 3 rows :: []) rfl (by decide +kernel) rfl ((fun (ξ : Nat → Value) (S : Nat → Bool) => Chunk.box b 59 [.str z.pl, .str z.pr, .int z.many] :: stg (S 3) (Chunk.own ad4 cap4 1 3 r4) (ownV (ξ 3) 1 3 (r4 ++ [[Tr.int (k : Int)]])) :: stg (S 8) (Chunk.own ad5 cap5 1 3 r5) (ownV (ξ 8) 1 3 (r5 ++ [[Tr.int z.many]])) :: Chunk.rg Value.string bm r (tkv (ndM l)) (tkv (lf.eraseIdx j)) :: Chunk.own ad cap 1 3 rows :: []) (fun _ => undef) (fun _ => false)) (by simp only [upd_same, updD_same, upd_ne, updD_ne, ne_eq, Nat.reduceEqDiff, not_false_eq_true, stg_t, stg_f, vAd_s, vCap_s, blk_p, List.cons_append, List.nil_append, b2n_t, b2n_f]; exact goXm) (fun _ => rfl) ?_ | fail
        apply YSeq.w (by intro _ _ _; rfl)
        · intro ξ S h1 h2 h3 h4
          have hN0_3 := closed_false h1 h3 (k := 3) rfl (by decide)
          have hN0_8 := closed_false hN0_3 h3 (k := 8) rfl (by decide)
          try simp only [upd_same, updD_same, upd_ne, updD_ne, ne_eq, Nat.reduceEqDiff, not_false_eq_true, stg_t, stg_f, vAd_s, vCap_s, blk_p, List.cons_append, List.nil_append, b2n_t, b2n_f, hN0_3, hN0_8]
          exact goW
        · intro ξ v; rfl
        · intro ξ k v S h3 hn hk
          first
          | rfl
        apply YSeq.w (by intro _ _ _; rfl)
        · intro ξ S h1 h2 h3 h4
          have hN1_2 := closed_false h1 h3 (k := 2) rfl (by decide)
          have hN1_3 := closed_false hN1_2 h3 (k := 3) rfl (by decide)
          have hN1_8 := closed_false hN1_3 h3 (k := 8) rfl (by decide)
          try simp only [upd_same, updD_same, upd_ne, updD_ne, ne_eq, Nat.reduceEqDiff, not_false_eq_true, stg_t, stg_f, vAd_s, vCap_s, blk_p, List.cons_append, List.nil_append, b2n_t, b2n_f, hN1_3, hN1_8]
          exact goW
        · intro ξ v; rfl
        · intro ξ k v S h3 hn hk
          first
          | rfl
        apply YSeq.w (by intro _ _ _; rfl)
        · intro ξ S h1 h2 h3 h4
          have hN2_3 := closed_false h1 h3 (k := 3) rfl (by decide)
          have hN2_8 := closed_false hN2_3 h3 (k := 8) rfl (by decide)
          try simp only [upd_same, updD_same, upd_ne, updD_ne, ne_eq, Nat.reduceEqDiff, not_false_eq_true, stg_t, stg_f, vAd_s, vCap_s, blk_p, List.cons_append, List.nil_append, b2n_t, b2n_f, hN2_3, hN2_8]
          exact goW
        · intro ξ v; rfl
        · intro ξ k v S h3 hn hk
          first
          | rfl
        apply YSeq.append (n4 + 1)
        · intro ξ S h1 h2 h3 h4
          have hN3_8 := closed_false h1 h3 (k := 8) rfl (by decide)
          simp only [upd_same, updD_same, upd_ne, updD_ne, ne_eq, Nat.reduceEqDiff, not_false_eq_true, stg_t, stg_f, vAd_s, vCap_s, blk_p, List.cons_append, List.nil_append, b2n_t, b2n_f, h1, hN3_8]
          refine ⟨_, _, _, _, _, _, rfl, rfl, goXp, (by first | rfl | (simp; done) | omega), (by first | rfl | omega | (simp; done) | (simp; omega)), (by first | omega | (simp; done) | (simp; omega)), (by first | omega | (simp; done) | (simp; omega)), fun ad' cap' => ?_⟩
          exact goXm
        apply YSeq.w (by intro _ _ _; rfl)
        · intro ξ S h1 h2 h3 h4
          have hN4_8 := closed_false h1 h3 (k := 8) rfl (by decide)
          try simp only [upd_same, updD_same, upd_ne, updD_ne, ne_eq, Nat.reduceEqDiff, not_false_eq_true, stg_t, stg_f, vAd_s, vCap_s, blk_p, List.cons_append, List.nil_append, b2n_t, b2n_f, hN4_8]
          exact goW
        · intro ξ v; rfl
        · intro ξ k v S h3 hn hk
          first
          | rfl
        apply YSeq.w (by intro _ _ _; rfl)
        · intro ξ S h1 h2 h3 h4
          have hN5_6 := closed_false h1 h3 (k := 6) rfl (by decide)
          have hN5_7 := closed_false hN5_6 h3 (k := 7) rfl (by decide)
          have hN5_8 := closed_false hN5_7 h3 (k := 8) rfl (by decide)
          try simp only [upd_same, updD_same, upd_ne, updD_ne, ne_eq, Nat.reduceEqDiff, not_false_eq_true, stg_t, stg_f, vAd_s, vCap_s, blk_p, List.cons_append, List.nil_append, b2n_t, b2n_f, hN5_8]
          exact goW
        · intro ξ v; rfl
        · intro ξ k v S h3 hn hk
          first
          | rfl
        apply YSeq.w (by intro _ _ _; rfl)
        · intro ξ S h1 h2 h3 h4
          have hN6_7 := closed_false h1 h3 (k := 7) rfl (by decide)
          have hN6_8 := closed_false hN6_7 h3 (k := 8) rfl (by decide)
          try simp only [upd_same, updD_same, upd_ne, updD_ne, ne_eq, Nat.reduceEqDiff, not_false_eq_true, stg_t, stg_f, vAd_s, vCap_s, blk_p, List.cons_append, List.nil_append, b2n_t, b2n_f, hN6_8]
          exact goW
        · intro ξ v; rfl
        · intro ξ k v S h3 hn hk
          first
          | rfl
        apply YSeq.w (by intro _ _ _; rfl)
        · intro ξ S h1 h2 h3 h4
          have hN7_8 := closed_false h1 h3 (k := 8) rfl (by decide)
          try simp only [upd_same, updD_same, upd_ne, updD_ne, ne_eq, Nat.reduceEqDiff, not_false_eq_true, stg_t, stg_f, vAd_s, vCap_s, blk_p, List.cons_append, List.nil_append, b2n_t, b2n_f, hN7_8]
          exact goW
        · intro ξ v; rfl
        · intro ξ k v S h3 hn hk
          first
          | rfl
        apply YSeq.append (n4 + 1)
        · intro ξ S h1 h2 h3 h4
          have hY8_3 : S 3 = true := h2 3 (by decide)
          simp only [upd_same, updD_same, upd_ne, updD_ne, ne_eq, Nat.reduceEqDiff, not_false_eq_true, stg_t, stg_f, vAd_s, vCap_s, blk_p, List.cons_append, List.nil_append, b2n_t, b2n_f, hY8_3, h1]
          refine ⟨_, _, _, _, _, _, rfl, rfl, goXp, (by first | rfl | (simp; done) | omega), (by first | rfl | omega | (simp; done) | (simp; omega)), (by first | omega | (simp; done) | (simp; omega)), (by first | omega | (simp; done) | (simp; omega)), fun ad' cap' => ?_⟩
          exact goXm
        apply YSeq.w (by intro _ _ _; rfl)
        · intro ξ S h1 h2 h3 h4
          have hY9_3 : S 3 = true := h2 3 (by decide)
          have hY9_8 : S 8 = true := h2 8 (by decide)
          try simp only [upd_same, updD_same, upd_ne, updD_ne, ne_eq, Nat.reduceEqDiff, not_false_eq_true, stg_t, stg_f, vAd_s, vCap_s, blk_p, List.cons_append, List.nil_append, b2n_t, b2n_f, hY9_3, hY9_8]
          exact goW
        · intro ξ v; rfl
        · intro ξ k v S h3 hn hk
          first
          | rfl
          | skip
            have hY9_3 : S 3 = true := h3 9 _ rfl hn 3 (by decide)
            have hY9_8 : S 8 = true := h3 9 _ rfl hn 8 (by decide)
            simp only [upd_S hY9_3 hk, upd_S hY9_8 hk]
        apply YSeq.w (by intro _ _ _; rfl)
        · intro ξ S h1 h2 h3 h4
          have hY10_3 : S 3 = true := h2 3 (by decide)
          have hY10_8 : S 8 = true := h2 8 (by decide)
          try simp only [upd_same, updD_same, upd_ne, updD_ne, ne_eq, Nat.reduceEqDiff, not_false_eq_true, stg_t, stg_f, vAd_s, vCap_s, blk_p, List.cons_append, List.nil_append, b2n_t, b2n_f, hY10_3, hY10_8]
          exact goW
        · intro ξ v; rfl
        · intro ξ k v S h3 hn hk
          first
          | rfl
          | skip
            have hY10_3 : S 3 = true := h3 10 _ rfl hn 3 (by decide)
            have hY10_8 : S 8 = true := h3 10 _ rfl hn 8 (by decide)
            simp only [upd_S hY10_3 hk, upd_S hY10_8 hk]
        refine YSeq.nil fun ξ hf => ?_
        refine ⟨[(0, _), (1, _), (2, _), (3, _), (13, _), (16, _), (18, _), (19, _), (20, _), (59, _), (74, _), (75, _), (76, _)], _, Ent.trans (Ent.eqc rfl (by first | (simp only [upd_same, updD_same, upd_ne, updD_ne, ne_eq, Nat.reduceEqDiff, not_false_eq_true, stg_t, stg_f, vAd_s, vCap_s, blk_p, List.cons_append, List.nil_append, b2n_t, b2n_f, ownV, slV, ptV] <;> rfl) | rfl)) (Ent.sub goSub), ?_⟩
        clear hf
        generalize vAd (ξ 3) = ad88
        generalize vCap (ξ 3) = cap88
        generalize vAd (ξ 8) = ad93
        generalize vCap (ξ 8) = cap93
        repeat' (first | refine goH ?_ | refine goV ?_ | refine goB (fun b => ?_) | refine goC (fun ad cap => ?_) | refine goI ?_ | (refine Cw.k_cond ?_; first | (refine Cw.cond_dec rfl (fun hc => ?_) (fun hc => ?_) <;> try (exfalso; omega)) | refine Cw.cond_bool rfl (fun hc => ?_) (fun hc => ?_)) | refine goR ?_ | refine goP ?_ | apply PSeq.cons | apply PSeq.yes rfl rfl rfl | exact goW | fail)
        exact ⟨_, _, _, (Ent.mk goSub goTk), ⟨k + 1, _, _, _, _, _, _, _, rfl, ⟨by omega, f4, f5, fl4, fl5, by omega⟩, rfl, rfl⟩, by omega⟩
      · rw [if_neg hpa, List.append_nil] at g4 g5
        rw [← g4] at h4
        rw [← g5] at h5
        repeat' (first | refine goH ?_ | refine goV ?_ | refine goB (fun b => ?_) | refine goC (fun ad cap => ?_) | refine goI ?_ | (refine Cw.k_cond ?_; first | (refine Cw.cond_dec rfl (fun hc => ?_) (fun hc => ?_) <;> try (exfalso; omega)) | refine Cw.cond_bool rfl (fun hc => ?_) (fun hc => ?_)) | refine goR ?_ | refine goP ?_ | apply PSeq.cons | apply PSeq.yes rfl rfl rfl | exact goW | fail)
        all_goals first | exact ⟨_, _, _, (Ent.mk goSub goTk), ⟨k + 1, _, _, _, _, _, _, _, rfl, ⟨by omega, h4, h5, hl4, hl5, by omega⟩, rfl, rfl⟩, by omega⟩ | (exfalso; simp_all; done)
    have hkn : k = l.length := by omega
    subst hkn
    rw [List.take_of_length_le (Nat.le_refl _)] at h5
    have hnn : n4 = (intRows (wts a l)).length := by rw [← h5, hl5]
    have hnn4 : n4 = (intRows (idxN a l l.length)).length := by rw [← h4, hl4]
    have hil := idxN_len a l l.length (Nat.le_refl _)
    rw [List.take_of_length_le (Nat.le_refl _)] at hil
    have hcw : cntP a l = (wts a l).length := rfl
    have hoL := intRows_len (idxN a l l.length)
    refine Cw.ent (Ent.settle (s := 19) rfl goPk hl4.symm) ?_
    refine Cw.ent (Ent.settle (s := 20) rfl goPk hl5.symm) ?_
    rw [h4, h5]
    repeat' (first | refine goH ?_ | refine goV ?_ | refine goB (fun b => ?_) | refine goC (fun ad cap => ?_) | refine goI ?_ | (refine Cw.k_cond ?_; first | (refine Cw.cond_dec rfl (fun hc => ?_) (fun hc => ?_) <;> try (exfalso; omega)) | refine Cw.cond_bool rfl (fun hc => ?_) (fun hc => ?_)) | (refine Ops.k_calla ?_; first | (refine Ops.k_callf 32 ?_; refine Ops.callV k3 (Evs.cons rfl (Evs.cons rfl Evs.nil)) rfl ?_)) | (apply OpW.k_call; first | (apply OpW.k_callf 32; exact OpW.callV k3 (Evs.cons rfl (Evs.cons rfl Evs.nil)))) | refine goR ?_ | refine goP ?_ | apply PSeq.cons | apply PSeq.yes rfl rfl rfl | exact goW | fail)
    refine Cw.loopI [(0, _), (1, _), (2, _), (3, _), (13, _), (23, _), (59, _), (104, _), (105, _)] _ (fun q e cc => ∃ (k : Nat) (rows : List (List Tr)), q = cntP a l - k ∧ (k ≤ cntP a l ∧ rows = intRows (gvK x (day + dl) l (g.map Prod.fst) a k) ∧ rows.length = l.length) ∧ e = [(106, .int k)] ∧ cc = [Chunk.own ad cap 1 3 rows])
      ⟨_, _, _, (Ent.mkP goSub goPm), 0, _, rfl, ⟨by omega, hrows, hrl⟩, rfl, rfl⟩ ?_
    clear hrows hrl
    rintro _ _ _ ⟨k, rows, rfl, ⟨hk2, hrows, hrl⟩, rfl, rfl⟩
    by_cases hkc : k < cntP a l
    · obtain ⟨iv, hiv⟩ := at_lt (l := idxN a l l.length) (k := k) (by omega)
      have hor := intRows_at hiv
      obtain ⟨i, z, rfl, hz, hza, hzc⟩ := idxN_at a l l.length (Nat.le_refl _) hiv
      have hi := (List.getElem?_eq_some_iff.1 hz).1
      obtain ⟨sv, hsv⟩ := at_lt (l := shP x (day + dl) l a) (k := k) (by omega)
      have hsr := intRows_at hsv
      have hSL := intRows_len (shP x (day + dl) l a)
      have hset := gvK_set (x := x) (fr := day + dl) hz hza hzc hnot
      have hgd : (shP x (day + dl) l a).getD k 0 = sv := by rw [List.getD_eq_getElem?_getD, hsv]; rfl
      rw [hgd] at hset
      have s1 : rows.set ((i : Nat) : Int).toNat [Tr.int sv] = intRows (gvK x (day + dl) l (g.map Prod.fst) a (k + 1)) := by rw [hrows, Int.toNat_natCast, ints_set, hset]
      have l1 : (rows.set ((i : Nat) : Int).toNat [Tr.int sv]).length = l.length := by rw [List.length_set, hrl]
      have hv1 : rows[((i : Nat) : Int).toNat]? = some [Tr.int (gvI x (day + dl) l (g.map Prod.fst) a k i z)] := by rw [hrows, Int.toNat_natCast]; exact intRows_at (gvK_at hz)
      clear hrows hset hgd hsv hz hiv
      repeat' (first | refine goH ?_ | refine goV ?_ | refine goB (fun b => ?_) | refine goC (fun ad cap => ?_) | refine goI ?_ | (refine Cw.k_cond ?_; first | (refine Cw.cond_dec rfl (fun hc => ?_) (fun hc => ?_) <;> try (exfalso; omega)) | refine Cw.cond_bool rfl (fun hc => ?_) (fun hc => ?_)) | refine goR ?_ | refine goP ?_ | apply PSeq.cons | apply PSeq.yes rfl rfl rfl | exact goW | fail)
      exact ⟨_, _, _, (Ent.mk goSub goTk), ⟨k + 1, _, rfl, ⟨by omega, s1, l1⟩, rfl, rfl⟩, by omega⟩
    · have hkc2 : k = cntP a l := by omega
      subst hkc2
      rw [hnx] at hrows
      repeat' (first | refine goH ?_ | refine goV ?_ | refine goB (fun b => ?_) | refine goC (fun ad cap => ?_) | refine goI ?_ | (refine Cw.k_cond ?_; first | (refine Cw.cond_dec rfl (fun hc => ?_) (fun hc => ?_) <;> try (exfalso; omega)) | refine Cw.cond_bool rfl (fun hc => ?_) (fun hc => ?_)) | refine goR ?_ | refine goP ?_ | apply PSeq.cons | apply PSeq.yes rfl rfl rfl | exact goW | fail)
      exact ⟨_, _, _, (Ent.mk goSub goTk), ⟨g ++ [(a, v)], _, _, rfl, ⟨hp2, hrows, hrl⟩, rfl, rfl⟩, by omega⟩
end Lg
