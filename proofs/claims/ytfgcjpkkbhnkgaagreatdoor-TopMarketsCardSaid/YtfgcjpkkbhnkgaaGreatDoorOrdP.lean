/- A part of the proof of a law of this seat: it adds no condition. By an AI agent. -/
import Derived.Test.YtfgcjpkkbhnkgaaGreatDoorSGen
import Derived.Test.YtfgcjpkkbhnkgaaGreatDoorBk6
section
set_option linter.all false
set_option maxRecDepth 100000
set_option maxHeartbeats 8000000
namespace Lg
open Go Go.Proofs

/-! ### Price -/
theorem strRows_snocK (l : List ByteArray) (k : ByteArray) : strRows l ++ [[Tr.str k]] = strRows (l ++ [k]) := by rw [strRows_app]; rfl
theorem intRows_repl (n : Nat) (x : Int) : List.replicate n [Tr.int x] = intRows (List.replicate n x) := by unfold intRows; rw [List.map_replicate]
theorem intRows_appK (a b : List Int) : intRows a ++ intRows b = intRows (a ++ b) := by unfold intRows; rw [List.map_append]
theorem intRows_takeK (l : List Int) (k : Nat) : (intRows l).take k = intRows (l.take k) := by unfold intRows; rw [List.map_take]
theorem intRows_dropK (l : List Int) (k : Nat) : (intRows l).drop k = intRows (l.drop k) := by unfold intRows; rw [List.map_drop]
theorem totG_zero (w : List Wr) (b : List Nm) : (0 : Int) = totG w (b.take 0) := rfl
theorem totG_take {w : List Wr} {b : List Nm} {k : Nat} {x : Nm} (h : b[k]? = some x) : totG w (b.take (k + 1)) = totG w (b.take k) + (wrD w x.key).price * x.many := by
 rw [take_at h, totG_snoc]
theorem unitsG_zero (w : List Wr) (g : ByteArray) (b : List Nm) : ([] : List Int) = unitsG w g (b.take 0) := rfl
theorem unitsG_take {w : List Wr} {g : ByteArray} {b : List Nm} {k : Nat} {x : Nm} (h : b[k]? = some x) : unitsG w g (b.take (k + 1)) = unitsG w g (b.take k) ++ (if (wrD w x.key).group = g then List.replicate x.many.toNat (wrD w x.key).price else []) := by
 rw [take_at h, unitsG_snoc]
theorem strRows_nil : strRows [] = [] := rfl
theorem intRows_nilK : intRows [] = [] := rfl
attribute [local irreducible] intRows strRows unitsG totG dOff hiLo wrD
theorem price_fn (w : List Wr) (d : List Dl) (bk : List Nm) (hE1 : dealE w d = 0) (hE2 : bskE w bk = 0) : PFn Tryz.prog 8 [.wrs w, .dls d, .nms bk] (· = .tup [.int (prcP w d bk).1, .strs (prcP w d bk).2, .int 0]) := by
 obtain ⟨hwE, hbl, hbx⟩ := bask_ok hE2
 obtain ⟨hwl, hwp⟩ := wares_ok hwE
 obtain ⟨hdl, hdx⟩ := deal_ok hE1
 have k1 := checkDeals_fn w d (by omega) (by omega)
 have k2 := checkBasket_fn w bk (by omega) (by omega)
 have k3 := cmpOr_fn [dealE w d, bskE w bk] (by simp)
 rw [hE1, hE2] at k3
 rw [hE1] at k1
 rw [hE2] at k2
 rw [show orI [0, 0] = 0 from rfl] at k3
 unfold Tr.ints intRows at k3
 simp only [List.map_cons, List.map_nil] at k3
 have hWL : (w.map Wr.row).length = w.length := List.length_map _
 have hDL : (d.map Dl.row).length = d.length := List.length_map _
 have hBL : (bk.map Nm.row).length = bk.length := List.length_map _
 obtain ⟨Z, hZ⟩ : ∃ Z, Z = prcP w d bk := ⟨_, rfl⟩
 rw [← hZ]
 clear hE1 hE2
 refine PFn.mk (Spec.body Tryz.func8 rfl rfl (Tryz.ntmps8) rfl fun w0 own0 M => ?_)
 repeat' (first | refine goH ?_ | refine goV ?_ | refine goB (fun b => ?_) | refine goC (fun ad cap => ?_) | refine goI ?_ | (refine Cw.k_cond ?_; first | (refine Cw.cond_dec rfl ?_ ?_ <;> intro hc <;> try omega) | refine Cw.cond_bool rfl ?_ ?_ <;> intro hc) | (refine Ops.k_calla ?_; first | (refine Ops.k_callf 25 ?_; refine Ops.callV k1 (Evs.cons rfl (Evs.cons rfl Evs.nil)) rfl ?_) | (refine Ops.k_callf 26 ?_; refine Ops.callV k2 (Evs.cons rfl (Evs.cons rfl Evs.nil)) rfl ?_) | (refine Ops.k_callf 24 ?_; refine Ops.callV k3 (Evs.cons rfl Evs.nil) rfl ?_)) | (apply OpW.k_call; first | (apply OpW.k_callf 25; exact OpW.callV k1 (Evs.cons rfl (Evs.cons rfl Evs.nil))) | (apply OpW.k_callf 26; exact OpW.callV k2 (Evs.cons rfl (Evs.cons rfl Evs.nil))) | (apply OpW.k_callf 24; exact OpW.callV k3 (Evs.cons rfl Evs.nil))) | refine goR ?_ | refine goP ?_ | apply PSeq.cons | apply PSeq.yes rfl rfl rfl | exact goW | fail)
 clear k1 k2 k3
 refine Cw.loopI [(0, _), (1, _), (2, _), (33, _), (34, _)] _ (fun q e c => ∃ (k : Nat) (T : Int), q = bk.length - k ∧ (k ≤ bk.length ∧ T = totG w (bk.take k)) ∧ e = [(10, .int T), (35, .int k)] ∧ c = []) ⟨_, _, _, (Ent.mkP goSub goPm), 0, 0, rfl, ⟨by omega, totG_zero w bk⟩, rfl, rfl⟩ ?_
 rintro _ _ _ ⟨k, T, rfl, ⟨hk, hT0⟩, rfl, rfl⟩
 by_cases hkl : k < bk.length
 ·obtain ⟨x, hx⟩ := at_lt hkl
  have hrow : (bk.map Nm.row)[k]? = some [.str x.key, .int x.many] := rows_at hx
  obtain ⟨hsome, hm1, hm2⟩ := hbx x (List.mem_of_getElem? hx)
  obtain ⟨y, hy⟩ := Option.isSome_iff_exists.1 hsome
  obtain ⟨j, hj, hwj⟩ := wrIx_some hy
  have hyd : wrD w x.key = y := by unfold wrD; rw [hy]; rfl
  have hyp := hwp y (List.mem_of_getElem? hwj)
  have hrw : (w.map Wr.row)[j]? = some [.str y.key, .int y.price, .str y.group] := rows_at hwj
  have hjl := (List.getElem?_eq_some_iff.1 hwj).1
  have kw := ware_fn w (by omega) x.key
  rw [hj] at kw
  have hnext := totG_take (w := w) hx
  rw [hyd] at hnext
  have hT := totG_bd hwp (bk.take k) (fun z hz => (hbx z (List.mem_of_mem_take hz)).2)
  have hTl : (bk.take k).length ≤ 100 := by rw [List.length_take]; omega
  have h4 : 0 ≤ y.price * x.many := Int.mul_nonneg hyp.1 (by omega)
  have h5 : y.price * x.many ≤ 100000 * 100 := Int.mul_le_mul hyp.2 hm2 (by omega) (by omega)
  rw [← hT0] at hnext hT
  clear hx hwj hy hsome hbx hwp hdx hyd hZ hj
  repeat' (first | refine goH ?_ | refine goV ?_ | refine goB (fun b => ?_) | refine goC (fun ad cap => ?_) | refine goI ?_ | (refine Cw.k_cond ?_; first | (refine Cw.cond_dec rfl ?_ ?_ <;> intro hc <;> try omega) | refine Cw.cond_bool rfl ?_ ?_ <;> intro hc) | exact OpW.callV kw (Evs.cons rfl (Evs.cons rfl Evs.nil)) | refine goR ?_ | refine goP ?_ | apply PSeq.cons | apply PSeq.yes rfl rfl rfl | exact goW | fail)
  exact ⟨_, _, _, (Ent.mk goSub goTk), ⟨k + 1, T + y.price * x.many, rfl, ⟨by omega, hnext.symm⟩, rfl, rfl⟩, by omega⟩
 ·rw [List.take_of_length_le (by omega)] at hT0
  have hTb := totG_bd hwp bk (fun z hz => (hbx z hz).2)
  rw [← hT0] at hTb
  have hZ2 : Z = (d.drop 0).foldl (dlS w bk) (T, []) := by rw [hZ, hT0]; rfl
  clear hZ hT0
  repeat' (first | refine goH ?_ | refine goV ?_ | refine goB (fun b => ?_) | refine goC (fun ad cap => ?_) | refine goI ?_ | (refine Cw.k_cond ?_; first | (refine Cw.cond_dec rfl ?_ ?_ <;> intro hc <;> try omega) | refine Cw.cond_bool rfl ?_ ?_ <;> intro hc) | refine goR ?_ | refine goP ?_ | apply PSeq.cons | apply PSeq.yes rfl rfl rfl | exact goW | fail)
  clear hkl hk
  refine Cw.loopI [(0, _), (2, _), (53, _), (54, _)] _ (fun q e c => ∃ (k : Nat) (P : Int) (K : List ByteArray) (rows : List (List Tr)) (n : Nat) (ad : Option Addr) (cap : Nat), q = d.length - k ∧ (k ≤ d.length ∧ Z = (d.drop k).foldl (dlS w bk) (P, K) ∧ rows = strRows K ∧ rows.length = n ∧ n ≤ k ∧ -((k : Int) * 1000000000) ≤ P ∧ P ≤ 1000000000) ∧ e = [(10, .int P), (13, .raw (.slice ad n cap)), (55, .int k)] ∧ c = [Chunk.own ad cap 1 9 rows])
   ⟨_, _, _, Ent.trans (Ent.nil 1 9) (Ent.mkP goSub goPm), 0, T, [], [], 0, none, 0, rfl, ⟨by omega, hZ2, strRows_nil.symm, rfl, by omega, by omega, by omega⟩, rfl, rfl⟩ ?_
  clear hZ2 hTb T
  rintro _ _ _ ⟨k, P, K, rows, n, ad, cap, rfl, ⟨hk, hZ, hrows, hrn, hnk, hP1, hP2⟩, rfl, rfl⟩
  by_cases hkl : k < d.length
  rotate_left
  ·rw [List.drop_of_length_le (by omega)] at hZ
   subst hZ
   repeat' (first | refine goH ?_ | refine goV ?_ | refine goB (fun b => ?_) | refine goC (fun ad cap => ?_) | refine goI ?_ | (refine Cw.k_cond ?_; first | (refine Cw.cond_dec rfl ?_ ?_ <;> intro hc <;> try omega) | refine Cw.cond_bool rfl ?_ ?_ <;> intro hc) | refine goR ?_ | refine goP ?_ | apply PSeq.cons | apply PSeq.yes rfl rfl rfl | exact goW | fail)
   subst hrows
   exact Fin.ret (Ent.trans (Ent.settle (s := 7) rfl goPk hrn.symm) (Ent.take goTk)) (Outs.three rfl rfl rfl rfl) ⟨rfl, rfl⟩
  obtain ⟨x, hx⟩ := at_lt hkl
  obtain ⟨hm1, hm2, hf1, hf2⟩ := hdx x (List.mem_of_getElem? hx)
  rw [drop_at hx, List.foldl_cons] at hZ
  have hrow : (d.map Dl.row)[k]? = some [.str x.key, .str x.group, .int x.many, .int x.free] := rows_at hx
  obtain ⟨xk, xg, xm, xf⟩ := x
  simp only at hm1 hm2 hf1 hf2 hrow
  obtain ⟨m, rfl⟩ : ∃ m : Nat, xm = m := ⟨xm.toNat, by omega⟩
  obtain ⟨f, rfl⟩ : ∃ f : Nat, xf = f := ⟨xf.toNat, by omega⟩
  clear hx
  repeat' (first | refine goH ?_ | refine goV ?_ | refine goB (fun b => ?_) | refine goC (fun ad cap => ?_) | refine goI ?_ | (refine Cw.k_cond ?_; first | (refine Cw.cond_dec rfl ?_ ?_ <;> intro hc <;> try omega) | refine Cw.cond_bool rfl ?_ ?_ <;> intro hc) | refine goR ?_ | refine goP ?_ | apply PSeq.cons | apply PSeq.yes rfl rfl rfl | exact goW | fail)
  refine Cw.loopI [(0, _), (2, _), (10, _), (13, _), (15, _), (53, _), (54, _), (55, _), (59, _), (60, _)] _ (fun q e c => ∃ (k2 : Nat) (us : List Int) (r2 : List (List Tr)) (n2 : Nat) (ad2 : Option Addr) (cap2 : Nat), q = bk.length - k2 ∧ (k2 ≤ bk.length ∧ us = unitsG w xg (bk.take k2) ∧ r2 = intRows us ∧ r2.length = n2 ∧ us.length = n2) ∧ e = [(16, .raw (.slice ad2 n2 cap2)), (61, .int k2)] ∧ c = [Chunk.own ad2 cap2 1 3 r2])
   ⟨_, _, _, Ent.trans (Ent.nil 1 3) (Ent.mkP goSub goPm), 0, [], [], 0, none, 0, rfl, ⟨by omega, unitsG_zero w xg bk, intRows_nilK.symm, rfl, rfl⟩, rfl, rfl⟩ ?_
  rintro _ _ _ ⟨k2, us, r2, n2, ad2, cap2, rfl, ⟨hk2, hus, hr2, hn2, hul⟩, rfl, rfl⟩
  have hlen2 : n2 ≤ 10000 := by
   have h1 := unitsG_len (w := w) xg (bk.take k2) (fun z hz => (hbx z (List.mem_of_mem_take hz)).2.2)
   have h2 : (bk.take k2).length ≤ 100 := by rw [List.length_take]; omega
   rw [← hus] at h1
   omega
  by_cases hkb : k2 < bk.length
  ·obtain ⟨x, hx⟩ := at_lt hkb
   have hrow2 : (bk.map Nm.row)[k2]? = some [.str x.key, .int x.many] := rows_at hx
   obtain ⟨hsome, hq1, hq2⟩ := hbx x (List.mem_of_getElem? hx)
   obtain ⟨y, hy⟩ := Option.isSome_iff_exists.1 hsome
   obtain ⟨j, hj, hwj⟩ := wrIx_some hy
   have hyd : wrD w x.key = y := by unfold wrD; rw [hy]; rfl
   have hrw : (w.map Wr.row)[j]? = some [.str y.key, .int y.price, .str y.group] := rows_at hwj
   have hjl := (List.getElem?_eq_some_iff.1 hwj).1
   have kw := ware_fn w (by omega) x.key
   rw [hj] at kw
   have hnext := unitsG_take (w := w) (g := xg) hx
   rw [hyd, ← hus] at hnext
   obtain ⟨xkey, xmany⟩ := x
   simp only at hnext hrow2 hq1 hq2 kw
   obtain ⟨N, rfl⟩ : ∃ N : Nat, xmany = N := ⟨xmany.toNat, by omega⟩
   rw [Int.toNat_natCast] at hnext
   have kR := repeat_fn y.price N (by omega) (by omega)
   clear hx hwj hy hsome hbx hwp hdx hyd hZ hj hus hrows
   by_cases hg : y.group = xg
   ·rw [if_pos hg] at hnext
    repeat' (first | refine goH ?_ | ((fail_if_success refine Ops.k_c_append ?_); refine goV ?_) | ((fail_if_success refine Ops.k_c_append ?_); refine goB (fun b => ?_)) | ((fail_if_success refine Ops.k_c_append ?_); refine goC (fun ad cap => ?_)) | refine goI ?_ | (refine Cw.k_cond ?_; first | (refine Cw.cond_dec rfl ?_ ?_ <;> intro hc <;> try omega) | refine Cw.cond_bool rfl ?_ ?_ <;> intro hc) | (refine Ops.k_calla ?_; first | (refine Ops.k_callf 27 ?_; refine Ops.callV kw (Evs.cons rfl (Evs.cons rfl Evs.nil)) rfl ?_) | (refine Ops.k_callf 28 ?_; (refine Ops.call kR (Evs.cons rfl (Evs.cons rfl Evs.nil)) goPm rfl ?_; rintro r cs' ⟨ad3, cap3, rfl, rfl⟩))) | (apply OpW.k_call; first | (apply OpW.k_callf 27; exact OpW.callV kw (Evs.cons rfl (Evs.cons rfl Evs.nil)))) | refine goR ?_ | refine goP ?_ | apply PSeq.cons | apply PSeq.yes rfl rfl rfl | exact goW | fail)
    refine Ops.append_ownR rfl rfl goPk hn2.symm (by rw [List.length_replicate]) (by rw [List.length_replicate]; omega) (by rw [List.length_replicate]; omega) rfl ?_
    intro ad4 cap4
    repeat' (first | refine goH ?_ | refine goV ?_ | refine goB (fun b => ?_) | refine goC (fun ad cap => ?_) | refine goI ?_ | (refine Cw.k_cond ?_; first | (refine Cw.cond_dec rfl ?_ ?_ <;> intro hc <;> try omega) | refine Cw.cond_bool rfl ?_ ?_ <;> intro hc) | refine goR ?_ | refine goP ?_ | apply PSeq.cons | apply PSeq.yes rfl rfl rfl | exact goW | fail)
    have hr4 : r2 ++ List.replicate N [Tr.int y.price] = intRows (us ++ List.replicate N y.price) := by rw [hr2, intRows_repl, intRows_appK]
    have hl4 : (r2 ++ List.replicate N [Tr.int y.price]).length = n2 + N := by rw [List.length_append, List.length_replicate, hn2]
    have hu4 : (us ++ List.replicate N y.price).length = n2 + N := by rw [List.length_append, List.length_replicate, hul]
    rw [hl4]
    exact ⟨_, _, _, (Ent.mk goSub goTk), ⟨k2 + 1, _, _, n2 + N, ad4, cap4, rfl, ⟨by omega, hnext.symm, hr4, hl4, hu4⟩, rfl, rfl⟩, by omega⟩
   ·rw [if_neg hg, List.append_nil] at hnext
    repeat' (first | refine goH ?_ | refine goV ?_ | refine goB (fun b => ?_) | refine goC (fun ad cap => ?_) | refine goI ?_ | (refine Cw.k_cond ?_; first | (refine Cw.cond_dec rfl ?_ ?_ <;> intro hc <;> try omega) | refine Cw.cond_bool rfl ?_ ?_ <;> intro hc) | (refine Ops.k_calla ?_; first | (refine Ops.k_callf 27 ?_; refine Ops.callV kw (Evs.cons rfl (Evs.cons rfl Evs.nil)) rfl ?_)) | (apply OpW.k_call; first | (apply OpW.k_callf 27; exact OpW.callV kw (Evs.cons rfl (Evs.cons rfl Evs.nil)))) | refine goR ?_ | refine goP ?_ | apply PSeq.cons | apply PSeq.yes rfl rfl rfl | exact goW | fail)
    exact ⟨_, _, _, (Ent.mk goSub goTk), ⟨k2 + 1, us, r2, n2, ad2, cap2, rfl, ⟨by omega, hnext.symm, hr2, hn2, hul⟩, rfl, rfl⟩, by omega⟩
  rw [List.take_of_length_le (by omega)] at hus
  have hUp := unitsG_bd hwp xg bk
  rw [← hus] at hUp
  have kS := sortD_fn us (by omega) ad2 cap2 n2 hul.symm
  have hsl := hiLo_len us
  have hSp : ∀ y ∈ hiLo us, 0 ≤ y ∧ y ≤ 100000 := fun y hy => hUp y ((hiLo_perm us).mem_iff.1 hy)
  have hZ2 : Z = (d.drop (k + 1)).foldl (dlS w bk) (P - dOff m f (hiLo us), if m ≤ us.length then K ++ [xk] else K) := by
   rw [hZ]
   unfold dlS
   simp only [Int.toNat_natCast]
   rw [← hus]
  generalize hiLo us = S0 at *
  have hS0r := intRows_len S0
  subst hr2
  clear hZ hus hUp hbx hwp hdx
  have hs0 := sumQ_bd hSp
  have hs1 : ((S0.length : Nat) : Int) * 100000 ≤ 10000 * 100000 := Int.mul_le_mul_of_nonneg_right (by omega) (by omega)
  by_cases hm : m ≤ n2
  ·rw [if_pos (by omega)] at hZ2
   repeat' (first | refine goH ?_ | refine goV ?_ | refine goB (fun b => ?_) | refine goC (fun ad cap => ?_) | refine goI ?_ | (refine Cw.k_cond ?_; first | (refine Cw.cond_dec rfl ?_ ?_ <;> intro hc <;> try omega) | refine Cw.cond_bool rfl ?_ ?_ <;> intro hc) | (refine Ops.k_calla ?_; first | (refine Ops.k_callf 29 ?_; (refine Ops.call kS (Evs.cons rfl (Evs.cons rfl Evs.nil)) goPm rfl ?_; rintro r cs' ⟨rfl, rfl⟩))) | refine goR ?_ | refine goP ?_ | apply PSeq.cons | apply PSeq.yes rfl rfl rfl | exact goW | fail)
   obtain ⟨K2, hK2⟩ : ∃ K2, K2 = K ++ [xk] := ⟨_, rfl⟩
   obtain ⟨rows2, hr22⟩ : ∃ rows2, rows2 = rows ++ [[Tr.str xk]] := ⟨_, rfl⟩
   have hrows2 : rows2 = strRows K2 := by rw [hr22, hK2, hrows, strRows_snocK]
   obtain ⟨n3, hn3⟩ : ∃ n3, n3 = n + 1 := ⟨_, rfl⟩
   have hrn2 : rows2.length = n3 := by rw [hr22, List.length_append, hrn, hn3]; rfl
   rw [← hr22, hrn2]
   rw [← hK2] at hZ2
   refine Cw.ent (Ent.settle (s := 16) rfl goPk (by omega)) ?_
   clear kS
   refine Cw.loopI [(0, _), (2, _), (13, _), (15, _), (53, _), (54, _), (55, _)] _ (fun q e c => ∃ (S : List Int) (p : Int) (r5 : List (List Tr)), q = S.length ∧ (r5 = intRows S ∧ P - dOff m f S0 = p - dOff m f S ∧ p ≤ P ∧ P - sumQ S0 ≤ p - sumQ S ∧ (∀ y ∈ S, 0 ≤ y ∧ y ≤ 100000) ∧ S.length ≤ 10000) ∧ e = [(10, .int p), (16, .sl 1 r5)] ∧ c = [])
    ⟨_, _, _, (Ent.mkP goSub goPm), S0, P, _, rfl, ⟨rfl, rfl, by omega, by omega, hSp, by omega⟩, rfl, rfl⟩ ?_
   clear hSp
   rintro _ _ _ ⟨S, p, _, rfl, ⟨rfl, hD, hpP, hlo, hSp, hSl⟩, rfl, rfl⟩
   have hSr := intRows_len S
   have hsS := sumQ_bd hSp
   by_cases hml : m ≤ S.length
   ·obtain ⟨Q, hQ⟩ : ∃ Q, Q = (S.take m).drop (m - f) := ⟨_, rfl⟩
    have hQl : Q.length = f := by rw [hQ, List.length_drop, List.length_take]; omega
    have hQp : ∀ y ∈ Q, 0 ≤ y ∧ y ≤ 100000 := fun y hy => by rw [hQ] at hy; exact hSp y (List.mem_of_mem_take (List.mem_of_mem_drop hy))
    have hQr : ((intRows S).take ((m : Nat) : Int).toNat).drop (((m : Nat) : Int) - ((f : Nat) : Int)).toNat = intRows Q := by
     rw [hQ, intRows_takeK, intRows_dropK, show (((m : Nat) : Int) - ((f : Nat) : Int)).toNat = m - f by omega]
     rfl
    have hDr : (intRows S).drop ((m : Nat) : Int).toNat = intRows (S.drop m) := by rw [intRows_dropK]; rfl
    have hstep := dOff_step (f := f) (show 1 ≤ m by omega) hml
    rw [← hQ] at hstep
    have hsum : sumQ (S.take m) + sumQ (S.drop m) = sumQ S := by rw [← sumQ_app, List.take_append_drop]
    have hsum2 : sumQ ((S.take m).take (m - f)) + sumQ Q = sumQ (S.take m) := by rw [hQ, ← sumQ_app, List.take_append_drop]
    have hsum3 := (sumQ_bd (l := (S.take m).take (m - f)) (fun y hy => hSp y (List.mem_of_mem_take (List.mem_of_mem_take hy)))).1
    have hdl2 : (S.drop m).length = S.length - m := List.length_drop
    have hSp2 : ∀ y ∈ S.drop m, 0 ≤ y ∧ y ≤ 100000 := fun y hy => hSp y (List.mem_of_mem_drop hy)
    have hQR := intRows_len Q
    have hQ0 := (sumQ_bd hQp).1
    clear hSp hQ
    repeat' (first | refine goH ?_ | refine goV ?_ | refine goB (fun b => ?_) | refine goC (fun ad cap => ?_) | refine goI ?_ | (refine Cw.k_cond ?_; first | (refine Cw.cond_dec rfl ?_ ?_ <;> intro hc <;> try omega) | refine Cw.cond_bool rfl ?_ ?_ <;> intro hc) | refine goR ?_ | refine goP ?_ | apply PSeq.cons | apply PSeq.yes rfl rfl rfl | exact goW | fail)
    rw [hQr]
    refine Cw.loopI [(0, _), (2, _), (13, _), (15, _), (16, _), (53, _), (54, _), (55, _), (115, _), (116, _)] _ (fun q e c => ∃ (i : Nat) (p2 : Int), q = f - i ∧ (i ≤ f ∧ p2 = p - sumQ (Q.take i)) ∧ e = [(10, .int p2), (117, .int i)] ∧ c = []) ⟨_, _, _, (Ent.mkP goSub goPm), 0, p, rfl, ⟨by omega, by simp [sumQ]⟩, rfl, rfl⟩ ?_
    rintro _ _ _ ⟨i, p2, rfl, ⟨hi, hp2⟩, rfl, rfl⟩
    have hti := sumQ_bd (l := Q.take i) (fun y hy => hQp y (List.mem_of_mem_take hy))
    have htl : (Q.take i).length ≤ 20 := by rw [List.length_take]; omega
    by_cases hif : i < f
    ·obtain ⟨y, hy⟩ := at_lt (l := Q) (k := i) (by omega)
     have hyb := hQp y (List.mem_of_getElem? hy)
     have r1 := intRows_at hy
     have hnx := sumQ_take hy
     repeat' (first | refine goH ?_ | refine goV ?_ | refine goB (fun b => ?_) | refine goC (fun ad cap => ?_) | refine goI ?_ | (refine Cw.k_cond ?_; first | (refine Cw.cond_dec rfl ?_ ?_ <;> intro hc <;> try omega) | refine Cw.cond_bool rfl ?_ ?_ <;> intro hc) | refine goR ?_ | refine goP ?_ | apply PSeq.cons | apply PSeq.yes rfl rfl rfl | exact goW | fail)
     exact ⟨_, _, _, (Ent.mk goSub goTk), ⟨i + 1, p2 - y, rfl, ⟨by omega, by omega⟩, rfl, rfl⟩, by omega⟩
    ·rw [List.take_of_length_le (by omega)] at hp2
     repeat' (first | refine goH ?_ | refine goV ?_ | refine goB (fun b => ?_) | refine goC (fun ad cap => ?_) | refine goI ?_ | (refine Cw.k_cond ?_; first | (refine Cw.cond_dec rfl ?_ ?_ <;> intro hc <;> try omega) | refine Cw.cond_bool rfl ?_ ?_ <;> intro hc) | refine goR ?_ | refine goP ?_ | apply PSeq.cons | apply PSeq.yes rfl rfl rfl | exact goW | fail)
     rw [hDr]
     exact ⟨_, _, _, (Ent.mk goSub goTk), ⟨S.drop m, p2, _, rfl, ⟨rfl, by omega, by omega, by omega, hSp2, by omega⟩, rfl, rfl⟩, by omega⟩
   ·rw [dOff_end (f := f) (show S.length < m by omega)] at hD
    repeat' (first | refine goH ?_ | refine goV ?_ | refine goB (fun b => ?_) | refine goC (fun ad cap => ?_) | refine goI ?_ | (refine Cw.k_cond ?_; first | (refine Cw.cond_dec rfl ?_ ?_ <;> intro hc <;> try omega) | refine Cw.cond_bool rfl ?_ ?_ <;> intro hc) | refine goR ?_ | refine goP ?_ | apply PSeq.cons | apply PSeq.yes rfl rfl rfl | exact goW | fail)
    exact ⟨_, _, _, (Ent.mk goSub goTk), ⟨k + 1, p, K2, rows2, n3, _, _, rfl, ⟨by omega, by rw [hZ2, hD, Int.sub_zero], hrows2, hrn2, by omega, by omega, by omega⟩, rfl, rfl⟩, by omega⟩
  ·rw [if_neg (by omega)] at hZ2
   repeat' (first | refine goH ?_ | refine goV ?_ | refine goB (fun b => ?_) | refine goC (fun ad cap => ?_) | refine goI ?_ | (refine Cw.k_cond ?_; first | (refine Cw.cond_dec rfl ?_ ?_ <;> intro hc <;> try omega) | refine Cw.cond_bool rfl ?_ ?_ <;> intro hc) | (refine Ops.k_calla ?_; first | (refine Ops.k_callf 29 ?_; (refine Ops.call kS (Evs.cons rfl (Evs.cons rfl Evs.nil)) goPm rfl ?_; rintro r cs' ⟨rfl, rfl⟩))) | refine goR ?_ | refine goP ?_ | apply PSeq.cons | apply PSeq.yes rfl rfl rfl | exact goW | fail)
   obtain ⟨K2, hK2⟩ : ∃ K2, K2 = K := ⟨_, rfl⟩
   obtain ⟨rows2, hr22⟩ : ∃ rows2, rows2 = rows := ⟨_, rfl⟩
   have hrows2 : rows2 = strRows K2 := by rw [hr22, hK2, hrows]
   obtain ⟨n3, hn3⟩ : ∃ n3, n3 = n := ⟨_, rfl⟩
   have hrn2 : rows2.length = n3 := by rw [hr22, hrn, hn3]
   rw [← hr22, ← hn3]
   rw [← hK2] at hZ2
   refine Cw.ent (Ent.settle (s := 16) rfl goPk (by omega)) ?_
   clear kS
   refine Cw.loopI [(0, _), (2, _), (13, _), (15, _), (53, _), (54, _), (55, _)] _ (fun q e c => ∃ (S : List Int) (p : Int) (r5 : List (List Tr)), q = S.length ∧ (r5 = intRows S ∧ P - dOff m f S0 = p - dOff m f S ∧ p ≤ P ∧ P - sumQ S0 ≤ p - sumQ S ∧ (∀ y ∈ S, 0 ≤ y ∧ y ≤ 100000) ∧ S.length ≤ 10000) ∧ e = [(10, .int p), (16, .sl 1 r5)] ∧ c = [])
    ⟨_, _, _, (Ent.mkP goSub goPm), S0, P, _, rfl, ⟨rfl, rfl, by omega, by omega, hSp, by omega⟩, rfl, rfl⟩ ?_
   clear hSp
   rintro _ _ _ ⟨S, p, _, rfl, ⟨rfl, hD, hpP, hlo, hSp, hSl⟩, rfl, rfl⟩
   have hSr := intRows_len S
   have hsS := sumQ_bd hSp
   by_cases hml : m ≤ S.length
   ·obtain ⟨Q, hQ⟩ : ∃ Q, Q = (S.take m).drop (m - f) := ⟨_, rfl⟩
    have hQl : Q.length = f := by rw [hQ, List.length_drop, List.length_take]; omega
    have hQp : ∀ y ∈ Q, 0 ≤ y ∧ y ≤ 100000 := fun y hy => by rw [hQ] at hy; exact hSp y (List.mem_of_mem_take (List.mem_of_mem_drop hy))
    have hQr : ((intRows S).take ((m : Nat) : Int).toNat).drop (((m : Nat) : Int) - ((f : Nat) : Int)).toNat = intRows Q := by
     rw [hQ, intRows_takeK, intRows_dropK, show (((m : Nat) : Int) - ((f : Nat) : Int)).toNat = m - f by omega]
     rfl
    have hDr : (intRows S).drop ((m : Nat) : Int).toNat = intRows (S.drop m) := by rw [intRows_dropK]; rfl
    have hstep := dOff_step (f := f) (show 1 ≤ m by omega) hml
    rw [← hQ] at hstep
    have hsum : sumQ (S.take m) + sumQ (S.drop m) = sumQ S := by rw [← sumQ_app, List.take_append_drop]
    have hsum2 : sumQ ((S.take m).take (m - f)) + sumQ Q = sumQ (S.take m) := by rw [hQ, ← sumQ_app, List.take_append_drop]
    have hsum3 := (sumQ_bd (l := (S.take m).take (m - f)) (fun y hy => hSp y (List.mem_of_mem_take (List.mem_of_mem_take hy)))).1
    have hdl2 : (S.drop m).length = S.length - m := List.length_drop
    have hSp2 : ∀ y ∈ S.drop m, 0 ≤ y ∧ y ≤ 100000 := fun y hy => hSp y (List.mem_of_mem_drop hy)
    have hQR := intRows_len Q
    have hQ0 := (sumQ_bd hQp).1
    clear hSp hQ
    repeat' (first | refine goH ?_ | refine goV ?_ | refine goB (fun b => ?_) | refine goC (fun ad cap => ?_) | refine goI ?_ | (refine Cw.k_cond ?_; first | (refine Cw.cond_dec rfl ?_ ?_ <;> intro hc <;> try omega) | refine Cw.cond_bool rfl ?_ ?_ <;> intro hc) | refine goR ?_ | refine goP ?_ | apply PSeq.cons | apply PSeq.yes rfl rfl rfl | exact goW | fail)
    rw [hQr]
    refine Cw.loopI [(0, _), (2, _), (13, _), (15, _), (16, _), (53, _), (54, _), (55, _), (115, _), (116, _)] _ (fun q e c => ∃ (i : Nat) (p2 : Int), q = f - i ∧ (i ≤ f ∧ p2 = p - sumQ (Q.take i)) ∧ e = [(10, .int p2), (117, .int i)] ∧ c = []) ⟨_, _, _, (Ent.mkP goSub goPm), 0, p, rfl, ⟨by omega, by simp [sumQ]⟩, rfl, rfl⟩ ?_
    rintro _ _ _ ⟨i, p2, rfl, ⟨hi, hp2⟩, rfl, rfl⟩
    have hti := sumQ_bd (l := Q.take i) (fun y hy => hQp y (List.mem_of_mem_take hy))
    have htl : (Q.take i).length ≤ 20 := by rw [List.length_take]; omega
    by_cases hif : i < f
    ·obtain ⟨y, hy⟩ := at_lt (l := Q) (k := i) (by omega)
     have hyb := hQp y (List.mem_of_getElem? hy)
     have r1 := intRows_at hy
     have hnx := sumQ_take hy
     repeat' (first | refine goH ?_ | refine goV ?_ | refine goB (fun b => ?_) | refine goC (fun ad cap => ?_) | refine goI ?_ | (refine Cw.k_cond ?_; first | (refine Cw.cond_dec rfl ?_ ?_ <;> intro hc <;> try omega) | refine Cw.cond_bool rfl ?_ ?_ <;> intro hc) | refine goR ?_ | refine goP ?_ | apply PSeq.cons | apply PSeq.yes rfl rfl rfl | exact goW | fail)
     exact ⟨_, _, _, (Ent.mk goSub goTk), ⟨i + 1, p2 - y, rfl, ⟨by omega, by omega⟩, rfl, rfl⟩, by omega⟩
    ·rw [List.take_of_length_le (by omega)] at hp2
     repeat' (first | refine goH ?_ | refine goV ?_ | refine goB (fun b => ?_) | refine goC (fun ad cap => ?_) | refine goI ?_ | (refine Cw.k_cond ?_; first | (refine Cw.cond_dec rfl ?_ ?_ <;> intro hc <;> try omega) | refine Cw.cond_bool rfl ?_ ?_ <;> intro hc) | refine goR ?_ | refine goP ?_ | apply PSeq.cons | apply PSeq.yes rfl rfl rfl | exact goW | fail)
     rw [hDr]
     exact ⟨_, _, _, (Ent.mk goSub goTk), ⟨S.drop m, p2, _, rfl, ⟨rfl, by omega, by omega, by omega, hSp2, by omega⟩, rfl, rfl⟩, by omega⟩
   ·rw [dOff_end (f := f) (show S.length < m by omega)] at hD
    repeat' (first | refine goH ?_ | refine goV ?_ | refine goB (fun b => ?_) | refine goC (fun ad cap => ?_) | refine goI ?_ | (refine Cw.k_cond ?_; first | (refine Cw.cond_dec rfl ?_ ?_ <;> intro hc <;> try omega) | refine Cw.cond_bool rfl ?_ ?_ <;> intro hc) | refine goR ?_ | refine goP ?_ | apply PSeq.cons | apply PSeq.yes rfl rfl rfl | exact goW | fail)
    exact ⟨_, _, _, (Ent.mk goSub goTk), ⟨k + 1, p, K2, rows2, n3, _, _, rfl, ⟨by omega, by rw [hZ2, hD, Int.sub_zero], hrows2, hrn2, by omega, by omega, by omega⟩, rfl, rfl⟩, by omega⟩
end Lg
end
section
set_option linter.all false
set_option maxRecDepth 100000
set_option maxHeartbeats 1000000
namespace Lg
open Go Go.Proofs

/-! ### TopMarkets in plain terms: the price -/
def wrsT : List Wr := [⟨⟨#[98, 97, 114]⟩, 50, ⟨#[115, 119, 101, 101, 116]⟩⟩, ⟨⟨#[110, 117, 116, 115]⟩, 70, ⟨#[115, 97, 108, 116]⟩⟩]
def dlsT : List Dl := [⟨⟨#[116, 119, 111]⟩, ⟨#[115, 119, 101, 101, 116]⟩, 2, 1⟩]
theorem dealT : dealE wrsT dlsT = 0 := by decide +kernel
theorem bskT {n : Int} (hn : 1 ≤ n ∧ n ≤ 3) : bskE wrsT [⟨⟨#[98, 97, 114]⟩, n⟩] = 0 := by
 rcases (show n = 1 ∨ n = 2 ∨ n = 3 by omega) with rfl | rfl | rfl <;> decide +kernel
def prT (n : Int) : Int := if n = 3 then 100 else 50
theorem prT_bd (n : Int) : 1 ≤ prT n ∧ prT n ≤ 1000 := by unfold prT; split <;> omega
theorem prcT {n : Int} (hn : 1 ≤ n ∧ n ≤ 3) : (prcP wrsT dlsT [⟨⟨#[98, 97, 114]⟩, n⟩]).1 = prT n := by
 have hs : ∀ l : List Int, (l.Pairwise fun a b => b ≤ a) → hiLo l = l := fun l h => (hiLo_uniq (List.Perm.refl _) h).symm
 have e : (prcP wrsT dlsT [⟨⟨#[98, 97, 114]⟩, n⟩]).1 = totG wrsT [⟨⟨#[98, 97, 114]⟩, n⟩] - dOff 2 1 (hiLo (unitsG wrsT ⟨#[115, 119, 101, 101, 116]⟩ [⟨⟨#[98, 97, 114]⟩, n⟩])) := rfl
 rw [e]
 rcases (show n = 1 ∨ n = 2 ∨ n = 3 by omega) with rfl | rfl | rfl
 ·rw [show unitsG wrsT ⟨#[115, 119, 101, 101, 116]⟩ [⟨⟨#[98, 97, 114]⟩, 1⟩] = [50] by decide +kernel, hs _ (by simp)]
  decide +kernel
 ·rw [show unitsG wrsT ⟨#[115, 119, 101, 101, 116]⟩ [⟨⟨#[98, 97, 114]⟩, 2⟩] = [50, 50] by decide +kernel, hs _ (by simp)]
  decide +kernel
 ·rw [show unitsG wrsT ⟨#[115, 119, 101, 101, 116]⟩ [⟨⟨#[98, 97, 114]⟩, 3⟩] = [50, 50, 50] by decide +kernel, hs _ (by simp)]
  decide +kernel
end Lg
end
section
set_option linter.all false
set_option maxRecDepth 100000
set_option maxHeartbeats 8000000
namespace Lg
open Go Go.Proofs

/-! ### an order is a permutation -/
def idL (n : Nat) : List Int := (List.range n).map fun k : Nat => (k : Int)
theorem idL_succ (k : Nat) : idL (k + 1) = idL k ++ [(k : Int)] := by unfold idL; rw [List.range_succ, List.map_append]; rfl
theorem idL_len (k : Nat) : (idL k).length = k := by unfold idL; rw [List.length_map, List.length_range]
theorem idL_mem {n : Nat} {x : Int} (h : x ∈ idL n) : 0 ≤ x ∧ x < n := by
 unfold idL at h
 obtain ⟨k, hk, rfl⟩ := List.mem_map.1 h
 have := List.mem_range.1 hk
 omega
theorem swap_permP {l : List Int} {i j : Nat} {x y : Int} (hx : l[i]? = some x) (hy : l[j]? = some y) : ((l.set i y).set j x).Perm l := by
 obtain ⟨hi, ex⟩ := List.getElem?_eq_some_iff.1 hx
 obtain ⟨hj, ey⟩ := List.getElem?_eq_some_iff.1 hy
 have := @List.set_set_perm _ l i j hi hj
 rw [ex, ey] at this
 exact this
theorem intRowsP_nil : intRows [] = [] := rfl
theorem intRowsP_snoc (l : List Int) (x : Int) : intRows l ++ [[Tr.int x]] = intRows (l ++ [x]) := by rw [intRows_app]; rfl
theorem intP_set (l : List Int) (i : Nat) (v : Int) : (intRows l).set i [Tr.int v] = intRows (l.set i v) := by
 unfold intRows
 rw [List.map_set]
attribute [local irreducible] intRows idL
end Lg
end
