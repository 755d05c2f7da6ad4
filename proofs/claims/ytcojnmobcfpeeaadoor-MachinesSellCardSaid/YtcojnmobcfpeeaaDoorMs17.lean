/- A part of the proof of a law of this seat: it adds no condition. By an AI agent. -/
import Derived.Test.YtcojnmobcfpeeaaDoorMs16
set_option linter.all false
set_option maxRecDepth 100000
set_option maxHeartbeats 8000000
namespace Lg
open Go Go.Proofs

attribute [local irreducible] intRows tknT tknR coinsL subT putC
theorem pressR_ok {b bj bs : Nat} {aT aS aE aI aO aF aC : Option Addr} {nT cT nS cS nE cE nI cI nO cO nF cF nC cC : Nat} {K : List Int} {G x : Int} (T : List Tube) (L : List SlotM) (J : List Bool) (E : List Int) (kv : KB) (key : ByteArray) (ho : TbOk T) (hnT : nT = T.length) (hnS : nS = L.length) (hnE : nE = E.length) (hl : L.length ≤ 1000)
  (hE : E.length ≤ 20000) (hEb : ∀ v ∈ E, 0 ≤ v ∧ v ≤ 20000) (hS : ∀ x ∈ L, 1 ≤ x.price ∧ x.price ≤ 20000 ∧ 0 ≤ x.cnt ∧ x.cnt ≤ 1000) (hr : 0 ≤ sumF id E ∧ sumF id E ≤ 20000) (hx : 0 ≤ x ∧ x ≤ 1000000000000) (hJM : JM kv L J) (Gm : List Gr) (LI LO : List Int) (k : Nat) (d : SlotM) (hnI : nI = LI.length) (hnO : nO = LO.length) (hLI : LI.length ≤ 100000) (hLO : LO.length ≤ 100000) (hgl : (gval key Gm).length ≤ 100000)
  (hk : slotN L key = some k) (hd : L[k]? = some d) (hok0 : prsE L J (some k) T E (sumF id E) = 0) :
  Spec Tryd.prog 16 [.ptr b, .str key] [mR b aT nT cT K aS nS cS G bj aE nE cE x bs aI nI cI aO nO cO aF nF cF aC nC cC, ownT aT cT T, ownS aS cS L, Chunk.mp Value.string bj kv, ownI aE cE E, Chunk.mp Value.string bs (gkv Gm), Chunk.bun (gch Gm), ownI aI cI LI, ownI aO cO LO] (fun y cs => y = .tup [.agg [.str d.prod, .int d.price, .ints (coinsL (tknT T E) (sumF id E - d.price).toNat)], .int 0] ∧
   ∃ (aT' aI' aO' : Option Addr) (cT' cI' cO' : Nat) (G2 : List Gr), (gval key G2 = gval key Gm ++ [d.price] ∧ ∀ j, j ≠ key → gval j G2 = gval j Gm) ∧ cs = [mR b aT' T.length cT' K aS nS cS G bj none 0 0 (x + tknR T E) bs aI' (LI.length + 1) cI' aO' (LO.length + 1) cO' aF nF cF aC nC cC, ownT aT' cT' (subT (tknT T E) (coinsL (tknT T E) (sumF id E - d.price).toNat)), ownS aS cS (L.set k { d with cnt := d.cnt - 1 }), Chunk.mp Value.string bj kv, Chunk.mp Value.string bs (gkv G2), Chunk.bun (gch G2), ownI aI' cI' (LI ++ [sumF id E]), ownI aO' cO' (LO ++ [sumF id E - d.price])]) := by
 have kS : Spec Tryd.prog 55 [.ptr b, .str key] [mR b aT nT cT K aS nS cS G bj aE nE cE x bs aI nI cI aO nO cO aF nF cF aC nC cC, ownS aS cS L] (fun y cs => y = .int (ixN (slotN L key)) ∧ cs = [mR b aT nT cT K aS nS cS G bj aE nE cE x bs aI nI cI aO nO cO aF nF cF aC nC cC, ownS aS cS L]) := slotR_fn L key hl hnS
 have hSr : (L.map SlotM.row).length = nS := by rw [List.length_map, hnS]
 have hEr : (intRows E).length = nE := by rw [intRows_len, hnE]
 have kM := sumO_fn (a := aE) (n := nE) (c := cE) E hnE (by omega) (fun v hv => by have := hEb v hv; omega)
 have hok := tkn_ok ho hEb
 have hTl : (tknT T E).length = T.length := by
  have hAl : (tknA T E).1.length = T.length := by unfold tknA; rw [cntA_len, List.length_replicate]
  with_unfolding_all unfold tknT
  exact stlT_len _ _ hAl
 have hput := put_tkn (fun d hd => ⟨(ho.cnt d hd).1, (ho.cnt d hd).2.1⟩) E x
 have kCl := cloneOO_tubeP (ad := aT) (n := nT) (cap := cT) (T.map Tube.row) (by rw [List.length_map, hnT]) (by rw [List.length_map]; have := ho.len; omega)
 have hTb : ∀ d ∈ T, 0 ≤ d.cnt ∧ d.cnt ≤ d.most ∧ d.most ≤ 1000 := ho.cnt
 have hTlen := ho.len
 generalize sumF id E = r at *
 obtain ⟨_, _, hpk, hkl⟩ := findN_some (p := slotP key) hk
 have hkey : d.key = key := by
  obtain ⟨d', hd', hpk, _⟩ := findN_some (p := slotP key) hk
  rw [hd] at hd'
  cases hd'
  unfold slotP at hpk
  simpa using hpk
 rw [hk] at kS
 unfold ixN at kS
 simp only at kS
 have hp := hS d (List.mem_of_getElem? hd)
 have hmr := hJM k d hd
 rw [hkey] at hmr
 obtain ⟨v0, hv0⟩ : ∃ v0, v0 = J.getD k false := ⟨_, rfl⟩
 rw [← hv0] at hmr
 have hrow : (L.map SlotM.row)[((k : Nat) : Int).toNat]? = some [.str d.key, .str d.prod, .int d.price, .int d.most, .int d.cnt] := by rw [Int.toNat_natCast]; exact rows_at hd
 have hAt := tAtS_eq hd
 unfold prsE at hok0
 simp only at hok0
 rw [← hv0, hAt] at hok0
 by_cases h1 : v0 = true ∨ d.cnt = 0
 ·rw [if_pos h1] at hok0; exact absurd hok0 (by decide)
 rw [if_neg h1] at hok0
 by_cases h2 : r < d.price
 ·rw [if_pos h2] at hok0; exact absurd hok0 (by decide)
 rw [if_neg h2] at hok0
 by_cases hyes : payK nev (tknT T E) (tknT T E).length (r - d.price).toNat < nev
 rotate_left
 ·rw [if_neg hyes] at hok0; exact absurd hok0 (by decide)
 obtain ⟨h1a, h1b⟩ := not_or.1 h1
 have hvf : v0 = false := by simpa using h1a
 subst hvf
 have kP := fun (ad : Option Addr) (cap : Nat) => changeL_yes (ad := ad) (cap := cap) (n := nT) (tknT T E) hok (by omega) (r - d.price).toNat (by omega) hyes
 rw [Int.toNat_of_nonneg (by omega)] at kP
 have hCl := coinsL_len (tknT T E) (r - d.price).toNat
 have hCb := fun (k : Nat) (n : Int) (d2 : Tube) => coinsL_bd hok (a := (r - d.price).toNat) (k := k) (n := n) (d := d2)
 have hcn := hok.cnt
 have eS : (L.map SlotM.row).set ((k : Nat) : Int).toNat ([Tr.str d.key, Tr.str d.prod, Tr.int d.price, Tr.int d.most, Tr.int d.cnt].set (0 + 4) (Tr.int (d.cnt - 1))) = (L.set k { d with cnt := d.cnt - 1 }).map SlotM.row := by rw [Int.toNat_natCast]; exact slotRow_set L k { d with cnt := d.cnt - 1 }
 have hSr2 : ((L.set k { d with cnt := d.cnt - 1 }).map SlotM.row).length = nS := by rw [List.length_map, List.length_set, hnS]
 have hrowS2 : ((L.set k { d with cnt := d.cnt - 1 }).map SlotM.row)[((k : Nat) : Int).toNat]? = some [.str d.key, .str d.prod, .int d.price, .int d.most, .int (d.cnt - 1)] := by rw [Int.toNat_natCast]; exact rows_at (f := SlotM.row) (x := { d with cnt := d.cnt - 1 }) (by rw [List.getElem?_set_self (by omega)])
 clear hok hok0 hyes hv0
 generalize tknT T E = W1 at *
 generalize x + tknR T E = z1 at *
 obtain ⟨C, hC⟩ : ∃ C, C = coinsL W1 (r - d.price).toNat := ⟨_, rfl⟩
 rw [← hC] at kP hCl hCb ⊢
 clear hC
 have hCr : (intRows C).length = T.length := by rw [intRows_len, hCl, hTl]
 generalize b = bm at *
 refine Spec.body Tryd.func16 rfl rfl (Tryd.ntmps16) rfl fun w0 own0 M => ?_
 repeat' (first | refine goH ?_ | (refine Ops.k_lookup ?_; first | (refine Ops.lookup rfl rfl goPk rfl ?_; rw [hmr])) | refine goV ?_ | refine goB (fun b => ?_) | refine goC (fun ad cap => ?_) | (refine Ops.k_nilCheck ?_; first | refine Ops.nilCheck_eptr rfl rfl ?_) | refine goG ?_ | (refine Ops.k_guard ?_; first | (refine Ops.guard_dec rfl rfl ?_ ?_ <;> intro hc <;> try omega) | refine Ops.guard_split rfl rfl ?_ ?_ <;> intro hc) | refine goI ?_ | (refine Cw.k_cond ?_; first | (refine Cw.cond_dec rfl ?_ ?_ <;> intro hc <;> try omega) | refine Cw.cond_bool rfl ?_ ?_ <;> intro hc) | exact OpV.w (OpV.nilCheck_eptr rfl) | (refine Ops.k_calla ?_; first | (refine Ops.k_callf 55 ?_; refine Ops.callS kS (Evs.cons rfl (Evs.cons rfl Evs.nil)) goPm rfl ?_) | (refine Ops.k_callf 51 ?_; refine Ops.callS kM (Evs.cons rfl Evs.nil) goPm rfl ?_)) | (apply OpW.k_call; first | (apply OpW.k_callf 55; exact OpW.callS kS (Evs.cons rfl (Evs.cons rfl Evs.nil)) goPm) | (apply OpW.k_callf 51; exact OpW.callS kM (Evs.cons rfl Evs.nil) goPm)) | fail)
 first | refine Cw.region_YP (fun ξ S => Chunk.box b 44 (List.map Tr.raw [Value.string ByteArray.empty, Value.int IntKind.i64 0, Value.slice none 0 0]) :: Chunk.box bm 85 [Tr.raw (.slice aT nT cT), .ints K, Tr.raw (.slice aS nS cS), .int G, Tr.raw (.map (some bj)), Tr.raw (.slice aE nE cE), .int x, Tr.raw (.map (some bs)), Tr.raw (.slice aI nI cI), Tr.raw (.slice aO nO cO), Tr.raw (.slice aF nF cF), Tr.raw (.slice aC nC cC)] :: Chunk.own aT cT 3 65 (T.map Tube.row) :: Chunk.own aS cS 5 63 (L.map SlotM.row) :: Chunk.mp Value.string bj kv :: Chunk.own aE cE 1 3 (intRows E) :: Chunk.mp Value.string bs (gkv Gm) :: Chunk.bun (gch Gm) :: Chunk.own aI cI 1 3 (intRows LI) :: Chunk.own aO cO 1 3 (intRows LO) :: (stg (S 5) [] [ownV (ξ 5) 3 65 (T.map Tube.row)] ++ [])) rfl (by decide +kernel) rfl ((fun (ξ : Nat → Value) (S : Nat → Bool) => Chunk.box b 44 (List.map Tr.raw [Value.string ByteArray.empty, Value.int IntKind.i64 0, Value.slice none 0 0]) :: Chunk.box bm 85 [Tr.raw (.slice aT nT cT), .ints K, Tr.raw (.slice aS nS cS), .int G, Tr.raw (.map (some bj)), Tr.raw (.slice aE nE cE), .int x, Tr.raw (.map (some bs)), Tr.raw (.slice aI nI cI), Tr.raw (.slice aO nO cO), Tr.raw (.slice aF nF cF), Tr.raw (.slice aC nC cC)] :: Chunk.own aT cT 3 65 (T.map Tube.row) :: Chunk.own aS cS 5 63 (L.map SlotM.row) :: Chunk.mp Value.string bj kv :: Chunk.own aE cE 1 3 (intRows E) :: Chunk.mp Value.string bs (gkv Gm) :: Chunk.bun (gch Gm) :: Chunk.own aI cI 1 3 (intRows LI) :: Chunk.own aO cO 1 3 (intRows LO) :: (stg (S 5) [] [ownV (ξ 5) 3 65 (T.map Tube.row)] ++ [])) (fun _ => undef) (fun _ => false)) (by simp only [upd_same, updD_same, upd_ne, updD_ne, ne_eq, Nat.reduceEqDiff, not_false_eq_true, stg_t, stg_f, vAd_s, vCap_s, blk_p, List.cons_append, List.nil_append, b2n_t, b2n_f]; exact goXm) (fun _ => rfl) ?_ | fail
 apply YSeq.w (by intro _ _ _; rfl)
 ·intro ξ S h1 h2 h3 h4
  have hN0_1 := closed_false h1 h3 (k := 1) rfl (by decide)
  have hN0_2 := closed_false hN0_1 h3 (k := 2) rfl (by decide)
  have hN0_3 := closed_false hN0_2 h3 (k := 3) rfl (by decide)
  have hN0_4 := closed_false hN0_3 h3 (k := 4) rfl (by decide)
  have hN0_5 := closed_false hN0_4 h3 (k := 5) rfl (by decide)
  try simp only [upd_same, updD_same, upd_ne, updD_ne, ne_eq, Nat.reduceEqDiff, not_false_eq_true, stg_t, stg_f, vAd_s, vCap_s, blk_p, List.cons_append, List.nil_append, b2n_t, b2n_f, hN0_5]
  exact goW
 ·intro ξ v; rfl
 ·intro ξ k v S h3 hn hk
  first
  |rfl
 apply YSeq.w (by intro _ _ _; rfl)
 ·intro ξ S h1 h2 h3 h4
  have hN1_2 := closed_false h1 h3 (k := 2) rfl (by decide)
  have hN1_3 := closed_false hN1_2 h3 (k := 3) rfl (by decide)
  have hN1_4 := closed_false hN1_3 h3 (k := 4) rfl (by decide)
  have hN1_5 := closed_false hN1_4 h3 (k := 5) rfl (by decide)
  try simp only [upd_same, updD_same, upd_ne, updD_ne, ne_eq, Nat.reduceEqDiff, not_false_eq_true, stg_t, stg_f, vAd_s, vCap_s, blk_p, List.cons_append, List.nil_append, b2n_t, b2n_f, hN1_5]
  exact goW
 ·intro ξ v; rfl
 ·intro ξ k v S h3 hn hk
  first
  |rfl
 apply YSeq.w (by intro _ _ _; rfl)
 ·intro ξ S h1 h2 h3 h4
  have hN2_3 := closed_false h1 h3 (k := 3) rfl (by decide)
  have hN2_4 := closed_false hN2_3 h3 (k := 4) rfl (by decide)
  have hN2_5 := closed_false hN2_4 h3 (k := 5) rfl (by decide)
  try simp only [upd_same, updD_same, upd_ne, updD_ne, ne_eq, Nat.reduceEqDiff, not_false_eq_true, stg_t, stg_f, vAd_s, vCap_s, blk_p, List.cons_append, List.nil_append, b2n_t, b2n_f, hN2_5]
  exact goW
 ·intro ξ v; rfl
 ·intro ξ k v S h3 hn hk
  first
  |rfl
 apply YSeq.w (by intro _ _ _; rfl)
 ·intro ξ S h1 h2 h3 h4
  have hN3_4 := closed_false h1 h3 (k := 4) rfl (by decide)
  have hN3_5 := closed_false hN3_4 h3 (k := 5) rfl (by decide)
  try simp only [upd_same, updD_same, upd_ne, updD_ne, ne_eq, Nat.reduceEqDiff, not_false_eq_true, stg_t, stg_f, vAd_s, vCap_s, blk_p, List.cons_append, List.nil_append, b2n_t, b2n_f, hN3_5]
  exact goW
 ·intro ξ v; rfl
 ·intro ξ k v S h3 hn hk
  first
  |rfl
 apply YSeq.w (by intro _ _ _; rfl)
 ·intro ξ S h1 h2 h3 h4
  have hN4_5 := closed_false h1 h3 (k := 5) rfl (by decide)
  try simp only [upd_same, updD_same, upd_ne, updD_ne, ne_eq, Nat.reduceEqDiff, not_false_eq_true, stg_t, stg_f, vAd_s, vCap_s, blk_p, List.cons_append, List.nil_append, b2n_t, b2n_f, hN4_5]
  exact goW
 ·intro ξ v; rfl
 ·intro ξ k v S h3 hn hk
  first
  |rfl
 apply YSeq.callM (nT)
 ·intro ξ S h1 h2 h3 h4
  simp only [upd_same, updD_same, upd_ne, updD_ne, ne_eq, Nat.reduceEqDiff, not_false_eq_true, stg_t, stg_f, vAd_s, vCap_s, blk_p, List.cons_append, List.nil_append, b2n_t, b2n_f, h1]
  refine ⟨_, _, _, _, _, kCl, (Evs.cons rfl Evs.nil), goXp, fun ad' cap' => ?_⟩
  try simp only [upd_same, updD_same, upd_ne, updD_ne, ne_eq, Nat.reduceEqDiff, not_false_eq_true, stg_t, stg_f, vAd_s, vCap_s, blk_p, List.cons_append, List.nil_append, b2n_t, b2n_f, h1]
  exact goXm
 apply YSeq.w (by intro _ _ _; rfl)
 ·intro ξ S h1 h2 h3 h4
  try simp only [upd_same, updD_same, upd_ne, updD_ne, ne_eq, Nat.reduceEqDiff, not_false_eq_true, stg_t, stg_f, vAd_s, vCap_s, blk_p, List.cons_append, List.nil_append, b2n_t, b2n_f]
  exact goW
 ·intro ξ v; rfl
 ·intro ξ k v S h3 hn hk
  first
  |rfl
 apply YSeq.w (by intro _ _ _; rfl)
 ·intro ξ S h1 h2 h3 h4
  try simp only [upd_same, updD_same, upd_ne, updD_ne, ne_eq, Nat.reduceEqDiff, not_false_eq_true, stg_t, stg_f, vAd_s, vCap_s, blk_p, List.cons_append, List.nil_append, b2n_t, b2n_f]
  exact goW
 ·intro ξ v; rfl
 ·intro ξ k v S h3 hn hk
  first
  |rfl
 apply YSeq.w (by intro _ _ _; rfl)
 ·intro ξ S h1 h2 h3 h4
  try simp only [upd_same, updD_same, upd_ne, updD_ne, ne_eq, Nat.reduceEqDiff, not_false_eq_true, stg_t, stg_f, vAd_s, vCap_s, blk_p, List.cons_append, List.nil_append, b2n_t, b2n_f]
  exact goW
 ·intro ξ v; rfl
 ·intro ξ k v S h3 hn hk
  first
  |rfl
 apply YSeq.w (by intro _ _ _; rfl)
 ·intro ξ S h1 h2 h3 h4
  try simp only [upd_same, updD_same, upd_ne, updD_ne, ne_eq, Nat.reduceEqDiff, not_false_eq_true, stg_t, stg_f, vAd_s, vCap_s, blk_p, List.cons_append, List.nil_append, b2n_t, b2n_f]
  exact goW
 ·intro ξ v; rfl
 ·intro ξ k v S h3 hn hk
  first
  |rfl
 apply YSeq.w (by intro _ _ _; rfl)
 ·intro ξ S h1 h2 h3 h4
  have hY10_5 : S 5 = true := h2 5 (by decide)
  try simp only [upd_same, updD_same, upd_ne, updD_ne, ne_eq, Nat.reduceEqDiff, not_false_eq_true, stg_t, stg_f, vAd_s, vCap_s, blk_p, List.cons_append, List.nil_append, b2n_t, b2n_f, hY10_5]
  exact goW
 ·intro ξ v; rfl
 ·intro ξ k v S h3 hn hk
  first
  |rfl
  |skip
   have hY10_5 : S 5 = true := h3 10 _ rfl hn 5 (by decide)
   simp only [upd_S hY10_5 hk]
 apply YSeq.w (by intro _ _ _; rfl)
 ·intro ξ S h1 h2 h3 h4
  have hY11_5 : S 5 = true := h2 5 (by decide)
  try simp only [upd_same, updD_same, upd_ne, updD_ne, ne_eq, Nat.reduceEqDiff, not_false_eq_true, stg_t, stg_f, vAd_s, vCap_s, blk_p, List.cons_append, List.nil_append, b2n_t, b2n_f, hY11_5]
  exact goW
 ·intro ξ v; rfl
 ·intro ξ k v S h3 hn hk
  first
  |rfl
  |skip
   have hY11_5 : S 5 = true := h3 11 _ rfl hn 5 (by decide)
   simp only [upd_S hY11_5 hk]
 refine YSeq.nil fun ξ hf => ?_
 refine ⟨[(0, _), (1, _), (4, _), (6, _), (7, _), (8, _), (9, _), (10, _)], _, Ent.trans (Ent.eqc rfl (by first | (simp only [upd_same, updD_same, upd_ne, updD_ne, ne_eq, Nat.reduceEqDiff, not_false_eq_true, stg_t, stg_f, vAd_s, vCap_s, blk_p, List.cons_append, List.nil_append, b2n_t, b2n_f, ownV, slV, ptV] <;> rfl) | rfl)) (Ent.sub goSub), ?_⟩
 clear hf
 generalize vAd (ξ 5) = ad62
 generalize vCap (ξ 5) = cap62
 refine Then.norm ?_
 repeat' (first | refine goH ?_ | refine goV ?_ | refine goB (fun b => ?_) | refine goC (fun ad cap => ?_) | refine goG ?_ | (refine Ops.k_guard ?_; first | (refine Ops.guard_dec rfl rfl ?_ ?_ <;> intro hc <;> try omega) | refine Ops.guard_split rfl rfl ?_ ?_ <;> intro hc) | refine goI ?_ | (refine Cw.k_cond ?_; first | (refine Cw.cond_dec rfl ?_ ?_ <;> intro hc <;> try omega) | refine Cw.cond_bool rfl ?_ ?_ <;> intro hc) | refine goR ?_ | refine goP ?_ | apply PSeq.cons | apply PSeq.yes rfl rfl rfl | exact goW | fail)
 refine Cw.loopI [(0, _), (1, _), (4, _), (6, _), (7, _), (8, _), (9, _), (70, _), (71, _)] _ (fun q e cc => ∃ (k : Nat) (W : List Tube) (z : Int), q = E.length - k ∧ (k ≤ E.length ∧ putC (E.drop k) W z = (W1, z1) ∧ W.length = T.length ∧ (∀ d ∈ W, 0 ≤ d.cnt ∧ d.cnt ≤ d.most ∧ d.most ≤ 1000) ∧ 0 ≤ z ∧ z ≤ 1000000000000 + 20000 * k) ∧ e = [(10, .int z), (72, .int k)] ∧ cc = [ownT ad62 cap62 W])
  ⟨_, _, _, (Ent.mkP goSub goPm), 0, T, x, rfl, ⟨by omega, hput, rfl, hTb, by omega, by omega⟩, rfl, rfl⟩ ?_
 clear hput hTb kCl kS kM
 rintro _ _ _ ⟨j, W, z, rfl, ⟨hj, hpu, hWl, hWb, hz0, hz1⟩, rfl, rfl⟩
 have hWr : (W.map Tube.row).length = nT := by rw [List.length_map, hWl, hnT]
 by_cases hjl : j < E.length
 ·obtain ⟨v, hv⟩ := at_lt hjl
  have hvb := hEb v (List.mem_of_getElem? hv)
  have hrowE : (intRows E)[j]? = some [.int v] := intRows_at hv
  rw [drop_at hv] at hpu
  have kF := fun (b3 : Nat) => indexFuncO_tube (ad := ad62) (cap := cap62) (cin := [Chunk.box b3 3 [.int v]]) (caps := [.pointer (some ⟨b3, 0, none⟩)]) (g := 57) (p := tubeP v) (l := W) (n := nT) (by omega) (by omega) (fun d _ => tubeCP_fn d b3 v)
  have e : idxFrom (tubeP v) W 0 = ixN (tubeN W v) := by
   rw [idxFrom_n]
   unfold ixN tubeN
   cases W.findIdx? (tubeP v) with
   |none => rfl
   |some j => exact Int.zero_add _
  rw [e] at kF
  clear e
  cases hk2 : tubeN W v with
  |none =>
   rw [hk2] at kF
   unfold ixN at kF
   simp only at kF
   rw [put_none hk2] at hpu
   repeat' (first | refine goH ?_ | refine goV ?_ | refine goB (fun b => ?_) | refine goC (fun ad cap => ?_) | refine goG ?_ | (refine Ops.k_guard ?_; first | (refine Ops.guard_dec rfl rfl ?_ ?_ <;> intro hc <;> try omega) | refine Ops.guard_split rfl rfl ?_ ?_ <;> intro hc) | refine goI ?_ | (refine Cw.k_cond ?_; first | (refine Cw.cond_dec rfl ?_ ?_ <;> intro hc <;> try omega) | refine Cw.cond_bool rfl ?_ ?_ <;> intro hc) | (refine Ops.k_calla ?_; first | (refine Ops.k_callf 56 ?_; refine Ops.callS (kF _) (Evs.cons rfl (Evs.cons rfl Evs.nil)) goPm rfl ?_)) | (apply OpW.k_call; first | (apply OpW.k_callf 56; exact OpW.callS (kF _) (Evs.cons rfl (Evs.cons rfl Evs.nil)) goPm)) | refine goR ?_ | refine goP ?_ | apply PSeq.cons | apply PSeq.yes rfl rfl rfl | exact goW | fail)
   exact ⟨_, _, _, (Ent.mk goSub goTk), ⟨j + 1, W, z + v, rfl, ⟨by omega, hpu, hWl, hWb, by omega, by omega⟩, rfl, rfl⟩, by omega⟩
  |some i =>
   obtain ⟨d2, hd2, _, hil⟩ := findN_some (p := tubeP v) hk2
   rw [hk2] at kF
   unfold ixN at kF
   simp only at kF
   have hAt2 := tAt_eq hd2
   have hdb := hWb d2 (List.mem_of_getElem? hd2)
   have hrowW : (W.map Tube.row)[((i : Nat) : Int).toNat]? = some [.int d2.val, .int d2.cnt, .int d2.most] := by rw [Int.toNat_natCast]; exact rows_at hd2
   by_cases hc2 : d2.cnt < d2.most
   ·rw [put_add hk2 (by rw [hAt2]; exact hc2)] at hpu
    have ha2 : addT W i 1 = W.set i { d2 with cnt := d2.cnt + 1 } := by unfold addT; rw [hAt2]
    rw [ha2] at hpu
    have e4 : (W.map Tube.row).set ((i : Nat) : Int).toNat [.int d2.val, .int (d2.cnt + 1), .int d2.most] = (W.set i { d2 with cnt := d2.cnt + 1 }).map Tube.row := by rw [Int.toNat_natCast]; exact tubeRow_set W i { d2 with cnt := d2.cnt + 1 }
    have hWb2 : ∀ d ∈ W.set i { d2 with cnt := d2.cnt + 1 }, 0 ≤ d.cnt ∧ d.cnt ≤ d.most ∧ d.most ≤ 1000 := fun d hd => by
     rcases List.mem_or_eq_of_mem_set hd with h | h
     ·exact hWb d h
     ·subst h
      show 0 ≤ d2.cnt + 1 ∧ d2.cnt + 1 ≤ d2.most ∧ d2.most ≤ 1000
      omega
    clear hWb
    repeat' (first | refine goH ?_ | refine goV ?_ | refine goB (fun b => ?_) | refine goC (fun ad cap => ?_) | refine goG ?_ | (refine Ops.k_guard ?_; first | (refine Ops.guard_dec rfl rfl ?_ ?_ <;> intro hc <;> try omega) | refine Ops.guard_split rfl rfl ?_ ?_ <;> intro hc) | refine goI ?_ | (refine Cw.k_cond ?_; first | (refine Cw.cond_dec rfl ?_ ?_ <;> intro hc <;> try omega) | refine Cw.cond_bool rfl ?_ ?_ <;> intro hc) | (refine Ops.k_calla ?_; first | (refine Ops.k_callf 56 ?_; refine Ops.callS (kF _) (Evs.cons rfl (Evs.cons rfl Evs.nil)) goPm rfl ?_)) | (apply OpW.k_call; first | (apply OpW.k_callf 56; exact OpW.callS (kF _) (Evs.cons rfl (Evs.cons rfl Evs.nil)) goPm)) | refine goR ?_ | refine goP ?_ | apply PSeq.cons | apply PSeq.yes rfl rfl rfl | exact goW | fail)
    erw [e4]
    exact ⟨_, _, _, (Ent.mk goSub goTk), ⟨j + 1, _, z, rfl, ⟨by omega, hpu, by rw [List.length_set, hWl], hWb2, by omega, by omega⟩, rfl, rfl⟩, by omega⟩
   ·rw [put_full hk2 (by rw [hAt2]; exact hc2)] at hpu
    repeat' (first | refine goH ?_ | refine goV ?_ | refine goB (fun b => ?_) | refine goC (fun ad cap => ?_) | refine goG ?_ | (refine Ops.k_guard ?_; first | (refine Ops.guard_dec rfl rfl ?_ ?_ <;> intro hc <;> try omega) | refine Ops.guard_split rfl rfl ?_ ?_ <;> intro hc) | refine goI ?_ | (refine Cw.k_cond ?_; first | (refine Cw.cond_dec rfl ?_ ?_ <;> intro hc <;> try omega) | refine Cw.cond_bool rfl ?_ ?_ <;> intro hc) | (refine Ops.k_calla ?_; first | (refine Ops.k_callf 56 ?_; refine Ops.callS (kF _) (Evs.cons rfl (Evs.cons rfl Evs.nil)) goPm rfl ?_)) | (apply OpW.k_call; first | (apply OpW.k_callf 56; exact OpW.callS (kF _) (Evs.cons rfl (Evs.cons rfl Evs.nil)) goPm)) | refine goR ?_ | refine goP ?_ | apply PSeq.cons | apply PSeq.yes rfl rfl rfl | exact goW | fail)
    exact ⟨_, _, _, (Ent.mk goSub goTk), ⟨j + 1, W, z + v, rfl, ⟨by omega, hpu, hWl, hWb, by omega, by omega⟩, rfl, rfl⟩, by omega⟩
 have hje : j = E.length := by omega
 rw [hje, List.drop_length] at hpu
 with_unfolding_all rw [putC] at hpu
 obtain ⟨rfl, rfl⟩ := Prod.mk.inj hpu
 repeat' (first | refine goH ?_ | refine goV ?_ | refine goB (fun b => ?_) | refine goC (fun ad cap => ?_) | (refine Ops.k_nilCheck ?_; first | refine Ops.nilCheck_eptr rfl rfl ?_) | refine goG ?_ | (refine Ops.k_guard ?_; first | (refine Ops.guard_dec rfl rfl ?_ ?_ <;> intro hc <;> try omega) | refine Ops.guard_split rfl rfl ?_ ?_ <;> intro hc) | refine goI ?_ | (refine Cw.k_cond ?_; first | (refine Cw.cond_dec rfl ?_ ?_ <;> intro hc <;> try omega) | refine Cw.cond_bool rfl ?_ ?_ <;> intro hc) | exact OpV.w (OpV.nilCheck_eptr rfl) | (refine Ops.k_calla ?_; first | (refine Ops.k_callf 58 ?_; (refine Ops.call (kP _ _) (Evs.cons rfl (Evs.cons rfl Evs.nil)) goPm rfl ?_; rintro y cs' ⟨rfl, rfl⟩))) | refine goR ?_ | refine goP ?_ | apply PSeq.cons | apply PSeq.yes rfl rfl rfl | exact goW | fail)
 refine Cw.loopI [(0, _), (1, _), (4, _), (6, _), (7, _), (8, _), (9, _), (10, _), (14, _), (120, _), (121, _)] _ (fun q e cc => ∃ (i : Nat) (V : List Tube), q = T.length - i ∧ (i ≤ T.length ∧ V = zW sub1 W C i) ∧ e = [(122, .int i)] ∧ cc = [ownT ad62 cap62 V])
  ⟨_, _, _, (Ent.mkP goSub goPm), 0, W, rfl, ⟨by omega, (zW_zero _ _ _).symm⟩, rfl, rfl⟩ ?_
 clear kP hWr
 rintro _ _ _ ⟨i, V, rfl, ⟨hi, hV⟩, rfl, rfl⟩
 have hVl : V.length = T.length := by rw [hV, zW_len (by omega) (by omega), hTl]
 have hVr : (V.map Tube.row).length = nT := by rw [List.length_map, hVl, hnT]
 by_cases hil : i < T.length
 ·obtain ⟨t, ht⟩ := at_lt (l := W) (k := i) (by omega)
  obtain ⟨n, hn⟩ := at_lt (l := C) (k := i) (by omega)
  obtain ⟨hw1, hw2⟩ := zW_at (g := sub1) ht hn
  rw [← hV] at hw1 hw2
  have hb := hCb i n t hn ht
  have hb2 := hcn t (List.mem_of_getElem? ht)
  have hrT : (V.map Tube.row)[((i : Nat) : Int).toNat]? = some [.int t.val, .int t.cnt, .int t.most] := by rw [Int.toNat_natCast]; exact rows_at hw1
  have hrC : (intRows C)[i]? = some [.int n] := intRows_at hn
  have e4 : (V.map Tube.row).set ((i : Nat) : Int).toNat [.int t.val, .int (t.cnt - n), .int t.most] = (V.set i (sub1 t n)).map Tube.row := by rw [Int.toNat_natCast]; exact tubeRow_set V i (sub1 t n)
  clear hCb hcn hw1 ht hn hV
  repeat' (first | refine goH ?_ | refine goV ?_ | refine goB (fun b => ?_) | refine goC (fun ad cap => ?_) | refine goG ?_ | (refine Ops.k_guard ?_; first | (refine Ops.guard_dec rfl rfl ?_ ?_ <;> intro hc <;> try omega) | refine Ops.guard_split rfl rfl ?_ ?_ <;> intro hc) | refine goI ?_ | (refine Cw.k_cond ?_; first | (refine Cw.cond_dec rfl ?_ ?_ <;> intro hc <;> try omega) | refine Cw.cond_bool rfl ?_ ?_ <;> intro hc) | refine goR ?_ | refine goP ?_ | apply PSeq.cons | apply PSeq.yes rfl rfl rfl | exact goW | fail)
  erw [e4]
  exact ⟨_, _, _, (Ent.mk goSub goTk), ⟨i + 1, _, rfl, ⟨by omega, hw2⟩, rfl, rfl⟩, by omega⟩
 have hie : i = W.length := by omega
 rw [hie, zW_end _ _ _ hCl] at hV
 have hV2 : V = subT W C := by with_unfolding_all unfold subT; exact hV
 clear hCb hcn hV
 subst hV2
 generalize subT W C = W2 at *
 repeat' (first | refine goH ?_ | refine goV ?_ | refine goB (fun b => ?_) | refine goC (fun ad cap => ?_) | (refine Ops.k_nilCheck ?_; first | refine Ops.nilCheck_eptr rfl rfl ?_) | refine goG ?_ | (refine Ops.k_guard ?_; first | (refine Ops.guard_dec rfl rfl ?_ ?_ <;> intro hc <;> try omega) | refine Ops.guard_split rfl rfl ?_ ?_ <;> intro hc) | refine goI ?_ | (refine Cw.k_cond ?_; first | (refine Cw.cond_dec rfl ?_ ?_ <;> intro hc <;> try omega) | refine Cw.cond_bool rfl ?_ ?_ <;> intro hc) | fail)
 rw [eS]
 clear eS hrow hSr
 generalize L.set k { d with cnt := d.cnt - 1 } = L2 at *
 obtain ⟨adg, capg, l0, Rg, hmr2, hgv, hpull, hput2⟩ := grp_take key Gm
 have hl0r := intRows_len l0
 rw [hgv] at hgl ⊢
 obtain ⟨n0, hn0⟩ : ∃ n0, n0 = l0.length := ⟨_, rfl⟩
 rw [← hn0] at hmr2 hl0r
 refine Cw.ent (hpull _ _ _ _ goPk) ?_
 clear hpull
 first | refine Cw.region_YP (fun ξ S => stg (S 16) (Chunk.own adg capg 1 3 (intRows l0)) (ownV (ξ 16) 1 3 (intRows l0 ++ [[.int d.price]])) :: Chunk.bun Rg :: stg (S 17) (Chunk.mp Value.string bs (gkv Gm)) (Chunk.mp Value.string bs (mset key (Tr.raw (.slice (vAd (ξ 16)) (n0 + 1) (vCap (ξ 16)))) (gkv Gm))) :: Chunk.box b 44 (List.map Tr.raw [Value.string ByteArray.empty, Value.int IntKind.i64 0, Value.slice none 0 0]) :: Chunk.own ad62 cap62 3 65 (W2.map Tube.row) :: Chunk.own aT cT 3 65 (T.map Tube.row) :: Chunk.own aS cS 5 63 (L2.map SlotM.row) :: Chunk.mp Value.string bj kv :: Chunk.own aE cE 1 3 (intRows E) :: Chunk.box bm 85 [Tr.raw (.slice ad62 nT cap62), .ints K, Tr.raw (.slice aS nS cS), .int G, Tr.raw (.map (some bj)), Tr.raw (.slice none 0 0), .int z, Tr.raw (.map (some bs)), Tr.raw (.slice aI nI cI), Tr.raw (.slice aO nO cO), Tr.raw (.slice aF nF cF), Tr.raw (.slice aC nC cC)] :: Chunk.own aI cI 1 3 (intRows LI) :: Chunk.own aO cO 1 3 (intRows LO) :: []) rfl (by decide +kernel) rfl ((fun (ξ : Nat → Value) (S : Nat → Bool) => stg (S 16) (Chunk.own adg capg 1 3 (intRows l0)) (ownV (ξ 16) 1 3 (intRows l0 ++ [[.int d.price]])) :: Chunk.bun Rg :: stg (S 17) (Chunk.mp Value.string bs (gkv Gm)) (Chunk.mp Value.string bs (mset key (Tr.raw (.slice (vAd (ξ 16)) (n0 + 1) (vCap (ξ 16)))) (gkv Gm))) :: Chunk.box b 44 (List.map Tr.raw [Value.string ByteArray.empty, Value.int IntKind.i64 0, Value.slice none 0 0]) :: Chunk.own ad62 cap62 3 65 (W2.map Tube.row) :: Chunk.own aT cT 3 65 (T.map Tube.row) :: Chunk.own aS cS 5 63 (L2.map SlotM.row) :: Chunk.mp Value.string bj kv :: Chunk.own aE cE 1 3 (intRows E) :: Chunk.box bm 85 [Tr.raw (.slice ad62 nT cap62), .ints K, Tr.raw (.slice aS nS cS), .int G, Tr.raw (.map (some bj)), Tr.raw (.slice none 0 0), .int z, Tr.raw (.map (some bs)), Tr.raw (.slice aI nI cI), Tr.raw (.slice aO nO cO), Tr.raw (.slice aF nF cF), Tr.raw (.slice aC nC cC)] :: Chunk.own aI cI 1 3 (intRows LI) :: Chunk.own aO cO 1 3 (intRows LO) :: []) (fun _ => undef) (fun _ => false)) (by simp only [upd_same, updD_same, upd_ne, updD_ne, ne_eq, Nat.reduceEqDiff, not_false_eq_true, stg_t, stg_f, vAd_s, vCap_s, blk_p, List.cons_append, List.nil_append, b2n_t, b2n_f]; exact goXm) (fun _ => rfl) ?_ | fail
 apply YSeq.w (by intro _ _ _; rfl)
 ·intro ξ S h1 h2 h3 h4
  have hN0_17 := closed_false h1 h3 (k := 17) rfl (by decide)
  try simp only [upd_same, updD_same, upd_ne, updD_ne, ne_eq, Nat.reduceEqDiff, not_false_eq_true, stg_t, stg_f, vAd_s, vCap_s, blk_p, List.cons_append, List.nil_append, b2n_t, b2n_f, hN0_17]
  exact goW
 ·intro ξ v; rfl
 ·intro ξ k v S h3 hn hk
  first
  |rfl
 apply YSeq.w (by intro _ _ _; rfl)
 ·intro ξ S h1 h2 h3 h4
  have hN1_17 := closed_false h1 h3 (k := 17) rfl (by decide)
  try simp only [upd_same, updD_same, upd_ne, updD_ne, ne_eq, Nat.reduceEqDiff, not_false_eq_true, stg_t, stg_f, vAd_s, vCap_s, blk_p, List.cons_append, List.nil_append, b2n_t, b2n_f, hN1_17]
  exact goW
 ·intro ξ v; rfl
 ·intro ξ k v S h3 hn hk
  first
  |rfl
 apply YSeq.w (by intro _ _ _; rfl)
 ·intro ξ S h1 h2 h3 h4
  have hN2_17 := closed_false h1 h3 (k := 17) rfl (by decide)
  try simp only [upd_same, updD_same, upd_ne, updD_ne, ne_eq, Nat.reduceEqDiff, not_false_eq_true, stg_t, stg_f, vAd_s, vCap_s, blk_p, List.cons_append, List.nil_append, b2n_t, b2n_f, hN2_17]
  exact goW
 ·intro ξ v; rfl
 ·intro ξ k v S h3 hn hk
  first
  |rfl
 apply YSeq.w (by intro _ _ _; rfl)
 ·intro ξ S h1 h2 h3 h4
  have hN3_17 := closed_false h1 h3 (k := 17) rfl (by decide)
  try simp only [upd_same, updD_same, upd_ne, updD_ne, ne_eq, Nat.reduceEqDiff, not_false_eq_true, stg_t, stg_f, vAd_s, vCap_s, blk_p, List.cons_append, List.nil_append, b2n_t, b2n_f, hN3_17]
  exact goW
 ·intro ξ v; rfl
 ·intro ξ k v S h3 hn hk
  first
  |rfl
 apply YSeq.w (by intro _ _ _; rfl)
 ·intro ξ S h1 h2 h3 h4
  have hN4_17 := closed_false h1 h3 (k := 17) rfl (by decide)
  try simp only [upd_same, updD_same, upd_ne, updD_ne, ne_eq, Nat.reduceEqDiff, not_false_eq_true, stg_t, stg_f, vAd_s, vCap_s, blk_p, List.cons_append, List.nil_append, b2n_t, b2n_f, hN4_17]
  exact goW
 ·intro ξ v; rfl
 ·intro ξ k v S h3 hn hk
  first
  |rfl
 apply YSeq.w (by intro _ _ _; rfl)
 ·intro ξ S h1 h2 h3 h4
  have hN5_6 := closed_false h1 h3 (k := 6) rfl (by decide)
  have hN5_7 := closed_false hN5_6 h3 (k := 7) rfl (by decide)
  have hN5_8 := closed_false hN5_7 h3 (k := 8) rfl (by decide)
  have hN5_10 := closed_false hN5_8 h3 (k := 10) rfl (by decide)
  have hN5_16 := closed_false hN5_10 h3 (k := 16) rfl (by decide)
  have hN5_17 := closed_false h1 h3 (k := 17) rfl (by decide)
  try simp only [upd_same, updD_same, upd_ne, updD_ne, ne_eq, Nat.reduceEqDiff, not_false_eq_true, stg_t, stg_f, vAd_s, vCap_s, blk_p, List.cons_append, List.nil_append, b2n_t, b2n_f, hN5_16, hN5_17]
  exact goW
 ·intro ξ v; rfl
 ·intro ξ k v S h3 hn hk
  first
  |rfl
 apply YSeq.w (by intro _ _ _; rfl)
 ·intro ξ S h1 h2 h3 h4
  have hN6_7 := closed_false h1 h3 (k := 7) rfl (by decide)
  have hN6_8 := closed_false hN6_7 h3 (k := 8) rfl (by decide)
  have hN6_10 := closed_false hN6_8 h3 (k := 10) rfl (by decide)
  have hN6_16 := closed_false hN6_10 h3 (k := 16) rfl (by decide)
  have hN6_17 := closed_false h1 h3 (k := 17) rfl (by decide)
  try simp only [upd_same, updD_same, upd_ne, updD_ne, ne_eq, Nat.reduceEqDiff, not_false_eq_true, stg_t, stg_f, vAd_s, vCap_s, blk_p, List.cons_append, List.nil_append, b2n_t, b2n_f, hN6_16, hN6_17]
  exact goW
 ·intro ξ v; rfl
 ·intro ξ k v S h3 hn hk
  first
  |rfl
 apply YSeq.w (by intro _ _ _; rfl)
 ·intro ξ S h1 h2 h3 h4
  have hN7_8 := closed_false h1 h3 (k := 8) rfl (by decide)
  have hN7_10 := closed_false hN7_8 h3 (k := 10) rfl (by decide)
  have hN7_16 := closed_false hN7_10 h3 (k := 16) rfl (by decide)
  have hN7_17 := closed_false h1 h3 (k := 17) rfl (by decide)
  try simp only [upd_same, updD_same, upd_ne, updD_ne, ne_eq, Nat.reduceEqDiff, not_false_eq_true, stg_t, stg_f, vAd_s, vCap_s, blk_p, List.cons_append, List.nil_append, b2n_t, b2n_f, hN7_16, hN7_17]
  exact goW
 ·intro ξ v; rfl
 ·intro ξ k v S h3 hn hk
  first
  |rfl
 apply YSeq.w (by intro _ _ _; rfl)
 ·intro ξ S h1 h2 h3 h4
  have hN8_10 := closed_false h1 h3 (k := 10) rfl (by decide)
  have hN8_16 := closed_false hN8_10 h3 (k := 16) rfl (by decide)
  have hN8_17 := closed_false h1 h3 (k := 17) rfl (by decide)
  try simp only [upd_same, updD_same, upd_ne, updD_ne, ne_eq, Nat.reduceEqDiff, not_false_eq_true, stg_t, stg_f, vAd_s, vCap_s, blk_p, List.cons_append, List.nil_append, b2n_t, b2n_f, hN8_16, hN8_17]
  exact goW
 ·intro ξ v; rfl
 ·intro ξ k v S h3 hn hk
  first
  |rfl
 apply YSeq.w (by intro _ _ _; rfl)
 ·intro ξ S h1 h2 h3 h4
  have hN9_10 := closed_false h1 h3 (k := 10) rfl (by decide)
  have hN9_16 := closed_false hN9_10 h3 (k := 16) rfl (by decide)
  have hN9_17 := closed_false h1 h3 (k := 17) rfl (by decide)
  try simp only [upd_same, updD_same, upd_ne, updD_ne, ne_eq, Nat.reduceEqDiff, not_false_eq_true, stg_t, stg_f, vAd_s, vCap_s, blk_p, List.cons_append, List.nil_append, b2n_t, b2n_f, hN9_16, hN9_17]
  exact goW
 ·intro ξ v; rfl
 ·intro ξ k v S h3 hn hk
  first
  |rfl
 apply YSeq.w (by intro _ _ _; rfl)
 ·intro ξ S h1 h2 h3 h4
  have hN10_16 := closed_false h1 h3 (k := 16) rfl (by decide)
  have hN10_17 := closed_false h1 h3 (k := 17) rfl (by decide)
  try simp only [upd_same, updD_same, upd_ne, updD_ne, ne_eq, Nat.reduceEqDiff, not_false_eq_true, stg_t, stg_f, vAd_s, vCap_s, blk_p, List.cons_append, List.nil_append, b2n_t, b2n_f, hN10_16, hN10_17]
  exact OpV.lookup_eqG rfl rfl goPk hmr2
 ·intro ξ v; rfl
 ·intro ξ k v S h3 hn hk
  first
  |rfl
 apply YSeq.w (by intro _ _ _; rfl)
 ·intro ξ S h1 h2 h3 h4
  have hN11_12 := closed_false h1 h3 (k := 12) rfl (by decide)
  have hN11_13 := closed_false hN11_12 h3 (k := 13) rfl (by decide)
  have hN11_14 := closed_false hN11_13 h3 (k := 14) rfl (by decide)
  have hN11_15 := closed_false hN11_14 h3 (k := 15) rfl (by decide)
  have hN11_16 := closed_false hN11_15 h3 (k := 16) rfl (by decide)
  have hN11_17 := closed_false h1 h3 (k := 17) rfl (by decide)
  try simp only [upd_same, updD_same, upd_ne, updD_ne, ne_eq, Nat.reduceEqDiff, not_false_eq_true, stg_t, stg_f, vAd_s, vCap_s, blk_p, List.cons_append, List.nil_append, b2n_t, b2n_f, hN11_16, hN11_17]
  exact goW
 ·intro ξ v; rfl
 ·intro ξ k v S h3 hn hk
  first
  |rfl
 apply YSeq.w (by intro _ _ _; rfl)
 ·intro ξ S h1 h2 h3 h4
  have hN12_13 := closed_false h1 h3 (k := 13) rfl (by decide)
  have hN12_14 := closed_false hN12_13 h3 (k := 14) rfl (by decide)
  have hN12_15 := closed_false hN12_14 h3 (k := 15) rfl (by decide)
  have hN12_16 := closed_false hN12_15 h3 (k := 16) rfl (by decide)
  have hN12_17 := closed_false h1 h3 (k := 17) rfl (by decide)
  try simp only [upd_same, updD_same, upd_ne, updD_ne, ne_eq, Nat.reduceEqDiff, not_false_eq_true, stg_t, stg_f, vAd_s, vCap_s, blk_p, List.cons_append, List.nil_append, b2n_t, b2n_f, hN12_16, hN12_17]
  exact OpV.w (OpV.nilCheck_eptr rfl)
 ·intro ξ v; rfl
 ·intro ξ k v S h3 hn hk
  first
  |rfl
 apply YSeq.w (by intro _ _ _; rfl)
 ·intro ξ S h1 h2 h3 h4
  have hN13_14 := closed_false h1 h3 (k := 14) rfl (by decide)
  have hN13_15 := closed_false hN13_14 h3 (k := 15) rfl (by decide)
  have hN13_16 := closed_false hN13_15 h3 (k := 16) rfl (by decide)
  have hN13_17 := closed_false h1 h3 (k := 17) rfl (by decide)
  try simp only [upd_same, updD_same, upd_ne, updD_ne, ne_eq, Nat.reduceEqDiff, not_false_eq_true, stg_t, stg_f, vAd_s, vCap_s, blk_p, List.cons_append, List.nil_append, b2n_t, b2n_f, hN13_16, hN13_17]
  exact goW
 ·intro ξ v; rfl
 ·intro ξ k v S h3 hn hk
  first
  |rfl
 apply YSeq.w (by intro _ _ _; rfl)
 ·intro ξ S h1 h2 h3 h4
  have hN14_15 := closed_false h1 h3 (k := 15) rfl (by decide)
  have hN14_16 := closed_false hN14_15 h3 (k := 16) rfl (by decide)
  have hN14_17 := closed_false h1 h3 (k := 17) rfl (by decide)
  try simp only [upd_same, updD_same, upd_ne, updD_ne, ne_eq, Nat.reduceEqDiff, not_false_eq_true, stg_t, stg_f, vAd_s, vCap_s, blk_p, List.cons_append, List.nil_append, b2n_t, b2n_f, hN14_16, hN14_17]
  exact goW
 ·intro ξ v; rfl
 ·intro ξ k v S h3 hn hk
  first
  |rfl
 apply YSeq.w (by intro _ _ _; rfl)
 ·intro ξ S h1 h2 h3 h4
  have hN15_16 := closed_false h1 h3 (k := 16) rfl (by decide)
  have hN15_17 := closed_false h1 h3 (k := 17) rfl (by decide)
  try simp only [upd_same, updD_same, upd_ne, updD_ne, ne_eq, Nat.reduceEqDiff, not_false_eq_true, stg_t, stg_f, vAd_s, vCap_s, blk_p, List.cons_append, List.nil_append, b2n_t, b2n_f, hN15_16, hN15_17]
  exact goW
 ·intro ξ v; rfl
 ·intro ξ k v S h3 hn hk
  first
  |rfl
 apply YSeq.append (n0 + 1)
 ·intro ξ S h1 h2 h3 h4
  have hN16_17 := closed_false h1 h3 (k := 17) rfl (by decide)
  simp only [upd_same, updD_same, upd_ne, updD_ne, ne_eq, Nat.reduceEqDiff, not_false_eq_true, stg_t, stg_f, vAd_s, vCap_s, blk_p, List.cons_append, List.nil_append, b2n_t, b2n_f, h1, hN16_17]
  refine ⟨_, _, _, _, _, _, rfl, rfl, goXp, (by first | rfl | (simp; done) | omega), (by first | rfl | omega | (simp; done) | (simp; omega)), (by first | omega | (simp; done) | (simp; omega)), (by first | omega | (simp; done) | (simp; omega)), fun ad' cap' => ?_⟩
  exact goXm
 apply YSeq.mapUpdate (enc := Value.string)
 ·intro ξ S h1 h2 h3 h4
  have hY17_16 : S 16 = true := h2 16 (by decide)
  simp only [upd_same, updD_same, upd_ne, updD_ne, ne_eq, Nat.reduceEqDiff, not_false_eq_true, stg_t, stg_f, vAd_s, vCap_s, blk_p, List.cons_append, List.nil_append, b2n_t, b2n_f, hY17_16, h1]
  refine ⟨_, _, _, _, _, rfl, rfl, rfl, goXp, ?_⟩
  exact goXm
 refine YSeq.nil fun ξ hf => ?_
 refine ⟨[(0, _), (4, _), (7, _), (8, _), (14, _)], _, Ent.trans (Ent.eqc rfl (by first | (simp only [upd_same, updD_same, upd_ne, updD_ne, ne_eq, Nat.reduceEqDiff, not_false_eq_true, stg_t, stg_f, vAd_s, vCap_s, blk_p, List.cons_append, List.nil_append, b2n_t, b2n_f, ownV, slV, ptV] <;> rfl) | rfl)) (Ent.sub goSub), ?_⟩
 clear hf
 generalize vAd (ξ 16) = ad172
 generalize vCap (ξ 16) = cap172
 obtain ⟨G2, hms2, hput3, hgv2, hgo2⟩ := hput2 ad172 cap172 (l0 ++ [d.price])
 rw [show (l0 ++ [d.price]).length = n0 + 1 by rw [List.length_append, hn0]; rfl] at hms2
 rw [hms2, ← intRows_snoc]
 repeat (first | refine InB.norm ?_ | refine Then.norm ?_)
 refine Cw.ent (hput3 _ _ _ _ _ goPk goPk) ?_
 clear hput2 hput3 hmr2 hms2
 have hIl : (intRows LI).length = nI := by rw [intRows_len, hnI]
 have hOl : (intRows LO).length = nO := by rw [intRows_len, hnO]
 repeat' (first | refine goH ?_ | refine goV ?_ | refine goB (fun b => ?_) | refine goC (fun ad cap => ?_) | refine goG ?_ | (refine Ops.k_guard ?_; first | (refine Ops.guard_dec rfl rfl ?_ ?_ <;> intro hc <;> try omega) | refine Ops.guard_split rfl rfl ?_ ?_ <;> intro hc) | refine goI ?_ | (refine Cw.k_cond ?_; first | (refine Cw.cond_dec rfl ?_ ?_ <;> intro hc <;> try omega) | refine Cw.cond_bool rfl ?_ ?_ <;> intro hc) | fail)
 first | refine Cw.region_YP (fun ξ S => Chunk.box bm 85 [Tr.raw (.slice ad62 nT cap62), .ints K, Tr.raw (.slice aS nS cS), .int G, Tr.raw (.map (some bj)), Tr.raw (.slice none 0 0), .int z, Tr.raw (.map (some bs)), stg (S 23) (Tr.raw (.slice aI nI cI)) (slV (ξ 8) (nI + 1)), stg (S 26) (Tr.raw (.slice aO nO cO)) (slV (ξ 20) (nO + 1)), Tr.raw (.slice aF nF cF), Tr.raw (.slice aC nC cC)] :: Chunk.mp Value.string bs (gkv G2) :: Chunk.bun (gch G2) :: Chunk.box b 44 (List.map Tr.raw [Value.string ByteArray.empty, Value.int IntKind.i64 0, Value.slice none 0 0]) :: Chunk.own ad62 cap62 3 65 (W2.map Tube.row) :: Chunk.own aT cT 3 65 (T.map Tube.row) :: Chunk.own aS cS 5 63 (L2.map SlotM.row) :: Chunk.mp Value.string bj kv :: Chunk.own aE cE 1 3 (intRows E) :: stg (S 8) (Chunk.own aI cI 1 3 (intRows LI)) (ownV (ξ 8) 1 3 (intRows LI ++ [[.int r]])) :: stg (S 20) (Chunk.own aO cO 1 3 (intRows LO)) (ownV (ξ 20) 1 3 (intRows LO ++ [[.int (r - d.price)]])) :: []) rfl (by decide +kernel) rfl ((fun (ξ : Nat → Value) (S : Nat → Bool) => Chunk.box bm 85 [Tr.raw (.slice ad62 nT cap62), .ints K, Tr.raw (.slice aS nS cS), .int G, Tr.raw (.map (some bj)), Tr.raw (.slice none 0 0), .int z, Tr.raw (.map (some bs)), stg (S 23) (Tr.raw (.slice aI nI cI)) (slV (ξ 8) (nI + 1)), stg (S 26) (Tr.raw (.slice aO nO cO)) (slV (ξ 20) (nO + 1)), Tr.raw (.slice aF nF cF), Tr.raw (.slice aC nC cC)] :: Chunk.mp Value.string bs (gkv G2) :: Chunk.bun (gch G2) :: Chunk.box b 44 (List.map Tr.raw [Value.string ByteArray.empty, Value.int IntKind.i64 0, Value.slice none 0 0]) :: Chunk.own ad62 cap62 3 65 (W2.map Tube.row) :: Chunk.own aT cT 3 65 (T.map Tube.row) :: Chunk.own aS cS 5 63 (L2.map SlotM.row) :: Chunk.mp Value.string bj kv :: Chunk.own aE cE 1 3 (intRows E) :: stg (S 8) (Chunk.own aI cI 1 3 (intRows LI)) (ownV (ξ 8) 1 3 (intRows LI ++ [[.int r]])) :: stg (S 20) (Chunk.own aO cO 1 3 (intRows LO)) (ownV (ξ 20) 1 3 (intRows LO ++ [[.int (r - d.price)]])) :: []) (fun _ => undef) (fun _ => false)) (by simp only [upd_same, updD_same, upd_ne, updD_ne, ne_eq, Nat.reduceEqDiff, not_false_eq_true, stg_t, stg_f, vAd_s, vCap_s, blk_p, List.cons_append, List.nil_append, b2n_t, b2n_f]; exact goXm) (fun _ => rfl) ?_ | fail
 apply YSeq.w (by intro _ _ _; rfl)
 ·intro ξ S h1 h2 h3 h4
  have hN0_23 := closed_false h1 h3 (k := 23) rfl (by decide)
  have hN0_26 := closed_false h1 h3 (k := 26) rfl (by decide)
  try simp only [upd_same, updD_same, upd_ne, updD_ne, ne_eq, Nat.reduceEqDiff, not_false_eq_true, stg_t, stg_f, vAd_s, vCap_s, blk_p, List.cons_append, List.nil_append, b2n_t, b2n_f, hN0_23, hN0_26]
  exact goW
 ·intro ξ v; rfl
 ·intro ξ k v S h3 hn hk
  first
  |rfl
 apply YSeq.w (by intro _ _ _; rfl)
 ·intro ξ S h1 h2 h3 h4
  have hN1_26 := closed_false h1 h3 (k := 26) rfl (by decide)
  try simp only [upd_same, updD_same, upd_ne, updD_ne, ne_eq, Nat.reduceEqDiff, not_false_eq_true, stg_t, stg_f, vAd_s, vCap_s, blk_p, List.cons_append, List.nil_append, b2n_t, b2n_f, hN1_26]
  exact goW
 ·intro ξ v; rfl
 ·intro ξ k v S h3 hn hk
  first
  |rfl
 apply YSeq.w (by intro _ _ _; rfl)
 ·intro ξ S h1 h2 h3 h4
  have hN2_3 := closed_false h1 h3 (k := 3) rfl (by decide)
  have hN2_4 := closed_false hN2_3 h3 (k := 4) rfl (by decide)
  have hN2_5 := closed_false hN2_4 h3 (k := 5) rfl (by decide)
  have hN2_8 := closed_false hN2_5 h3 (k := 8) rfl (by decide)
  have hN2_20 := closed_false hN2_8 h3 (k := 20) rfl (by decide)
  have hN2_23 := closed_false h1 h3 (k := 23) rfl (by decide)
  have hN2_26 := closed_false h1 h3 (k := 26) rfl (by decide)
  try simp only [upd_same, updD_same, upd_ne, updD_ne, ne_eq, Nat.reduceEqDiff, not_false_eq_true, stg_t, stg_f, vAd_s, vCap_s, blk_p, List.cons_append, List.nil_append, b2n_t, b2n_f, hN2_8, hN2_20, hN2_23, hN2_26]
  exact goW
 ·intro ξ v; rfl
 ·intro ξ k v S h3 hn hk
  first
  |rfl
 apply YSeq.w (by intro _ _ _; rfl)
 ·intro ξ S h1 h2 h3 h4
  have hN3_4 := closed_false h1 h3 (k := 4) rfl (by decide)
  have hN3_5 := closed_false hN3_4 h3 (k := 5) rfl (by decide)
  have hN3_8 := closed_false hN3_5 h3 (k := 8) rfl (by decide)
  have hN3_20 := closed_false hN3_8 h3 (k := 20) rfl (by decide)
  have hN3_23 := closed_false h1 h3 (k := 23) rfl (by decide)
  have hN3_26 := closed_false h1 h3 (k := 26) rfl (by decide)
  try simp only [upd_same, updD_same, upd_ne, updD_ne, ne_eq, Nat.reduceEqDiff, not_false_eq_true, stg_t, stg_f, vAd_s, vCap_s, blk_p, List.cons_append, List.nil_append, b2n_t, b2n_f, hN3_8, hN3_20, hN3_23, hN3_26]
  exact goW
 ·intro ξ v; rfl
 ·intro ξ k v S h3 hn hk
  first
  |rfl
 apply YSeq.w (by intro _ _ _; rfl)
 ·intro ξ S h1 h2 h3 h4
  have hN4_5 := closed_false h1 h3 (k := 5) rfl (by decide)
  have hN4_8 := closed_false hN4_5 h3 (k := 8) rfl (by decide)
  have hN4_20 := closed_false hN4_8 h3 (k := 20) rfl (by decide)
  have hN4_23 := closed_false h1 h3 (k := 23) rfl (by decide)
  have hN4_26 := closed_false h1 h3 (k := 26) rfl (by decide)
  try simp only [upd_same, updD_same, upd_ne, updD_ne, ne_eq, Nat.reduceEqDiff, not_false_eq_true, stg_t, stg_f, vAd_s, vCap_s, blk_p, List.cons_append, List.nil_append, b2n_t, b2n_f, hN4_8, hN4_20, hN4_23, hN4_26]
  exact goW
 ·intro ξ v; rfl
 ·intro ξ k v S h3 hn hk
  first
  |rfl
 apply YSeq.w (by intro _ _ _; rfl)
 ·intro ξ S h1 h2 h3 h4
  have hN5_8 := closed_false h1 h3 (k := 8) rfl (by decide)
  have hN5_20 := closed_false hN5_8 h3 (k := 20) rfl (by decide)
  have hN5_23 := closed_false h1 h3 (k := 23) rfl (by decide)
  have hN5_26 := closed_false h1 h3 (k := 26) rfl (by decide)
  try simp only [upd_same, updD_same, upd_ne, updD_ne, ne_eq, Nat.reduceEqDiff, not_false_eq_true, stg_t, stg_f, vAd_s, vCap_s, blk_p, List.cons_append, List.nil_append, b2n_t, b2n_f, hN5_8, hN5_20, hN5_23, hN5_26]
  exact goW
 ·intro ξ v; rfl
 ·intro ξ k v S h3 hn hk
  first
  |rfl
 apply YSeq.w (by intro _ _ _; rfl)
 ·intro ξ S h1 h2 h3 h4
  have hN6_7 := closed_false h1 h3 (k := 7) rfl (by decide)
  have hN6_8 := closed_false hN6_7 h3 (k := 8) rfl (by decide)
  have hN6_20 := closed_false hN6_8 h3 (k := 20) rfl (by decide)
  have hN6_23 := closed_false h1 h3 (k := 23) rfl (by decide)
  have hN6_26 := closed_false h1 h3 (k := 26) rfl (by decide)
  try simp only [upd_same, updD_same, upd_ne, updD_ne, ne_eq, Nat.reduceEqDiff, not_false_eq_true, stg_t, stg_f, vAd_s, vCap_s, blk_p, List.cons_append, List.nil_append, b2n_t, b2n_f, hN6_8, hN6_20, hN6_23, hN6_26]
  exact goW
 ·intro ξ v; rfl
 ·intro ξ k v S h3 hn hk
  first
  |rfl
 apply YSeq.w (by intro _ _ _; rfl)
 ·intro ξ S h1 h2 h3 h4
  have hN7_8 := closed_false h1 h3 (k := 8) rfl (by decide)
  have hN7_20 := closed_false hN7_8 h3 (k := 20) rfl (by decide)
  have hN7_23 := closed_false h1 h3 (k := 23) rfl (by decide)
  have hN7_26 := closed_false h1 h3 (k := 26) rfl (by decide)
  try simp only [upd_same, updD_same, upd_ne, updD_ne, ne_eq, Nat.reduceEqDiff, not_false_eq_true, stg_t, stg_f, vAd_s, vCap_s, blk_p, List.cons_append, List.nil_append, b2n_t, b2n_f, hN7_8, hN7_20, hN7_23, hN7_26]
  exact goW
 ·intro ξ v; rfl
 ·intro ξ k v S h3 hn hk
  first
  |rfl
 apply YSeq.append (nI + 1)
 ·intro ξ S h1 h2 h3 h4
  have hN8_20 := closed_false h1 h3 (k := 20) rfl (by decide)
  have hN8_23 := closed_false h1 h3 (k := 23) rfl (by decide)
  have hN8_26 := closed_false h1 h3 (k := 26) rfl (by decide)
  simp only [upd_same, updD_same, upd_ne, updD_ne, ne_eq, Nat.reduceEqDiff, not_false_eq_true, stg_t, stg_f, vAd_s, vCap_s, blk_p, List.cons_append, List.nil_append, b2n_t, b2n_f, h1, hN8_20, hN8_23, hN8_26]
  refine ⟨_, _, _, _, _, _, rfl, rfl, goXp, (by first | rfl | (simp; done) | omega), (by first | rfl | omega | (simp; done) | (simp; omega)), (by first | omega | (simp; done) | (simp; omega)), (by first | omega | (simp; done) | (simp; omega)), fun ad' cap' => ?_⟩
  exact goXm
 apply YSeq.w (by intro _ _ _; rfl)
 ·intro ξ S h1 h2 h3 h4
  have hN9_10 := closed_false h1 h3 (k := 10) rfl (by decide)
  have hN9_11 := closed_false hN9_10 h3 (k := 11) rfl (by decide)
  have hN9_12 := closed_false hN9_11 h3 (k := 12) rfl (by decide)
  have hN9_20 := closed_false hN9_12 h3 (k := 20) rfl (by decide)
  have hN9_23 := closed_false hN9_12 h3 (k := 23) rfl (by decide)
  have hN9_26 := closed_false h1 h3 (k := 26) rfl (by decide)
  try simp only [upd_same, updD_same, upd_ne, updD_ne, ne_eq, Nat.reduceEqDiff, not_false_eq_true, stg_t, stg_f, vAd_s, vCap_s, blk_p, List.cons_append, List.nil_append, b2n_t, b2n_f, hN9_20, hN9_23, hN9_26]
  exact goW
 ·intro ξ v; rfl
 ·intro ξ k v S h3 hn hk
  first
  |rfl
 apply YSeq.w (by intro _ _ _; rfl)
 ·intro ξ S h1 h2 h3 h4
  have hN10_11 := closed_false h1 h3 (k := 11) rfl (by decide)
  have hN10_12 := closed_false hN10_11 h3 (k := 12) rfl (by decide)
  have hN10_20 := closed_false hN10_12 h3 (k := 20) rfl (by decide)
  have hN10_23 := closed_false hN10_12 h3 (k := 23) rfl (by decide)
  have hN10_26 := closed_false h1 h3 (k := 26) rfl (by decide)
  try simp only [upd_same, updD_same, upd_ne, updD_ne, ne_eq, Nat.reduceEqDiff, not_false_eq_true, stg_t, stg_f, vAd_s, vCap_s, blk_p, List.cons_append, List.nil_append, b2n_t, b2n_f, hN10_20, hN10_23, hN10_26]
  exact goW
 ·intro ξ v; rfl
 ·intro ξ k v S h3 hn hk
  first
  |rfl
 apply YSeq.w (by intro _ _ _; rfl)
 ·intro ξ S h1 h2 h3 h4
  have hN11_12 := closed_false h1 h3 (k := 12) rfl (by decide)
  have hN11_20 := closed_false hN11_12 h3 (k := 20) rfl (by decide)
  have hN11_23 := closed_false hN11_12 h3 (k := 23) rfl (by decide)
  have hN11_26 := closed_false h1 h3 (k := 26) rfl (by decide)
  try simp only [upd_same, updD_same, upd_ne, updD_ne, ne_eq, Nat.reduceEqDiff, not_false_eq_true, stg_t, stg_f, vAd_s, vCap_s, blk_p, List.cons_append, List.nil_append, b2n_t, b2n_f, hN11_20, hN11_23, hN11_26]
  exact goW
 ·intro ξ v; rfl
 ·intro ξ k v S h3 hn hk
  first
  |rfl
 apply YSeq.w (by intro _ _ _; rfl)
 ·intro ξ S h1 h2 h3 h4
  have hN12_20 := closed_false h1 h3 (k := 20) rfl (by decide)
  have hN12_23 := closed_false h1 h3 (k := 23) rfl (by decide)
  have hN12_26 := closed_false h1 h3 (k := 26) rfl (by decide)
  try simp only [upd_same, updD_same, upd_ne, updD_ne, ne_eq, Nat.reduceEqDiff, not_false_eq_true, stg_t, stg_f, vAd_s, vCap_s, blk_p, List.cons_append, List.nil_append, b2n_t, b2n_f, hN12_20, hN12_23, hN12_26]
  exact goW
 ·intro ξ v; rfl
 ·intro ξ k v S h3 hn hk
  first
  |rfl
 apply YSeq.w (by intro _ _ _; rfl)
 ·intro ξ S h1 h2 h3 h4
  have hN13_18 := closed_false h1 h3 (k := 18) rfl (by decide)
  have hN13_19 := closed_false hN13_18 h3 (k := 19) rfl (by decide)
  have hN13_20 := closed_false hN13_19 h3 (k := 20) rfl (by decide)
  have hN13_23 := closed_false hN13_20 h3 (k := 23) rfl (by decide)
  have hN13_26 := closed_false h1 h3 (k := 26) rfl (by decide)
  try simp only [upd_same, updD_same, upd_ne, updD_ne, ne_eq, Nat.reduceEqDiff, not_false_eq_true, stg_t, stg_f, vAd_s, vCap_s, blk_p, List.cons_append, List.nil_append, b2n_t, b2n_f, hN13_20, hN13_23, hN13_26]
  exact goW
 ·intro ξ v; rfl
 ·intro ξ k v S h3 hn hk
  first
  |rfl
 apply YSeq.w (by intro _ _ _; rfl)
 ·intro ξ S h1 h2 h3 h4
  have hN14_15 := closed_false h1 h3 (k := 15) rfl (by decide)
  have hN14_16 := closed_false hN14_15 h3 (k := 16) rfl (by decide)
  have hN14_17 := closed_false hN14_16 h3 (k := 17) rfl (by decide)
  have hN14_18 := closed_false hN14_17 h3 (k := 18) rfl (by decide)
  have hN14_19 := closed_false hN14_18 h3 (k := 19) rfl (by decide)
  have hN14_20 := closed_false hN14_19 h3 (k := 20) rfl (by decide)
  have hN14_23 := closed_false hN14_17 h3 (k := 23) rfl (by decide)
  have hN14_26 := closed_false h1 h3 (k := 26) rfl (by decide)
  try simp only [upd_same, updD_same, upd_ne, updD_ne, ne_eq, Nat.reduceEqDiff, not_false_eq_true, stg_t, stg_f, vAd_s, vCap_s, blk_p, List.cons_append, List.nil_append, b2n_t, b2n_f, hN14_20, hN14_23, hN14_26]
  exact goW
 ·intro ξ v; rfl
 ·intro ξ k v S h3 hn hk
  first
  |rfl
 apply YSeq.w (by intro _ _ _; rfl)
 ·intro ξ S h1 h2 h3 h4
  have hN15_16 := closed_false h1 h3 (k := 16) rfl (by decide)
  have hN15_17 := closed_false hN15_16 h3 (k := 17) rfl (by decide)
  have hN15_18 := closed_false hN15_17 h3 (k := 18) rfl (by decide)
  have hN15_19 := closed_false hN15_18 h3 (k := 19) rfl (by decide)
  have hN15_20 := closed_false hN15_19 h3 (k := 20) rfl (by decide)
  have hN15_23 := closed_false hN15_17 h3 (k := 23) rfl (by decide)
  have hN15_26 := closed_false h1 h3 (k := 26) rfl (by decide)
  try simp only [upd_same, updD_same, upd_ne, updD_ne, ne_eq, Nat.reduceEqDiff, not_false_eq_true, stg_t, stg_f, vAd_s, vCap_s, blk_p, List.cons_append, List.nil_append, b2n_t, b2n_f, hN15_20, hN15_23, hN15_26]
  exact OpV.w (OpV.nilCheck_eptr rfl)
 ·intro ξ v; rfl
 ·intro ξ k v S h3 hn hk
  first
  |rfl
 apply YSeq.w (by intro _ _ _; rfl)
 ·intro ξ S h1 h2 h3 h4
  have hN16_17 := closed_false h1 h3 (k := 17) rfl (by decide)
  have hN16_18 := closed_false hN16_17 h3 (k := 18) rfl (by decide)
  have hN16_19 := closed_false hN16_18 h3 (k := 19) rfl (by decide)
  have hN16_20 := closed_false hN16_19 h3 (k := 20) rfl (by decide)
  have hN16_23 := closed_false hN16_17 h3 (k := 23) rfl (by decide)
  have hN16_26 := closed_false h1 h3 (k := 26) rfl (by decide)
  try simp only [upd_same, updD_same, upd_ne, updD_ne, ne_eq, Nat.reduceEqDiff, not_false_eq_true, stg_t, stg_f, vAd_s, vCap_s, blk_p, List.cons_append, List.nil_append, b2n_t, b2n_f, hN16_20, hN16_23, hN16_26]
  exact goW
 ·intro ξ v; rfl
 ·intro ξ k v S h3 hn hk
  first
  |rfl
 apply YSeq.w (by intro _ _ _; rfl)
 ·intro ξ S h1 h2 h3 h4
  have hN17_18 := closed_false h1 h3 (k := 18) rfl (by decide)
  have hN17_19 := closed_false hN17_18 h3 (k := 19) rfl (by decide)
  have hN17_20 := closed_false hN17_19 h3 (k := 20) rfl (by decide)
  have hN17_23 := closed_false h1 h3 (k := 23) rfl (by decide)
  have hN17_26 := closed_false h1 h3 (k := 26) rfl (by decide)
  try simp only [upd_same, updD_same, upd_ne, updD_ne, ne_eq, Nat.reduceEqDiff, not_false_eq_true, stg_t, stg_f, vAd_s, vCap_s, blk_p, List.cons_append, List.nil_append, b2n_t, b2n_f, hN17_20, hN17_23, hN17_26]
  exact goW
 ·intro ξ v; rfl
 ·intro ξ k v S h3 hn hk
  first
  |rfl
 apply YSeq.w (by intro _ _ _; rfl)
 ·intro ξ S h1 h2 h3 h4
  have hN18_19 := closed_false h1 h3 (k := 19) rfl (by decide)
  have hN18_20 := closed_false hN18_19 h3 (k := 20) rfl (by decide)
  have hN18_23 := closed_false hN18_20 h3 (k := 23) rfl (by decide)
  have hN18_26 := closed_false h1 h3 (k := 26) rfl (by decide)
  try simp only [upd_same, updD_same, upd_ne, updD_ne, ne_eq, Nat.reduceEqDiff, not_false_eq_true, stg_t, stg_f, vAd_s, vCap_s, blk_p, List.cons_append, List.nil_append, b2n_t, b2n_f, hN18_20, hN18_23, hN18_26]
  exact goW
 ·intro ξ v; rfl
 ·intro ξ k v S h3 hn hk
  first
  |rfl
 apply YSeq.w (by intro _ _ _; rfl)
 ·intro ξ S h1 h2 h3 h4
  have hN19_20 := closed_false h1 h3 (k := 20) rfl (by decide)
  have hN19_23 := closed_false hN19_20 h3 (k := 23) rfl (by decide)
  have hN19_26 := closed_false h1 h3 (k := 26) rfl (by decide)
  try simp only [upd_same, updD_same, upd_ne, updD_ne, ne_eq, Nat.reduceEqDiff, not_false_eq_true, stg_t, stg_f, vAd_s, vCap_s, blk_p, List.cons_append, List.nil_append, b2n_t, b2n_f, hN19_20, hN19_23, hN19_26]
  exact goW
 ·intro ξ v; rfl
 ·intro ξ k v S h3 hn hk
  first
  |rfl
 apply YSeq.append (nO + 1)
 ·intro ξ S h1 h2 h3 h4
  have hY20_8 : S 8 = true := h2 8 (by decide)
  have hN20_23 := closed_false h1 h3 (k := 23) rfl (by decide)
  have hN20_26 := closed_false h1 h3 (k := 26) rfl (by decide)
  simp only [upd_same, updD_same, upd_ne, updD_ne, ne_eq, Nat.reduceEqDiff, not_false_eq_true, stg_t, stg_f, vAd_s, vCap_s, blk_p, List.cons_append, List.nil_append, b2n_t, b2n_f, hY20_8, h1, hN20_23, hN20_26]
  refine ⟨_, _, _, _, _, _, rfl, rfl, goXp, (by first | rfl | (simp; done) | omega), (by first | rfl | omega | (simp; done) | (simp; omega)), (by first | omega | (simp; done) | (simp; omega)), (by first | omega | (simp; done) | (simp; omega)), fun ad' cap' => ?_⟩
  exact goXm
 apply YSeq.w (by intro _ _ _; rfl)
 ·intro ξ S h1 h2 h3 h4
  have hY21_8 : S 8 = true := h2 8 (by decide)
  have hY21_20 : S 20 = true := h2 20 (by decide)
  have hN21_22 := closed_false h1 h3 (k := 22) rfl (by decide)
  have hN21_23 := closed_false hN21_22 h3 (k := 23) rfl (by decide)
  have hN21_26 := closed_false h1 h3 (k := 26) rfl (by decide)
  try simp only [upd_same, updD_same, upd_ne, updD_ne, ne_eq, Nat.reduceEqDiff, not_false_eq_true, stg_t, stg_f, vAd_s, vCap_s, blk_p, List.cons_append, List.nil_append, b2n_t, b2n_f, hY21_8, hY21_20, hN21_23, hN21_26]
  exact goW
 ·intro ξ v; rfl
 ·intro ξ k v S h3 hn hk
  first
  |rfl
  |skip
   have hY21_8 : S 8 = true := h3 21 _ rfl hn 8 (by decide)
   have hY21_20 : S 20 = true := h3 21 _ rfl hn 20 (by decide)
   simp only [upd_S hY21_8 hk, upd_S hY21_20 hk]
 apply YSeq.w (by intro _ _ _; rfl)
 ·intro ξ S h1 h2 h3 h4
  have hY22_8 : S 8 = true := h2 8 (by decide)
  have hY22_20 : S 20 = true := h2 20 (by decide)
  have hN22_23 := closed_false h1 h3 (k := 23) rfl (by decide)
  have hN22_26 := closed_false h1 h3 (k := 26) rfl (by decide)
  try simp only [upd_same, updD_same, upd_ne, updD_ne, ne_eq, Nat.reduceEqDiff, not_false_eq_true, stg_t, stg_f, vAd_s, vCap_s, blk_p, List.cons_append, List.nil_append, b2n_t, b2n_f, hY22_8, hY22_20, hN22_23, hN22_26]
  exact goW
 ·intro ξ v; rfl
 ·intro ξ k v S h3 hn hk
  first
  |rfl
  |skip
   have hY22_8 : S 8 = true := h3 22 _ rfl hn 8 (by decide)
   have hY22_20 : S 20 = true := h3 22 _ rfl hn 20 (by decide)
   simp only [upd_S hY22_8 hk, upd_S hY22_20 hk]
 apply YSeq.store
 ·intro ξ S h1 h2 h3 h4
  have hY23_8 : S 8 = true := h2 8 (by decide)
  have hY23_20 : S 20 = true := h2 20 (by decide)
  have hN23_26 := closed_false h1 h3 (k := 26) rfl (by decide)
  simp only [upd_same, updD_same, upd_ne, updD_ne, ne_eq, Nat.reduceEqDiff, not_false_eq_true, stg_t, stg_f, vAd_s, vCap_s, blk_p, List.cons_append, List.nil_append, b2n_t, b2n_f, hY23_8, hY23_20, h1, hN23_26]
  refine ⟨_, _, _, _, _, _, _, rfl, rfl, inferInstance, goXp, rfl, Nat.le_of_ble_eq_true rfl, ?_⟩
  exact goXm
 apply YSeq.w (by intro _ _ _; rfl)
 ·intro ξ S h1 h2 h3 h4
  have hY24_8 : S 8 = true := h2 8 (by decide)
  have hY24_20 : S 20 = true := h2 20 (by decide)
  have hY24_23 : S 23 = true := h2 23 (by decide)
  have hN24_25 := closed_false h1 h3 (k := 25) rfl (by decide)
  have hN24_26 := closed_false hN24_25 h3 (k := 26) rfl (by decide)
  try simp only [upd_same, updD_same, upd_ne, updD_ne, ne_eq, Nat.reduceEqDiff, not_false_eq_true, stg_t, stg_f, vAd_s, vCap_s, blk_p, List.cons_append, List.nil_append, b2n_t, b2n_f, hY24_8, hY24_20, hY24_23, hN24_26]
  exact goW
 ·intro ξ v; rfl
 ·intro ξ k v S h3 hn hk
  first
  |rfl
  |skip
   have hY24_8 : S 8 = true := h3 24 _ rfl hn 8 (by decide)
   have hY24_20 : S 20 = true := h3 24 _ rfl hn 20 (by decide)
   simp only [upd_S hY24_8 hk, upd_S hY24_20 hk]
 apply YSeq.w (by intro _ _ _; rfl)
 ·intro ξ S h1 h2 h3 h4
  have hY25_8 : S 8 = true := h2 8 (by decide)
  have hY25_20 : S 20 = true := h2 20 (by decide)
  have hY25_23 : S 23 = true := h2 23 (by decide)
  have hN25_26 := closed_false h1 h3 (k := 26) rfl (by decide)
  try simp only [upd_same, updD_same, upd_ne, updD_ne, ne_eq, Nat.reduceEqDiff, not_false_eq_true, stg_t, stg_f, vAd_s, vCap_s, blk_p, List.cons_append, List.nil_append, b2n_t, b2n_f, hY25_8, hY25_20, hY25_23, hN25_26]
  exact goW
 ·intro ξ v; rfl
 ·intro ξ k v S h3 hn hk
  first
  |rfl
  |skip
   have hY25_8 : S 8 = true := h3 25 _ rfl hn 8 (by decide)
   have hY25_20 : S 20 = true := h3 25 _ rfl hn 20 (by decide)
   simp only [upd_S hY25_8 hk, upd_S hY25_20 hk]
 apply YSeq.store
 ·intro ξ S h1 h2 h3 h4
  have hY26_8 : S 8 = true := h2 8 (by decide)
  have hY26_20 : S 20 = true := h2 20 (by decide)
  have hY26_23 : S 23 = true := h2 23 (by decide)
  simp only [upd_same, updD_same, upd_ne, updD_ne, ne_eq, Nat.reduceEqDiff, not_false_eq_true, stg_t, stg_f, vAd_s, vCap_s, blk_p, List.cons_append, List.nil_append, b2n_t, b2n_f, hY26_8, hY26_20, hY26_23, h1]
  refine ⟨_, _, _, _, _, _, _, rfl, rfl, inferInstance, goXp, rfl, Nat.le_of_ble_eq_true rfl, ?_⟩
  exact goXm
 refine YSeq.nil fun ξ hf => ?_
 refine ⟨[(0, _), (4, _), (7, _), (8, _), (14, _)], _, Ent.trans (Ent.eqc rfl (by first | (simp only [upd_same, updD_same, upd_ne, updD_ne, ne_eq, Nat.reduceEqDiff, not_false_eq_true, stg_t, stg_f, vAd_s, vCap_s, blk_p, List.cons_append, List.nil_append, b2n_t, b2n_f, ownV, slV, ptV] <;> rfl) | rfl)) (Ent.sub goSub), ?_⟩
 clear hf
 generalize vAd (ξ 8) = ad181
 generalize vCap (ξ 8) = cap181
 generalize vAd (ξ 20) = ad193
 generalize vCap (ξ 20) = cap193
 repeat (first | refine InB.norm ?_ | refine Then.norm ?_)
 repeat' (first | refine goH ?_ | refine goV ?_ | refine goB (fun b => ?_) | refine goC (fun ad cap => ?_) | (refine Ops.k_nilCheck ?_; first | refine Ops.nilCheck_eptr rfl rfl ?_) | refine goG ?_ | (refine Ops.k_guard ?_; first | (refine Ops.guard_dec rfl rfl ?_ ?_ <;> intro hc <;> try omega) | refine Ops.guard_split rfl rfl ?_ ?_ <;> intro hc) | refine goI ?_ | (refine Cw.k_cond ?_; first | (refine Cw.cond_dec rfl ?_ ?_ <;> intro hc <;> try omega) | refine Cw.cond_bool rfl ?_ ?_ <;> intro hc) | exact OpV.w (OpV.nilCheck_eptr rfl) | refine goR ?_ | refine goP ?_ | apply PSeq.cons | apply PSeq.yes rfl rfl rfl | exact goW | fail)
 rw [← intRows_snoc, ← intRows_snoc, hnT, hnI, hnO]
 exact Fin.ret (Ent.trans (Ent.setbox (s := 4) rfl goPk) (Ent.take goTk)) (Outs.many rfl (OutL.cons goOe (OutL.cons goOe OutL.nil)) rfl) ⟨rfl, _, _, _, _, _, _, G2, ⟨hgv2, hgo2⟩, rfl⟩
end Lg
