/- A part of the proof of a law of this seat: it adds no condition. By an AI agent. -/
import Derived.Test.YtcojnmobcfpeeaaDoorMs17
set_option linter.all false
set_option maxRecDepth 100000
set_option maxHeartbeats 8000000
namespace Lg
open Go Go.Proofs

/-! ### the other machine: new, and its audit -/
theorem grp_look (k : ByteArray) (G : List Gr) : ∃ (ad : Option Addr) (cap : Nat) (l : List Int) (R : List Chunk), mread k (.slice none 0 0) (gkv G) = Tr.raw (.slice ad l.length cap) ∧ gval k G = l ∧
  (∀ (Γ : Ctx) (env : Env) (cs cf : List Chunk), cs.Perm (Chunk.bun (gch G) :: cf) → Ent Γ env cs env (Chunk.own ad cap 1 3 (intRows l) :: Chunk.bun R :: cf)) ∧
  (∀ (Γ : Ctx) (env : Env) (cs cf cf' : List Chunk), cs.Perm (Chunk.own ad cap 1 3 (intRows l) :: cf') → cf'.Perm (Chunk.bun R :: cf) → Ent Γ env cs env (Chunk.bun (gch G) :: cf)) := by
 rcases g_split k G with ⟨A, g, B, rfl, rfl, hA⟩ | h
 ·refine ⟨g.ad, g.cap, g.l, gch A ++ gch B, mread_in hA, gval_in hA, fun Γ env cs cf hp => ?_, fun Γ env cs cf cf' h1 h2 => ?_⟩
  ·rw [gch_mid] at hp
   exact Ent.pull hp
  ·rw [gch_mid]
   exact Ent.putb h1 h2
 ·refine ⟨none, 0, [], gch G, mread_out h, gval_out h, fun Γ env cs cf hp => Ent.trans (Ent.perm hp) (Ent.nil 1 3), fun Γ env cs cf cf' h1 h2 => ?_⟩
  exact Ent.trans (Ent.perm (h1.trans (List.Perm.cons _ h2))) Ent.drop
theorem perm_last {α : Type} (l : List α) (c : α) : (l ++ [c]).Perm (c :: l) := List.perm_append_comm
def audY (L : List SlotM) (G : List Gr) : List Tally := L.map fun s => ⟨s.key, (gval s.key G).length, sumF id (gval s.key G)⟩
theorem audY_snoc {L : List SlotM} {G : List Gr} {k : Nat} {s : SlotM} (h : L[k]? = some s) : ((audY (L.take k) G).map Tally.row) ++ [[.str s.key, .int (gval s.key G).length, .int (sumF id (gval s.key G))]] = (audY (L.take (k + 1)) G).map Tally.row := by
 unfold audY
 rw [take_at h, List.map_append, List.map_append]
 rfl
theorem cloneS_tubeA {ad : Option Addr} {n cap : Nat} (rows : List (List Tr)) (hn : n = rows.length) (hl : rows.length ≤ 1000000) : Spec Tryd.prog 41 [Tr.raw (.slice ad n cap)] [Chunk.own ad cap 3 65 rows] (fun r cs => r = .sl 3 rows ∧ cs = [Chunk.own ad cap 3 65 rows]) := by
 refine Spec.body Tryd.func41 rfl rfl (Tryd.ntmps41) rfl fun w0 own0 M => ?_
 cases ad with
 |none =>
  refine Cw.own_none (List.Perm.refl _) fun h1 h2 => ?_
  subst h1
  subst h2
  subst hn
  repeat' (first | refine goH ?_ | (refine Ops.k_b_eql ?_; first | (refine Ops.eql_nilR rfl rfl ?_)) | refine goV ?_ | refine goC (fun ad cap => ?_) | refine goI ?_ | (refine Cw.k_cond ?_; first | (refine Cw.cond_dec rfl ?_ ?_ <;> intro hc <;> try omega) | refine Cw.cond_bool rfl ?_ ?_ <;> intro hc) | fail)
  exact Fin.ret (Ent.nilsl 3 (s := 2) rfl) (Outs.one rfl rfl) ⟨rfl, rfl⟩
 |some a =>
  repeat' (first | refine goH ?_ | (refine Ops.k_b_eql ?_; first | (refine Ops.eql_nilR rfl rfl ?_)) | ((fail_if_success refine Ops.k_buildSlice ?_); refine goV ?_) | ((fail_if_success refine Ops.k_buildSlice ?_); refine goC (fun ad cap => ?_)) | refine goI ?_ | (refine Cw.k_cond ?_; first | (refine Cw.cond_dec rfl ?_ ?_ <;> intro hc <;> try omega) | refine Cw.cond_bool rfl ?_ ?_ <;> intro hc) | fail)
  refine Ops.buildSlice_own (by exact Parts.nil) rfl rfl rfl (fun ad2 cap2 => ?_)
  repeat' (first | refine goH ?_ | ((fail_if_success refine Ops.k_c_append ?_); refine goV ?_) | ((fail_if_success refine Ops.k_c_append ?_); refine goC (fun ad cap => ?_)) | refine goI ?_ | (refine Cw.k_cond ?_; first | (refine Cw.cond_dec rfl ?_ ?_ <;> intro hc <;> try omega) | refine Cw.cond_bool rfl ?_ ?_ <;> intro hc) | fail)
  refine Ops.append_ownR rfl rfl (List.Perm.refl _) rfl hn (by simp; omega) (by simp; omega) rfl (fun ad3 cap3 => ?_)
  rw [show ∀ z : List (List Tr), z = [] → z ++ rows = rows from fun z h => by rw [h]; rfl]
  rotate_left
  ·rfl
  repeat' (first | refine goH ?_ | refine goV ?_ | refine goC (fun ad cap => ?_) | refine goI ?_ | (refine Cw.k_cond ?_; first | (refine Cw.cond_dec rfl ?_ ?_ <;> intro hc <;> try omega) | refine Cw.cond_bool rfl ?_ ?_ <;> intro hc) | fail)
  exact Fin.ret (Ent.settle (s := 2) (ad := ad3) (cap := cap3) (cf := [Chunk.own (some a) cap 3 65 rows]) rfl (List.Perm.refl _) rfl) (Outs.one rfl rfl) ⟨rfl, rfl⟩

attribute [local irreducible] intRows
theorem auditR_fn {b bj bs : Nat} {aT aS aE aI aO aF aC : Option Addr} {nT cT nS cS nE cE nI cI nO cO nF cF nC cC : Nat} {K : List Int} {G x : Int} (T : List Tube) (L : List SlotM) (E LI LO LF LC : List Int) (Gm : List Gr) (hT : T.length ≤ 1000) (hnT : nT = T.length) (hL : L.length ≤ 1000) (hnS : nS = L.length)
  (hnE : nE = E.length) (hnI : nI = LI.length) (hnO : nO = LO.length) (hnF : nF = LF.length) (hnC : nC = LC.length)
  (hlE : E.length ≤ 1000000 ∧ ∀ v ∈ E, 0 ≤ v ∧ v ≤ 1000000000000) (hlI : LI.length ≤ 1000000 ∧ ∀ v ∈ LI, 0 ≤ v ∧ v ≤ 1000000000000) (hlO : LO.length ≤ 1000000 ∧ ∀ v ∈ LO, 0 ≤ v ∧ v ≤ 1000000000000) (hlF : LF.length ≤ 1000000 ∧ ∀ v ∈ LF, 0 ≤ v ∧ v ≤ 1000000000000) (hlC : LC.length ≤ 1000000 ∧ ∀ v ∈ LC, 0 ≤ v ∧ v ≤ 1000000000000)
  (hG : ∀ k, (gval k Gm).length ≤ 1000000 ∧ ∀ v ∈ gval k Gm, 0 ≤ v ∧ v ≤ 1000000000000) :
  Spec Tryd.prog 35 [.ptr b] [mR b aT nT cT K aS nS cS G bj aE nE cE x bs aI nI cI aO nO cO aF nF cF aC nC cC, ownT aT cT T, ownS aS cS L, ownI aE cE E, Chunk.mp Value.string bs (gkv Gm), Chunk.bun (gch Gm), ownI aI cI LI, ownI aO cO LO, ownI aF cF LF, ownI aC cC LC]
   (fun z cs => z = .agg [.sl 3 ((audY L Gm).map Tally.row), .int (sumF id LI), .int (sumF id LO), .int (sumF id LF), .int (sumF id LC), .int x, .int (sumF id E), .tubes T] ∧ cs = [mR b aT nT cT K aS nS cS G bj aE nE cE x bs aI nI cI aO nO cO aF nF cF aC nC cC, ownT aT cT T, ownS aS cS L, ownI aE cE E, Chunk.mp Value.string bs (gkv Gm), Chunk.bun (gch Gm), ownI aI cI LI, ownI aO cO LO, ownI aF cF LF, ownI aC cC LC]) := by
 have kE := sumO_fn (a := aE) (n := nE) (c := cE) E hnE hlE.1 hlE.2
 have kI := sumO_fn (a := aI) (n := nI) (c := cI) LI hnI hlI.1 hlI.2
 have kO := sumO_fn (a := aO) (n := nO) (c := cO) LO hnO hlO.1 hlO.2
 have kF := sumO_fn (a := aF) (n := nF) (c := cF) LF hnF hlF.1 hlF.2
 have kC := sumO_fn (a := aC) (n := nC) (c := cC) LC hnC hlC.1 hlC.2
 have kT := cloneS_tubeA (ad := aT) (n := nT) (cap := cT) (T.map Tube.row) (by rw [List.length_map, hnT]) (by rw [List.length_map]; omega)
 have hSr : (L.map SlotM.row).length = nS := by rw [List.length_map, hnS]
 generalize sumF id E = zE at *
 generalize sumF id LI = zI at *
 generalize sumF id LO = zO at *
 generalize sumF id LF = zF at *
 generalize sumF id LC = zC at *
 generalize b = bm at *
 refine Spec.body Tryd.func35 rfl rfl (Tryd.ntmps35) rfl fun w0 own0 M => ?_
 repeat' (first | refine goH ?_ | refine goV ?_ | refine goB (fun b => ?_) | refine goC (fun ad cap => ?_) | refine goI ?_ | (refine Cw.k_cond ?_; first | (refine Cw.cond_dec rfl ?_ ?_ <;> intro hc <;> try omega) | refine Cw.cond_bool rfl ?_ ?_ <;> intro hc) | fail)
 generalize b = b2 at *
 first | refine Cw.region_YP (fun ξ S => Chunk.box b2 57 (List.map Tr.raw [Value.slice none 0 0, Value.int IntKind.i64 0, Value.int IntKind.i64 0, Value.int IntKind.i64 0, Value.int IntKind.i64 0, Value.int IntKind.i64 0, Value.int IntKind.i64 0, Value.slice none 0 0]) :: Chunk.box bm 85 [Tr.raw (.slice aT nT cT), .ints K, Tr.raw (.slice aS nS cS), .int G, Tr.raw (.map (some bj)), Tr.raw (.slice aE nE cE), .int x, Tr.raw (.map (some bs)), Tr.raw (.slice aI nI cI), Tr.raw (.slice aO nO cO), Tr.raw (.slice aF nF cF), Tr.raw (.slice aC nC cC)] :: stg (S 34) (Chunk.own aT cT 3 65 (T.map Tube.row)) (Chunk.own aT cT 3 65 (T.map Tube.row)) :: Chunk.own aS cS 5 63 (L.map SlotM.row) :: stg (S 28) (Chunk.own aE cE 1 3 (intRows E)) (Chunk.own aE cE 1 3 (intRows E)) :: Chunk.mp Value.string bs (gkv Gm) :: Chunk.bun (gch Gm) :: stg (S 4) (Chunk.own aI cI 1 3 (intRows LI)) (Chunk.own aI cI 1 3 (intRows LI)) :: stg (S 9) (Chunk.own aO cO 1 3 (intRows LO)) (Chunk.own aO cO 1 3 (intRows LO)) :: stg (S 14) (Chunk.own aF cF 1 3 (intRows LF)) (Chunk.own aF cF 1 3 (intRows LF)) :: stg (S 19) (Chunk.own aC cC 1 3 (intRows LC)) (Chunk.own aC cC 1 3 (intRows LC)) :: (stg (S 36) [] [Chunk.box (blk (ξ 36)) 57 (stg (S 37) (List.map Tr.raw [Value.slice none 0 0, Value.int IntKind.i64 0, Value.int IntKind.i64 0, Value.int IntKind.i64 0, Value.int IntKind.i64 0, Value.int IntKind.i64 0, Value.int IntKind.i64 0, Value.slice none 0 0]) [Tr.raw (.slice none 0 0), .int zI, .int zO, .int zF, .int zC, .int x, .int zE, .tubes T])] ++ [])) rfl (by decide +kernel) rfl ((fun (ξ : Nat → Value) (S : Nat → Bool) => Chunk.box b2 57 (List.map Tr.raw [Value.slice none 0 0, Value.int IntKind.i64 0, Value.int IntKind.i64 0, Value.int IntKind.i64 0, Value.int IntKind.i64 0, Value.int IntKind.i64 0, Value.int IntKind.i64 0, Value.slice none 0 0]) :: Chunk.box bm 85 [Tr.raw (.slice aT nT cT), .ints K, Tr.raw (.slice aS nS cS), .int G, Tr.raw (.map (some bj)), Tr.raw (.slice aE nE cE), .int x, Tr.raw (.map (some bs)), Tr.raw (.slice aI nI cI), Tr.raw (.slice aO nO cO), Tr.raw (.slice aF nF cF), Tr.raw (.slice aC nC cC)] :: stg (S 34) (Chunk.own aT cT 3 65 (T.map Tube.row)) (Chunk.own aT cT 3 65 (T.map Tube.row)) :: Chunk.own aS cS 5 63 (L.map SlotM.row) :: stg (S 28) (Chunk.own aE cE 1 3 (intRows E)) (Chunk.own aE cE 1 3 (intRows E)) :: Chunk.mp Value.string bs (gkv Gm) :: Chunk.bun (gch Gm) :: stg (S 4) (Chunk.own aI cI 1 3 (intRows LI)) (Chunk.own aI cI 1 3 (intRows LI)) :: stg (S 9) (Chunk.own aO cO 1 3 (intRows LO)) (Chunk.own aO cO 1 3 (intRows LO)) :: stg (S 14) (Chunk.own aF cF 1 3 (intRows LF)) (Chunk.own aF cF 1 3 (intRows LF)) :: stg (S 19) (Chunk.own aC cC 1 3 (intRows LC)) (Chunk.own aC cC 1 3 (intRows LC)) :: (stg (S 36) [] [Chunk.box (blk (ξ 36)) 57 (stg (S 37) (List.map Tr.raw [Value.slice none 0 0, Value.int IntKind.i64 0, Value.int IntKind.i64 0, Value.int IntKind.i64 0, Value.int IntKind.i64 0, Value.int IntKind.i64 0, Value.int IntKind.i64 0, Value.slice none 0 0]) [Tr.raw (.slice none 0 0), .int zI, .int zO, .int zF, .int zC, .int x, .int zE, .tubes T])] ++ [])) (fun _ => undef) (fun _ => false)) (by simp only [upd_same, updD_same, upd_ne, updD_ne, ne_eq, Nat.reduceEqDiff, not_false_eq_true, stg_t, stg_f, vAd_s, vCap_s, blk_p, List.cons_append, List.nil_append, b2n_t, b2n_f]; exact goXm) (fun _ => rfl) ?_ | fail
 apply YSeq.w (by intro _ _ _; rfl)
 ·intro ξ S h1 h2 h3 h4
  have hN0_1 := closed_false h1 h3 (k := 1) rfl (by decide)
  have hN0_2 := closed_false hN0_1 h3 (k := 2) rfl (by decide)
  have hN0_3 := closed_false hN0_2 h3 (k := 3) rfl (by decide)
  have hN0_4 := closed_false hN0_3 h3 (k := 4) rfl (by decide)
  have hN0_9 := closed_false hN0_4 h3 (k := 9) rfl (by decide)
  have hN0_14 := closed_false hN0_9 h3 (k := 14) rfl (by decide)
  have hN0_19 := closed_false hN0_14 h3 (k := 19) rfl (by decide)
  have hN0_28 := closed_false hN0_19 h3 (k := 28) rfl (by decide)
  have hN0_34 := closed_false hN0_28 h3 (k := 34) rfl (by decide)
  have hN0_37 := closed_false h1 h3 (k := 37) rfl (by decide)
  try simp only [upd_same, updD_same, upd_ne, updD_ne, ne_eq, Nat.reduceEqDiff, not_false_eq_true, stg_t, stg_f, vAd_s, vCap_s, blk_p, List.cons_append, List.nil_append, b2n_t, b2n_f, hN0_4, hN0_9, hN0_14, hN0_19, hN0_28, hN0_34, hN0_37]
  exact goW
 ·intro ξ v; rfl
 ·intro ξ k v S h3 hn hk
  first
  |rfl
 apply YSeq.w (by intro _ _ _; rfl)
 ·intro ξ S h1 h2 h3 h4
  have hN1_2 := closed_false h1 h3 (k := 2) rfl (by decide)
  have hN1_3 := closed_false hN1_2 h3 (k := 3) rfl (by decide)
  have hN1_4 := closed_false hN1_3 h3 (k := 4) rfl (by decide)
  have hN1_9 := closed_false hN1_4 h3 (k := 9) rfl (by decide)
  have hN1_14 := closed_false hN1_9 h3 (k := 14) rfl (by decide)
  have hN1_19 := closed_false hN1_14 h3 (k := 19) rfl (by decide)
  have hN1_28 := closed_false hN1_19 h3 (k := 28) rfl (by decide)
  have hN1_34 := closed_false hN1_28 h3 (k := 34) rfl (by decide)
  have hN1_37 := closed_false h1 h3 (k := 37) rfl (by decide)
  try simp only [upd_same, updD_same, upd_ne, updD_ne, ne_eq, Nat.reduceEqDiff, not_false_eq_true, stg_t, stg_f, vAd_s, vCap_s, blk_p, List.cons_append, List.nil_append, b2n_t, b2n_f, hN1_4, hN1_9, hN1_14, hN1_19, hN1_28, hN1_34, hN1_37]
  exact goW
 ·intro ξ v; rfl
 ·intro ξ k v S h3 hn hk
  first
  |rfl
 apply YSeq.w (by intro _ _ _; rfl)
 ·intro ξ S h1 h2 h3 h4
  have hN2_3 := closed_false h1 h3 (k := 3) rfl (by decide)
  have hN2_4 := closed_false hN2_3 h3 (k := 4) rfl (by decide)
  have hN2_9 := closed_false hN2_4 h3 (k := 9) rfl (by decide)
  have hN2_14 := closed_false hN2_9 h3 (k := 14) rfl (by decide)
  have hN2_19 := closed_false hN2_14 h3 (k := 19) rfl (by decide)
  have hN2_28 := closed_false hN2_19 h3 (k := 28) rfl (by decide)
  have hN2_34 := closed_false hN2_28 h3 (k := 34) rfl (by decide)
  have hN2_37 := closed_false h1 h3 (k := 37) rfl (by decide)
  try simp only [upd_same, updD_same, upd_ne, updD_ne, ne_eq, Nat.reduceEqDiff, not_false_eq_true, stg_t, stg_f, vAd_s, vCap_s, blk_p, List.cons_append, List.nil_append, b2n_t, b2n_f, hN2_4, hN2_9, hN2_14, hN2_19, hN2_28, hN2_34, hN2_37]
  exact goW
 ·intro ξ v; rfl
 ·intro ξ k v S h3 hn hk
  first
  |rfl
 apply YSeq.w (by intro _ _ _; rfl)
 ·intro ξ S h1 h2 h3 h4
  have hN3_4 := closed_false h1 h3 (k := 4) rfl (by decide)
  have hN3_9 := closed_false hN3_4 h3 (k := 9) rfl (by decide)
  have hN3_14 := closed_false hN3_9 h3 (k := 14) rfl (by decide)
  have hN3_19 := closed_false hN3_14 h3 (k := 19) rfl (by decide)
  have hN3_28 := closed_false hN3_19 h3 (k := 28) rfl (by decide)
  have hN3_34 := closed_false hN3_28 h3 (k := 34) rfl (by decide)
  have hN3_37 := closed_false h1 h3 (k := 37) rfl (by decide)
  try simp only [upd_same, updD_same, upd_ne, updD_ne, ne_eq, Nat.reduceEqDiff, not_false_eq_true, stg_t, stg_f, vAd_s, vCap_s, blk_p, List.cons_append, List.nil_append, b2n_t, b2n_f, hN3_4, hN3_9, hN3_14, hN3_19, hN3_28, hN3_34, hN3_37]
  exact goW
 ·intro ξ v; rfl
 ·intro ξ k v S h3 hn hk
  first
  |rfl
 apply YSeq.callC
 ·intro ξ S h1 h2 h3 h4
  have hN4_9 := closed_false h1 h3 (k := 9) rfl (by decide)
  have hN4_14 := closed_false hN4_9 h3 (k := 14) rfl (by decide)
  have hN4_19 := closed_false hN4_14 h3 (k := 19) rfl (by decide)
  have hN4_28 := closed_false hN4_19 h3 (k := 28) rfl (by decide)
  have hN4_34 := closed_false hN4_28 h3 (k := 34) rfl (by decide)
  have hN4_37 := closed_false h1 h3 (k := 37) rfl (by decide)
  try simp only [upd_same, updD_same, upd_ne, updD_ne, ne_eq, Nat.reduceEqDiff, not_false_eq_true, stg_t, stg_f, vAd_s, vCap_s, blk_p, List.cons_append, List.nil_append, b2n_t, b2n_f, h1, hN4_9, hN4_14, hN4_19, hN4_28, hN4_34, hN4_37]
  exact ⟨_, _, _, _, kI, (Evs.cons rfl Evs.nil), goXp, fun v => (by first | exact goXp | (simp only [upd_same, updD_same, upd_ne, updD_ne, ne_eq, Nat.reduceEqDiff, not_false_eq_true, stg_t, stg_f, vAd_s, vCap_s, blk_p, List.cons_append, List.nil_append, b2n_t, b2n_f]; exact goXp))⟩
 ·intro ξ v; rfl
 ·intro ξ k v S h3 hn hk
  first
  |rfl
 apply YSeq.w (by intro _ _ _; rfl)
 ·intro ξ S h1 h2 h3 h4
  have hN5_6 := closed_false h1 h3 (k := 6) rfl (by decide)
  have hN5_7 := closed_false hN5_6 h3 (k := 7) rfl (by decide)
  have hN5_8 := closed_false hN5_7 h3 (k := 8) rfl (by decide)
  have hN5_9 := closed_false hN5_8 h3 (k := 9) rfl (by decide)
  have hN5_14 := closed_false hN5_9 h3 (k := 14) rfl (by decide)
  have hN5_19 := closed_false hN5_14 h3 (k := 19) rfl (by decide)
  have hN5_28 := closed_false hN5_19 h3 (k := 28) rfl (by decide)
  have hN5_34 := closed_false hN5_28 h3 (k := 34) rfl (by decide)
  have hN5_37 := closed_false h1 h3 (k := 37) rfl (by decide)
  try simp only [upd_same, updD_same, upd_ne, updD_ne, ne_eq, Nat.reduceEqDiff, not_false_eq_true, stg_t, stg_f, vAd_s, vCap_s, blk_p, List.cons_append, List.nil_append, b2n_t, b2n_f, hN5_9, hN5_14, hN5_19, hN5_28, hN5_34, hN5_37]
  exact goW
 ·intro ξ v; rfl
 ·intro ξ k v S h3 hn hk
  first
  |rfl
 apply YSeq.w (by intro _ _ _; rfl)
 ·intro ξ S h1 h2 h3 h4
  have hN6_7 := closed_false h1 h3 (k := 7) rfl (by decide)
  have hN6_8 := closed_false hN6_7 h3 (k := 8) rfl (by decide)
  have hN6_9 := closed_false hN6_8 h3 (k := 9) rfl (by decide)
  have hN6_14 := closed_false hN6_9 h3 (k := 14) rfl (by decide)
  have hN6_19 := closed_false hN6_14 h3 (k := 19) rfl (by decide)
  have hN6_28 := closed_false hN6_19 h3 (k := 28) rfl (by decide)
  have hN6_34 := closed_false hN6_28 h3 (k := 34) rfl (by decide)
  have hN6_37 := closed_false h1 h3 (k := 37) rfl (by decide)
  try simp only [upd_same, updD_same, upd_ne, updD_ne, ne_eq, Nat.reduceEqDiff, not_false_eq_true, stg_t, stg_f, vAd_s, vCap_s, blk_p, List.cons_append, List.nil_append, b2n_t, b2n_f, hN6_9, hN6_14, hN6_19, hN6_28, hN6_34, hN6_37]
  exact goW
 ·intro ξ v; rfl
 ·intro ξ k v S h3 hn hk
  first
  |rfl
 apply YSeq.w (by intro _ _ _; rfl)
 ·intro ξ S h1 h2 h3 h4
  have hN7_8 := closed_false h1 h3 (k := 8) rfl (by decide)
  have hN7_9 := closed_false hN7_8 h3 (k := 9) rfl (by decide)
  have hN7_14 := closed_false hN7_9 h3 (k := 14) rfl (by decide)
  have hN7_19 := closed_false hN7_14 h3 (k := 19) rfl (by decide)
  have hN7_28 := closed_false hN7_19 h3 (k := 28) rfl (by decide)
  have hN7_34 := closed_false hN7_28 h3 (k := 34) rfl (by decide)
  have hN7_37 := closed_false h1 h3 (k := 37) rfl (by decide)
  try simp only [upd_same, updD_same, upd_ne, updD_ne, ne_eq, Nat.reduceEqDiff, not_false_eq_true, stg_t, stg_f, vAd_s, vCap_s, blk_p, List.cons_append, List.nil_append, b2n_t, b2n_f, hN7_9, hN7_14, hN7_19, hN7_28, hN7_34, hN7_37]
  exact goW
 ·intro ξ v; rfl
 ·intro ξ k v S h3 hn hk
  first
  |rfl
 apply YSeq.w (by intro _ _ _; rfl)
 ·intro ξ S h1 h2 h3 h4
  have hN8_9 := closed_false h1 h3 (k := 9) rfl (by decide)
  have hN8_14 := closed_false hN8_9 h3 (k := 14) rfl (by decide)
  have hN8_19 := closed_false hN8_14 h3 (k := 19) rfl (by decide)
  have hN8_28 := closed_false hN8_19 h3 (k := 28) rfl (by decide)
  have hN8_34 := closed_false hN8_28 h3 (k := 34) rfl (by decide)
  have hN8_37 := closed_false h1 h3 (k := 37) rfl (by decide)
  try simp only [upd_same, updD_same, upd_ne, updD_ne, ne_eq, Nat.reduceEqDiff, not_false_eq_true, stg_t, stg_f, vAd_s, vCap_s, blk_p, List.cons_append, List.nil_append, b2n_t, b2n_f, hN8_9, hN8_14, hN8_19, hN8_28, hN8_34, hN8_37]
  exact goW
 ·intro ξ v; rfl
 ·intro ξ k v S h3 hn hk
  first
  |rfl
 apply YSeq.callC
 ·intro ξ S h1 h2 h3 h4
  have hY9_4 : S 4 = true := h2 4 (by decide)
  have hN9_14 := closed_false h1 h3 (k := 14) rfl (by decide)
  have hN9_19 := closed_false hN9_14 h3 (k := 19) rfl (by decide)
  have hN9_28 := closed_false hN9_19 h3 (k := 28) rfl (by decide)
  have hN9_34 := closed_false hN9_28 h3 (k := 34) rfl (by decide)
  have hN9_37 := closed_false h1 h3 (k := 37) rfl (by decide)
  try simp only [upd_same, updD_same, upd_ne, updD_ne, ne_eq, Nat.reduceEqDiff, not_false_eq_true, stg_t, stg_f, vAd_s, vCap_s, blk_p, List.cons_append, List.nil_append, b2n_t, b2n_f, hY9_4, h1, hN9_14, hN9_19, hN9_28, hN9_34, hN9_37]
  exact ⟨_, _, _, _, kO, (Evs.cons rfl Evs.nil), goXp, fun v => (by first | exact goXp | (simp only [upd_same, updD_same, upd_ne, updD_ne, ne_eq, Nat.reduceEqDiff, not_false_eq_true, stg_t, stg_f, vAd_s, vCap_s, blk_p, List.cons_append, List.nil_append, b2n_t, b2n_f]; exact goXp))⟩
 ·intro ξ v; rfl
 ·intro ξ k v S h3 hn hk
  first
  |rfl
 apply YSeq.w (by intro _ _ _; rfl)
 ·intro ξ S h1 h2 h3 h4
  have hN10_11 := closed_false h1 h3 (k := 11) rfl (by decide)
  have hN10_12 := closed_false hN10_11 h3 (k := 12) rfl (by decide)
  have hN10_13 := closed_false hN10_12 h3 (k := 13) rfl (by decide)
  have hN10_14 := closed_false hN10_13 h3 (k := 14) rfl (by decide)
  have hN10_19 := closed_false hN10_14 h3 (k := 19) rfl (by decide)
  have hN10_28 := closed_false hN10_19 h3 (k := 28) rfl (by decide)
  have hN10_34 := closed_false hN10_28 h3 (k := 34) rfl (by decide)
  have hN10_37 := closed_false h1 h3 (k := 37) rfl (by decide)
  try simp only [upd_same, updD_same, upd_ne, updD_ne, ne_eq, Nat.reduceEqDiff, not_false_eq_true, stg_t, stg_f, vAd_s, vCap_s, blk_p, List.cons_append, List.nil_append, b2n_t, b2n_f, hN10_14, hN10_19, hN10_28, hN10_34, hN10_37]
  exact goW
 ·intro ξ v; rfl
 ·intro ξ k v S h3 hn hk
  first
  |rfl
 apply YSeq.w (by intro _ _ _; rfl)
 ·intro ξ S h1 h2 h3 h4
  have hN11_12 := closed_false h1 h3 (k := 12) rfl (by decide)
  have hN11_13 := closed_false hN11_12 h3 (k := 13) rfl (by decide)
  have hN11_14 := closed_false hN11_13 h3 (k := 14) rfl (by decide)
  have hN11_19 := closed_false hN11_14 h3 (k := 19) rfl (by decide)
  have hN11_28 := closed_false hN11_19 h3 (k := 28) rfl (by decide)
  have hN11_34 := closed_false hN11_28 h3 (k := 34) rfl (by decide)
  have hN11_37 := closed_false h1 h3 (k := 37) rfl (by decide)
  try simp only [upd_same, updD_same, upd_ne, updD_ne, ne_eq, Nat.reduceEqDiff, not_false_eq_true, stg_t, stg_f, vAd_s, vCap_s, blk_p, List.cons_append, List.nil_append, b2n_t, b2n_f, hN11_14, hN11_19, hN11_28, hN11_34, hN11_37]
  exact goW
 ·intro ξ v; rfl
 ·intro ξ k v S h3 hn hk
  first
  |rfl
 apply YSeq.w (by intro _ _ _; rfl)
 ·intro ξ S h1 h2 h3 h4
  have hN12_13 := closed_false h1 h3 (k := 13) rfl (by decide)
  have hN12_14 := closed_false hN12_13 h3 (k := 14) rfl (by decide)
  have hN12_19 := closed_false hN12_14 h3 (k := 19) rfl (by decide)
  have hN12_28 := closed_false hN12_19 h3 (k := 28) rfl (by decide)
  have hN12_34 := closed_false hN12_28 h3 (k := 34) rfl (by decide)
  have hN12_37 := closed_false h1 h3 (k := 37) rfl (by decide)
  try simp only [upd_same, updD_same, upd_ne, updD_ne, ne_eq, Nat.reduceEqDiff, not_false_eq_true, stg_t, stg_f, vAd_s, vCap_s, blk_p, List.cons_append, List.nil_append, b2n_t, b2n_f, hN12_14, hN12_19, hN12_28, hN12_34, hN12_37]
  exact goW
 ·intro ξ v; rfl
 ·intro ξ k v S h3 hn hk
  first
  |rfl
 apply YSeq.w (by intro _ _ _; rfl)
 ·intro ξ S h1 h2 h3 h4
  have hN13_14 := closed_false h1 h3 (k := 14) rfl (by decide)
  have hN13_19 := closed_false hN13_14 h3 (k := 19) rfl (by decide)
  have hN13_28 := closed_false hN13_19 h3 (k := 28) rfl (by decide)
  have hN13_34 := closed_false hN13_28 h3 (k := 34) rfl (by decide)
  have hN13_37 := closed_false h1 h3 (k := 37) rfl (by decide)
  try simp only [upd_same, updD_same, upd_ne, updD_ne, ne_eq, Nat.reduceEqDiff, not_false_eq_true, stg_t, stg_f, vAd_s, vCap_s, blk_p, List.cons_append, List.nil_append, b2n_t, b2n_f, hN13_14, hN13_19, hN13_28, hN13_34, hN13_37]
  exact goW
 ·intro ξ v; rfl
 ·intro ξ k v S h3 hn hk
  first
  |rfl
 apply YSeq.callC
 ·intro ξ S h1 h2 h3 h4
  have hY14_9 : S 9 = true := h2 9 (by decide)
  have hY14_4 : S 4 = true := h3 9 _ rfl hY14_9 4 (by decide)
  have hN14_19 := closed_false h1 h3 (k := 19) rfl (by decide)
  have hN14_28 := closed_false hN14_19 h3 (k := 28) rfl (by decide)
  have hN14_34 := closed_false hN14_28 h3 (k := 34) rfl (by decide)
  have hN14_37 := closed_false h1 h3 (k := 37) rfl (by decide)
  try simp only [upd_same, updD_same, upd_ne, updD_ne, ne_eq, Nat.reduceEqDiff, not_false_eq_true, stg_t, stg_f, vAd_s, vCap_s, blk_p, List.cons_append, List.nil_append, b2n_t, b2n_f, hY14_4, hY14_9, h1, hN14_19, hN14_28, hN14_34, hN14_37]
  exact ⟨_, _, _, _, kF, (Evs.cons rfl Evs.nil), goXp, fun v => (by first | exact goXp | (simp only [upd_same, updD_same, upd_ne, updD_ne, ne_eq, Nat.reduceEqDiff, not_false_eq_true, stg_t, stg_f, vAd_s, vCap_s, blk_p, List.cons_append, List.nil_append, b2n_t, b2n_f]; exact goXp))⟩
 ·intro ξ v; rfl
 ·intro ξ k v S h3 hn hk
  first
  |rfl
 apply YSeq.w (by intro _ _ _; rfl)
 ·intro ξ S h1 h2 h3 h4
  have hN15_16 := closed_false h1 h3 (k := 16) rfl (by decide)
  have hN15_17 := closed_false hN15_16 h3 (k := 17) rfl (by decide)
  have hN15_18 := closed_false hN15_17 h3 (k := 18) rfl (by decide)
  have hN15_19 := closed_false hN15_18 h3 (k := 19) rfl (by decide)
  have hN15_28 := closed_false hN15_19 h3 (k := 28) rfl (by decide)
  have hN15_34 := closed_false hN15_28 h3 (k := 34) rfl (by decide)
  have hN15_37 := closed_false h1 h3 (k := 37) rfl (by decide)
  try simp only [upd_same, updD_same, upd_ne, updD_ne, ne_eq, Nat.reduceEqDiff, not_false_eq_true, stg_t, stg_f, vAd_s, vCap_s, blk_p, List.cons_append, List.nil_append, b2n_t, b2n_f, hN15_19, hN15_28, hN15_34, hN15_37]
  exact goW
 ·intro ξ v; rfl
 ·intro ξ k v S h3 hn hk
  first
  |rfl
 apply YSeq.w (by intro _ _ _; rfl)
 ·intro ξ S h1 h2 h3 h4
  have hN16_17 := closed_false h1 h3 (k := 17) rfl (by decide)
  have hN16_18 := closed_false hN16_17 h3 (k := 18) rfl (by decide)
  have hN16_19 := closed_false hN16_18 h3 (k := 19) rfl (by decide)
  have hN16_28 := closed_false hN16_19 h3 (k := 28) rfl (by decide)
  have hN16_34 := closed_false hN16_28 h3 (k := 34) rfl (by decide)
  have hN16_37 := closed_false h1 h3 (k := 37) rfl (by decide)
  try simp only [upd_same, updD_same, upd_ne, updD_ne, ne_eq, Nat.reduceEqDiff, not_false_eq_true, stg_t, stg_f, vAd_s, vCap_s, blk_p, List.cons_append, List.nil_append, b2n_t, b2n_f, hN16_19, hN16_28, hN16_34, hN16_37]
  exact goW
 ·intro ξ v; rfl
 ·intro ξ k v S h3 hn hk
  first
  |rfl
 apply YSeq.w (by intro _ _ _; rfl)
 ·intro ξ S h1 h2 h3 h4
  have hN17_18 := closed_false h1 h3 (k := 18) rfl (by decide)
  have hN17_19 := closed_false hN17_18 h3 (k := 19) rfl (by decide)
  have hN17_28 := closed_false hN17_19 h3 (k := 28) rfl (by decide)
  have hN17_34 := closed_false hN17_28 h3 (k := 34) rfl (by decide)
  have hN17_37 := closed_false h1 h3 (k := 37) rfl (by decide)
  try simp only [upd_same, updD_same, upd_ne, updD_ne, ne_eq, Nat.reduceEqDiff, not_false_eq_true, stg_t, stg_f, vAd_s, vCap_s, blk_p, List.cons_append, List.nil_append, b2n_t, b2n_f, hN17_19, hN17_28, hN17_34, hN17_37]
  exact goW
 ·intro ξ v; rfl
 ·intro ξ k v S h3 hn hk
  first
  |rfl
 apply YSeq.w (by intro _ _ _; rfl)
 ·intro ξ S h1 h2 h3 h4
  have hN18_19 := closed_false h1 h3 (k := 19) rfl (by decide)
  have hN18_28 := closed_false hN18_19 h3 (k := 28) rfl (by decide)
  have hN18_34 := closed_false hN18_28 h3 (k := 34) rfl (by decide)
  have hN18_37 := closed_false h1 h3 (k := 37) rfl (by decide)
  try simp only [upd_same, updD_same, upd_ne, updD_ne, ne_eq, Nat.reduceEqDiff, not_false_eq_true, stg_t, stg_f, vAd_s, vCap_s, blk_p, List.cons_append, List.nil_append, b2n_t, b2n_f, hN18_19, hN18_28, hN18_34, hN18_37]
  exact goW
 ·intro ξ v; rfl
 ·intro ξ k v S h3 hn hk
  first
  |rfl
 apply YSeq.callC
 ·intro ξ S h1 h2 h3 h4
  have hY19_14 : S 14 = true := h2 14 (by decide)
  have hY19_9 : S 9 = true := h3 14 _ rfl hY19_14 9 (by decide)
  have hY19_4 : S 4 = true := h3 9 _ rfl hY19_9 4 (by decide)
  have hN19_28 := closed_false h1 h3 (k := 28) rfl (by decide)
  have hN19_34 := closed_false hN19_28 h3 (k := 34) rfl (by decide)
  have hN19_37 := closed_false h1 h3 (k := 37) rfl (by decide)
  try simp only [upd_same, updD_same, upd_ne, updD_ne, ne_eq, Nat.reduceEqDiff, not_false_eq_true, stg_t, stg_f, vAd_s, vCap_s, blk_p, List.cons_append, List.nil_append, b2n_t, b2n_f, hY19_4, hY19_9, hY19_14, h1, hN19_28, hN19_34, hN19_37]
  exact ⟨_, _, _, _, kC, (Evs.cons rfl Evs.nil), goXp, fun v => (by first | exact goXp | (simp only [upd_same, updD_same, upd_ne, updD_ne, ne_eq, Nat.reduceEqDiff, not_false_eq_true, stg_t, stg_f, vAd_s, vCap_s, blk_p, List.cons_append, List.nil_append, b2n_t, b2n_f]; exact goXp))⟩
 ·intro ξ v; rfl
 ·intro ξ k v S h3 hn hk
  first
  |rfl
 apply YSeq.w (by intro _ _ _; rfl)
 ·intro ξ S h1 h2 h3 h4
  have hN20_37 := closed_false h1 h3 (k := 37) rfl (by decide)
  try simp only [upd_same, updD_same, upd_ne, updD_ne, ne_eq, Nat.reduceEqDiff, not_false_eq_true, stg_t, stg_f, vAd_s, vCap_s, blk_p, List.cons_append, List.nil_append, b2n_t, b2n_f, hN20_37]
  exact goW
 ·intro ξ v; rfl
 ·intro ξ k v S h3 hn hk
  first
  |rfl
 apply YSeq.w (by intro _ _ _; rfl)
 ·intro ξ S h1 h2 h3 h4
  have hN21_37 := closed_false h1 h3 (k := 37) rfl (by decide)
  try simp only [upd_same, updD_same, upd_ne, updD_ne, ne_eq, Nat.reduceEqDiff, not_false_eq_true, stg_t, stg_f, vAd_s, vCap_s, blk_p, List.cons_append, List.nil_append, b2n_t, b2n_f, hN21_37]
  exact goW
 ·intro ξ v; rfl
 ·intro ξ k v S h3 hn hk
  first
  |rfl
 apply YSeq.w (by intro _ _ _; rfl)
 ·intro ξ S h1 h2 h3 h4
  have hN22_37 := closed_false h1 h3 (k := 37) rfl (by decide)
  try simp only [upd_same, updD_same, upd_ne, updD_ne, ne_eq, Nat.reduceEqDiff, not_false_eq_true, stg_t, stg_f, vAd_s, vCap_s, blk_p, List.cons_append, List.nil_append, b2n_t, b2n_f, hN22_37]
  exact goW
 ·intro ξ v; rfl
 ·intro ξ k v S h3 hn hk
  first
  |rfl
 apply YSeq.w (by intro _ _ _; rfl)
 ·intro ξ S h1 h2 h3 h4
  have hN23_37 := closed_false h1 h3 (k := 37) rfl (by decide)
  try simp only [upd_same, updD_same, upd_ne, updD_ne, ne_eq, Nat.reduceEqDiff, not_false_eq_true, stg_t, stg_f, vAd_s, vCap_s, blk_p, List.cons_append, List.nil_append, b2n_t, b2n_f, hN23_37]
  exact goW
 ·intro ξ v; rfl
 ·intro ξ k v S h3 hn hk
  first
  |rfl
 apply YSeq.w (by intro _ _ _; rfl)
 ·intro ξ S h1 h2 h3 h4
  have hN24_25 := closed_false h1 h3 (k := 25) rfl (by decide)
  have hN24_26 := closed_false hN24_25 h3 (k := 26) rfl (by decide)
  have hN24_27 := closed_false hN24_26 h3 (k := 27) rfl (by decide)
  have hN24_28 := closed_false hN24_27 h3 (k := 28) rfl (by decide)
  have hN24_34 := closed_false hN24_28 h3 (k := 34) rfl (by decide)
  have hN24_37 := closed_false h1 h3 (k := 37) rfl (by decide)
  try simp only [upd_same, updD_same, upd_ne, updD_ne, ne_eq, Nat.reduceEqDiff, not_false_eq_true, stg_t, stg_f, vAd_s, vCap_s, blk_p, List.cons_append, List.nil_append, b2n_t, b2n_f, hN24_28, hN24_34, hN24_37]
  exact goW
 ·intro ξ v; rfl
 ·intro ξ k v S h3 hn hk
  first
  |rfl
 apply YSeq.w (by intro _ _ _; rfl)
 ·intro ξ S h1 h2 h3 h4
  have hN25_26 := closed_false h1 h3 (k := 26) rfl (by decide)
  have hN25_27 := closed_false hN25_26 h3 (k := 27) rfl (by decide)
  have hN25_28 := closed_false hN25_27 h3 (k := 28) rfl (by decide)
  have hN25_34 := closed_false hN25_28 h3 (k := 34) rfl (by decide)
  have hN25_37 := closed_false h1 h3 (k := 37) rfl (by decide)
  try simp only [upd_same, updD_same, upd_ne, updD_ne, ne_eq, Nat.reduceEqDiff, not_false_eq_true, stg_t, stg_f, vAd_s, vCap_s, blk_p, List.cons_append, List.nil_append, b2n_t, b2n_f, hN25_28, hN25_34, hN25_37]
  exact goW
 ·intro ξ v; rfl
 ·intro ξ k v S h3 hn hk
  first
  |rfl
 apply YSeq.w (by intro _ _ _; rfl)
 ·intro ξ S h1 h2 h3 h4
  have hN26_27 := closed_false h1 h3 (k := 27) rfl (by decide)
  have hN26_28 := closed_false hN26_27 h3 (k := 28) rfl (by decide)
  have hN26_34 := closed_false hN26_28 h3 (k := 34) rfl (by decide)
  have hN26_37 := closed_false h1 h3 (k := 37) rfl (by decide)
  try simp only [upd_same, updD_same, upd_ne, updD_ne, ne_eq, Nat.reduceEqDiff, not_false_eq_true, stg_t, stg_f, vAd_s, vCap_s, blk_p, List.cons_append, List.nil_append, b2n_t, b2n_f, hN26_28, hN26_34, hN26_37]
  exact goW
 ·intro ξ v; rfl
 ·intro ξ k v S h3 hn hk
  first
  |rfl
 apply YSeq.w (by intro _ _ _; rfl)
 ·intro ξ S h1 h2 h3 h4
  have hN27_28 := closed_false h1 h3 (k := 28) rfl (by decide)
  have hN27_34 := closed_false hN27_28 h3 (k := 34) rfl (by decide)
  have hN27_37 := closed_false h1 h3 (k := 37) rfl (by decide)
  try simp only [upd_same, updD_same, upd_ne, updD_ne, ne_eq, Nat.reduceEqDiff, not_false_eq_true, stg_t, stg_f, vAd_s, vCap_s, blk_p, List.cons_append, List.nil_append, b2n_t, b2n_f, hN27_28, hN27_34, hN27_37]
  exact goW
 ·intro ξ v; rfl
 ·intro ξ k v S h3 hn hk
  first
  |rfl
 apply YSeq.callC
 ·intro ξ S h1 h2 h3 h4
  have hY28_19 : S 19 = true := h2 19 (by decide)
  have hY28_14 : S 14 = true := h3 19 _ rfl hY28_19 14 (by decide)
  have hY28_9 : S 9 = true := h3 14 _ rfl hY28_14 9 (by decide)
  have hY28_4 : S 4 = true := h3 9 _ rfl hY28_9 4 (by decide)
  have hN28_34 := closed_false h1 h3 (k := 34) rfl (by decide)
  have hN28_37 := closed_false h1 h3 (k := 37) rfl (by decide)
  try simp only [upd_same, updD_same, upd_ne, updD_ne, ne_eq, Nat.reduceEqDiff, not_false_eq_true, stg_t, stg_f, vAd_s, vCap_s, blk_p, List.cons_append, List.nil_append, b2n_t, b2n_f, hY28_4, hY28_9, hY28_14, hY28_19, h1, hN28_34, hN28_37]
  exact ⟨_, _, _, _, kE, (Evs.cons rfl Evs.nil), goXp, fun v => (by first | exact goXp | (simp only [upd_same, updD_same, upd_ne, updD_ne, ne_eq, Nat.reduceEqDiff, not_false_eq_true, stg_t, stg_f, vAd_s, vCap_s, blk_p, List.cons_append, List.nil_append, b2n_t, b2n_f]; exact goXp))⟩
 ·intro ξ v; rfl
 ·intro ξ k v S h3 hn hk
  first
  |rfl
 apply YSeq.w (by intro _ _ _; rfl)
 ·intro ξ S h1 h2 h3 h4
  have hN29_30 := closed_false h1 h3 (k := 30) rfl (by decide)
  have hN29_31 := closed_false hN29_30 h3 (k := 31) rfl (by decide)
  have hN29_32 := closed_false hN29_31 h3 (k := 32) rfl (by decide)
  have hN29_33 := closed_false hN29_32 h3 (k := 33) rfl (by decide)
  have hN29_34 := closed_false hN29_33 h3 (k := 34) rfl (by decide)
  have hN29_37 := closed_false h1 h3 (k := 37) rfl (by decide)
  try simp only [upd_same, updD_same, upd_ne, updD_ne, ne_eq, Nat.reduceEqDiff, not_false_eq_true, stg_t, stg_f, vAd_s, vCap_s, blk_p, List.cons_append, List.nil_append, b2n_t, b2n_f, hN29_34, hN29_37]
  exact goW
 ·intro ξ v; rfl
 ·intro ξ k v S h3 hn hk
  first
  |rfl
 apply YSeq.w (by intro _ _ _; rfl)
 ·intro ξ S h1 h2 h3 h4
  have hN30_31 := closed_false h1 h3 (k := 31) rfl (by decide)
  have hN30_32 := closed_false hN30_31 h3 (k := 32) rfl (by decide)
  have hN30_33 := closed_false hN30_32 h3 (k := 33) rfl (by decide)
  have hN30_34 := closed_false hN30_33 h3 (k := 34) rfl (by decide)
  have hN30_37 := closed_false h1 h3 (k := 37) rfl (by decide)
  try simp only [upd_same, updD_same, upd_ne, updD_ne, ne_eq, Nat.reduceEqDiff, not_false_eq_true, stg_t, stg_f, vAd_s, vCap_s, blk_p, List.cons_append, List.nil_append, b2n_t, b2n_f, hN30_34, hN30_37]
  exact goW
 ·intro ξ v; rfl
 ·intro ξ k v S h3 hn hk
  first
  |rfl
 apply YSeq.w (by intro _ _ _; rfl)
 ·intro ξ S h1 h2 h3 h4
  have hN31_32 := closed_false h1 h3 (k := 32) rfl (by decide)
  have hN31_33 := closed_false hN31_32 h3 (k := 33) rfl (by decide)
  have hN31_34 := closed_false hN31_33 h3 (k := 34) rfl (by decide)
  have hN31_37 := closed_false h1 h3 (k := 37) rfl (by decide)
  try simp only [upd_same, updD_same, upd_ne, updD_ne, ne_eq, Nat.reduceEqDiff, not_false_eq_true, stg_t, stg_f, vAd_s, vCap_s, blk_p, List.cons_append, List.nil_append, b2n_t, b2n_f, hN31_34, hN31_37]
  exact goW
 ·intro ξ v; rfl
 ·intro ξ k v S h3 hn hk
  first
  |rfl
 apply YSeq.w (by intro _ _ _; rfl)
 ·intro ξ S h1 h2 h3 h4
  have hN32_33 := closed_false h1 h3 (k := 33) rfl (by decide)
  have hN32_34 := closed_false hN32_33 h3 (k := 34) rfl (by decide)
  have hN32_37 := closed_false h1 h3 (k := 37) rfl (by decide)
  try simp only [upd_same, updD_same, upd_ne, updD_ne, ne_eq, Nat.reduceEqDiff, not_false_eq_true, stg_t, stg_f, vAd_s, vCap_s, blk_p, List.cons_append, List.nil_append, b2n_t, b2n_f, hN32_34, hN32_37]
  exact goW
 ·intro ξ v; rfl
 ·intro ξ k v S h3 hn hk
  first
  |rfl
 apply YSeq.w (by intro _ _ _; rfl)
 ·intro ξ S h1 h2 h3 h4
  have hN33_34 := closed_false h1 h3 (k := 34) rfl (by decide)
  have hN33_37 := closed_false h1 h3 (k := 37) rfl (by decide)
  try simp only [upd_same, updD_same, upd_ne, updD_ne, ne_eq, Nat.reduceEqDiff, not_false_eq_true, stg_t, stg_f, vAd_s, vCap_s, blk_p, List.cons_append, List.nil_append, b2n_t, b2n_f, hN33_34, hN33_37]
  exact goW
 ·intro ξ v; rfl
 ·intro ξ k v S h3 hn hk
  first
  |rfl
 apply YSeq.callC
 ·intro ξ S h1 h2 h3 h4
  have hY34_28 : S 28 = true := h2 28 (by decide)
  have hY34_19 : S 19 = true := h3 28 _ rfl hY34_28 19 (by decide)
  have hY34_14 : S 14 = true := h3 19 _ rfl hY34_19 14 (by decide)
  have hY34_9 : S 9 = true := h3 14 _ rfl hY34_14 9 (by decide)
  have hY34_4 : S 4 = true := h3 9 _ rfl hY34_9 4 (by decide)
  have hN34_37 := closed_false h1 h3 (k := 37) rfl (by decide)
  try simp only [upd_same, updD_same, upd_ne, updD_ne, ne_eq, Nat.reduceEqDiff, not_false_eq_true, stg_t, stg_f, vAd_s, vCap_s, blk_p, List.cons_append, List.nil_append, b2n_t, b2n_f, hY34_4, hY34_9, hY34_14, hY34_19, hY34_28, h1, hN34_37]
  exact ⟨_, _, _, _, kT, (Evs.cons rfl Evs.nil), goXp, fun v => (by first | exact goXp | (simp only [upd_same, updD_same, upd_ne, updD_ne, ne_eq, Nat.reduceEqDiff, not_false_eq_true, stg_t, stg_f, vAd_s, vCap_s, blk_p, List.cons_append, List.nil_append, b2n_t, b2n_f]; exact goXp))⟩
 ·intro ξ v; rfl
 ·intro ξ k v S h3 hn hk
  first
  |rfl
 apply YSeq.w (by intro _ _ _; rfl)
 ·intro ξ S h1 h2 h3 h4
  have hY35_4 : S 4 = true := h2 4 (by decide)
  have hY35_9 : S 9 = true := h2 9 (by decide)
  have hY35_14 : S 14 = true := h2 14 (by decide)
  have hY35_19 : S 19 = true := h2 19 (by decide)
  have hY35_28 : S 28 = true := h2 28 (by decide)
  have hY35_34 : S 34 = true := h2 34 (by decide)
  have hN35_37 := closed_false h1 h3 (k := 37) rfl (by decide)
  try simp only [upd_same, updD_same, upd_ne, updD_ne, ne_eq, Nat.reduceEqDiff, not_false_eq_true, stg_t, stg_f, vAd_s, vCap_s, blk_p, List.cons_append, List.nil_append, b2n_t, b2n_f, hY35_4, hY35_9, hY35_14, hY35_19, hY35_28, hY35_34, hN35_37]
  exact goW
 ·intro ξ v; rfl
 ·intro ξ k v S h3 hn hk
  first
  |rfl
 apply YSeq.alloc
 ·intro ξ S b h1 h3
  have hN36_37 := closed_false h1 h3 (k := 37) rfl (by decide)
  simp only [upd_same, updD_same, upd_ne, updD_ne, ne_eq, Nat.reduceEqDiff, not_false_eq_true, stg_t, stg_f, vAd_s, vCap_s, blk_p, List.cons_append, List.nil_append, b2n_t, b2n_f, h1, hN36_37]
  exact goXm
 apply YSeq.store
 ·intro ξ S h1 h2 h3 h4
  have hY37_4 : S 4 = true := h2 4 (by decide)
  have hY37_9 : S 9 = true := h2 9 (by decide)
  have hY37_14 : S 14 = true := h2 14 (by decide)
  have hY37_19 : S 19 = true := h2 19 (by decide)
  have hY37_28 : S 28 = true := h2 28 (by decide)
  have hY37_34 : S 34 = true := h2 34 (by decide)
  have hY37_36 : S 36 = true := h2 36 (by decide)
  simp only [upd_same, updD_same, upd_ne, updD_ne, ne_eq, Nat.reduceEqDiff, not_false_eq_true, stg_t, stg_f, vAd_s, vCap_s, blk_p, List.cons_append, List.nil_append, b2n_t, b2n_f, hY37_4, hY37_9, hY37_14, hY37_19, hY37_28, hY37_34, hY37_36, h1]
  refine ⟨_, _, _, _, _, _, _, rfl, rfl, inferInstance, goXp, rfl, Nat.le_of_ble_eq_true rfl, ?_⟩
  exact goXm
 refine YSeq.nil fun ξ hf => ?_
 refine ⟨[(0, _), (2, _), (3, _)], _, Ent.trans (Ent.eqc rfl (by first | (simp only [upd_same, updD_same, upd_ne, updD_ne, ne_eq, Nat.reduceEqDiff, not_false_eq_true, stg_t, stg_f, vAd_s, vCap_s, blk_p, List.cons_append, List.nil_append, b2n_t, b2n_f, ownV, slV, ptV] <;> rfl) | rfl)) (Ent.sub goSub), ?_⟩
 clear hf
 generalize blk (ξ 36) = b3
 refine Then.norm ?_
 clear kE kI kO kF kC kT hlE hlI hlO hlF hlC
 refine Cw.ent (Ent.perm (perm_last [_, _, _, _, _, _, _, _, _, _, _] _)) ?_
 repeat' (first | refine goH ?_ | refine goV ?_ | refine goB (fun b => ?_) | refine goC (fun ad cap => ?_) | refine goI ?_ | (refine Cw.k_cond ?_; first | (refine Cw.cond_dec rfl ?_ ?_ <;> intro hc <;> try omega) | refine Cw.cond_bool rfl ?_ ?_ <;> intro hc) | refine goR ?_ | refine goP ?_ | apply PSeq.cons | apply PSeq.yes rfl rfl rfl | exact goW | fail)
 refine Cw.loopI [(0, _), (2, _), (3, _), (46, _), (47, _)] _ (fun q e cc => ∃ (k : Nat) (aY : Option Addr) (cY : Nat) (rows : List (List Tr)), q = L.length - k ∧ (k ≤ L.length ∧ rows = (audY (L.take k) Gm).map Tally.row ∧ k = rows.length) ∧ e = [(48, .int k)] ∧ cc = [Chunk.box b3 57 [Tr.raw (.slice aY k cY), .int zI, .int zO, .int zF, .int zC, .int x, .int zE, .tubes T], Chunk.own aY cY 3 76 rows])
  ⟨_, _, _, Ent.trans (Ent.nil 3 76) (Ent.mkP goSub goPm), 0, none, 0, [], rfl, ⟨by omega, rfl, rfl⟩, rfl, rfl⟩ ?_
 rintro _ _ _ ⟨k, aY, cY, rows, rfl, ⟨hk, hrs, hrl⟩, rfl, rfl⟩
 by_cases hkl : k < L.length
 rotate_left
 ·have hke : k = L.length := by omega
  rw [hke, List.take_length] at hrs
  refine Cw.ent (Ent.settle_box (b := b3) (i := 0) (kk := 3) (rows := rows) (ts' := [.sl 3 ((audY L Gm).map Tally.row), .int zI, .int zO, .int zF, .int zC, .int x, .int zE, .tubes T]) (by exact Perm.cons' goPk (Perm.cons' goPk (List.Perm.refl _))) rfl hrl (by rw [hrs]; rfl)) ?_
  clear hrs hrl hke
  repeat' (first | refine goH ?_ | refine goV ?_ | refine goB (fun b => ?_) | refine goC (fun ad cap => ?_) | refine goI ?_ | (refine Cw.k_cond ?_; first | (refine Cw.cond_dec rfl ?_ ?_ <;> intro hc <;> try omega) | refine Cw.cond_bool rfl ?_ ?_ <;> intro hc) | refine goR ?_ | refine goP ?_ | apply PSeq.cons | apply PSeq.yes rfl rfl rfl | exact goW | fail)
  exact Fin.ret (Ent.trans (Ent.setbox (s := 2) rfl goPk) (Ent.take goTk)) (Outs.sole rfl goOe) ⟨rfl, rfl⟩
 obtain ⟨s, hs⟩ := at_lt hkl
 have hrow : (L.map SlotM.row)[k]? = some [.str s.key, .str s.prod, .int s.price, .int s.most, .int s.cnt] := rows_at hs
 have hsn := audY_snoc (G := Gm) hs
 rw [← hrs] at hsn
 obtain ⟨adg, capg, l0, Rg, hmr2, hgv, hpull, hback⟩ := grp_look s.key Gm
 have hg2 := hG s.key
 rw [hgv] at hsn hg2
 have kG := fun (n : Nat) (hn : n = l0.length) => sumO_fn (a := adg) (n := n) (c := capg) l0 hn hg2.1 hg2.2
 have kG := kG _ rfl
 obtain ⟨n0, hn0⟩ : ∃ n0, n0 = l0.length := ⟨_, rfl⟩
 have hl0r := intRows_len l0
 rw [← hn0] at hmr2 kG hsn hl0r
 generalize sumF id l0 = zG at *
 clear hG hrs hs hgv
 repeat' (first | refine goH ?_ | refine goV ?_ | refine goB (fun b => ?_) | refine goC (fun ad cap => ?_) | refine goI ?_ | (refine Cw.k_cond ?_; first | (refine Cw.cond_dec rfl ?_ ?_ <;> intro hc <;> try omega) | refine Cw.cond_bool rfl ?_ ?_ <;> intro hc) | fail)
 refine Cw.ent (hpull _ _ _ _ goPk) ?_
 clear hpull
 first | refine Cw.region_YP (fun ξ S => Chunk.box b3 57 [stg (S 24) (Tr.raw (.slice aY k cY)) (slV (ξ 22) (k + 1)), .int zI, .int zO, .int zF, .int zC, .int x, .int zE, .tubes T] :: stg (S 22) (Chunk.own aY cY 3 76 rows) (ownV (ξ 22) 3 76 (rows ++ [[.str s.key, .int n0, .int zG]])) :: stg (S 19) (Chunk.own adg capg 1 3 (intRows l0)) (Chunk.own adg capg 1 3 (intRows l0)) :: Chunk.bun Rg :: Chunk.mp Value.string bs (gkv Gm) :: Chunk.box b 63 [.str s.key, .str s.prod, .int s.price, .int s.most, .int s.cnt] :: Chunk.box b2 57 (List.map Tr.raw [Value.slice none 0 0, Value.int IntKind.i64 0, Value.int IntKind.i64 0, Value.int IntKind.i64 0, Value.int IntKind.i64 0, Value.int IntKind.i64 0, Value.int IntKind.i64 0, Value.slice none 0 0]) :: Chunk.box bm 85 [Tr.raw (.slice aT nT cT), .ints K, Tr.raw (.slice aS nS cS), .int G, Tr.raw (.map (some bj)), Tr.raw (.slice aE nE cE), .int x, Tr.raw (.map (some bs)), Tr.raw (.slice aI nI cI), Tr.raw (.slice aO nO cO), Tr.raw (.slice aF nF cF), Tr.raw (.slice aC nC cC)] :: Chunk.own aT cT 3 65 (T.map Tube.row) :: Chunk.own aS cS 5 63 (L.map SlotM.row) :: Chunk.own aE cE 1 3 (intRows E) :: Chunk.own aI cI 1 3 (intRows LI) :: Chunk.own aO cO 1 3 (intRows LO) :: Chunk.own aF cF 1 3 (intRows LF) :: Chunk.own aC cC 1 3 (intRows LC) :: []) rfl (by decide +kernel) rfl ((fun (ξ : Nat → Value) (S : Nat → Bool) => Chunk.box b3 57 [stg (S 24) (Tr.raw (.slice aY k cY)) (slV (ξ 22) (k + 1)), .int zI, .int zO, .int zF, .int zC, .int x, .int zE, .tubes T] :: stg (S 22) (Chunk.own aY cY 3 76 rows) (ownV (ξ 22) 3 76 (rows ++ [[.str s.key, .int n0, .int zG]])) :: stg (S 19) (Chunk.own adg capg 1 3 (intRows l0)) (Chunk.own adg capg 1 3 (intRows l0)) :: Chunk.bun Rg :: Chunk.mp Value.string bs (gkv Gm) :: Chunk.box b 63 [.str s.key, .str s.prod, .int s.price, .int s.most, .int s.cnt] :: Chunk.box b2 57 (List.map Tr.raw [Value.slice none 0 0, Value.int IntKind.i64 0, Value.int IntKind.i64 0, Value.int IntKind.i64 0, Value.int IntKind.i64 0, Value.int IntKind.i64 0, Value.int IntKind.i64 0, Value.slice none 0 0]) :: Chunk.box bm 85 [Tr.raw (.slice aT nT cT), .ints K, Tr.raw (.slice aS nS cS), .int G, Tr.raw (.map (some bj)), Tr.raw (.slice aE nE cE), .int x, Tr.raw (.map (some bs)), Tr.raw (.slice aI nI cI), Tr.raw (.slice aO nO cO), Tr.raw (.slice aF nF cF), Tr.raw (.slice aC nC cC)] :: Chunk.own aT cT 3 65 (T.map Tube.row) :: Chunk.own aS cS 5 63 (L.map SlotM.row) :: Chunk.own aE cE 1 3 (intRows E) :: Chunk.own aI cI 1 3 (intRows LI) :: Chunk.own aO cO 1 3 (intRows LO) :: Chunk.own aF cF 1 3 (intRows LF) :: Chunk.own aC cC 1 3 (intRows LC) :: []) (fun _ => undef) (fun _ => false)) (by simp only [upd_same, updD_same, upd_ne, updD_ne, ne_eq, Nat.reduceEqDiff, not_false_eq_true, stg_t, stg_f, vAd_s, vCap_s, blk_p, List.cons_append, List.nil_append, b2n_t, b2n_f]; exact goXm) (fun _ => rfl) ?_ | fail
 apply YSeq.w (by intro _ _ _; rfl)
 ·intro ξ S h1 h2 h3 h4
  have hN0_1 := closed_false h1 h3 (k := 1) rfl (by decide)
  have hN0_22 := closed_false hN0_1 h3 (k := 22) rfl (by decide)
  have hN0_24 := closed_false h1 h3 (k := 24) rfl (by decide)
  try simp only [upd_same, updD_same, upd_ne, updD_ne, ne_eq, Nat.reduceEqDiff, not_false_eq_true, stg_t, stg_f, vAd_s, vCap_s, blk_p, List.cons_append, List.nil_append, b2n_t, b2n_f, hN0_22, hN0_24]
  exact goW
 ·intro ξ v; rfl
 ·intro ξ k v S h3 hn hk
  first
  |rfl
 apply YSeq.w (by intro _ _ _; rfl)
 ·intro ξ S h1 h2 h3 h4
  have hN1_22 := closed_false h1 h3 (k := 22) rfl (by decide)
  have hN1_24 := closed_false h1 h3 (k := 24) rfl (by decide)
  try simp only [upd_same, updD_same, upd_ne, updD_ne, ne_eq, Nat.reduceEqDiff, not_false_eq_true, stg_t, stg_f, vAd_s, vCap_s, blk_p, List.cons_append, List.nil_append, b2n_t, b2n_f, hN1_22, hN1_24]
  exact goW
 ·intro ξ v; rfl
 ·intro ξ k v S h3 hn hk
  first
  |rfl
 apply YSeq.w (by intro _ _ _; rfl)
 ·intro ξ S h1 h2 h3 h4
  have hN2_3 := closed_false h1 h3 (k := 3) rfl (by decide)
  have hN2_20 := closed_false hN2_3 h3 (k := 20) rfl (by decide)
  have hN2_21 := closed_false hN2_20 h3 (k := 21) rfl (by decide)
  have hN2_22 := closed_false hN2_21 h3 (k := 22) rfl (by decide)
  have hN2_24 := closed_false h1 h3 (k := 24) rfl (by decide)
  try simp only [upd_same, updD_same, upd_ne, updD_ne, ne_eq, Nat.reduceEqDiff, not_false_eq_true, stg_t, stg_f, vAd_s, vCap_s, blk_p, List.cons_append, List.nil_append, b2n_t, b2n_f, hN2_22, hN2_24]
  exact goW
 ·intro ξ v; rfl
 ·intro ξ k v S h3 hn hk
  first
  |rfl
 apply YSeq.w (by intro _ _ _; rfl)
 ·intro ξ S h1 h2 h3 h4
  have hN3_20 := closed_false h1 h3 (k := 20) rfl (by decide)
  have hN3_21 := closed_false hN3_20 h3 (k := 21) rfl (by decide)
  have hN3_22 := closed_false hN3_21 h3 (k := 22) rfl (by decide)
  have hN3_24 := closed_false h1 h3 (k := 24) rfl (by decide)
  try simp only [upd_same, updD_same, upd_ne, updD_ne, ne_eq, Nat.reduceEqDiff, not_false_eq_true, stg_t, stg_f, vAd_s, vCap_s, blk_p, List.cons_append, List.nil_append, b2n_t, b2n_f, hN3_22, hN3_24]
  exact goW
 ·intro ξ v; rfl
 ·intro ξ k v S h3 hn hk
  first
  |rfl
 apply YSeq.w (by intro _ _ _; rfl)
 ·intro ξ S h1 h2 h3 h4
  have hN4_5 := closed_false h1 h3 (k := 5) rfl (by decide)
  have hN4_6 := closed_false hN4_5 h3 (k := 6) rfl (by decide)
  have hN4_7 := closed_false hN4_6 h3 (k := 7) rfl (by decide)
  have hN4_10 := closed_false hN4_7 h3 (k := 10) rfl (by decide)
  have hN4_11 := closed_false hN4_10 h3 (k := 11) rfl (by decide)
  have hN4_20 := closed_false hN4_11 h3 (k := 20) rfl (by decide)
  have hN4_21 := closed_false hN4_20 h3 (k := 21) rfl (by decide)
  have hN4_22 := closed_false hN4_21 h3 (k := 22) rfl (by decide)
  have hN4_24 := closed_false h1 h3 (k := 24) rfl (by decide)
  try simp only [upd_same, updD_same, upd_ne, updD_ne, ne_eq, Nat.reduceEqDiff, not_false_eq_true, stg_t, stg_f, vAd_s, vCap_s, blk_p, List.cons_append, List.nil_append, b2n_t, b2n_f, hN4_22, hN4_24]
  exact goW
 ·intro ξ v; rfl
 ·intro ξ k v S h3 hn hk
  first
  |rfl
 apply YSeq.w (by intro _ _ _; rfl)
 ·intro ξ S h1 h2 h3 h4
  have hN5_6 := closed_false h1 h3 (k := 6) rfl (by decide)
  have hN5_7 := closed_false hN5_6 h3 (k := 7) rfl (by decide)
  have hN5_10 := closed_false hN5_7 h3 (k := 10) rfl (by decide)
  have hN5_11 := closed_false hN5_10 h3 (k := 11) rfl (by decide)
  have hN5_20 := closed_false hN5_11 h3 (k := 20) rfl (by decide)
  have hN5_21 := closed_false hN5_20 h3 (k := 21) rfl (by decide)
  have hN5_22 := closed_false hN5_21 h3 (k := 22) rfl (by decide)
  have hN5_24 := closed_false h1 h3 (k := 24) rfl (by decide)
  try simp only [upd_same, updD_same, upd_ne, updD_ne, ne_eq, Nat.reduceEqDiff, not_false_eq_true, stg_t, stg_f, vAd_s, vCap_s, blk_p, List.cons_append, List.nil_append, b2n_t, b2n_f, hN5_22, hN5_24]
  exact goW
 ·intro ξ v; rfl
 ·intro ξ k v S h3 hn hk
  first
  |rfl
 apply YSeq.w (by intro _ _ _; rfl)
 ·intro ξ S h1 h2 h3 h4
  have hN6_7 := closed_false h1 h3 (k := 7) rfl (by decide)
  have hN6_10 := closed_false hN6_7 h3 (k := 10) rfl (by decide)
  have hN6_11 := closed_false hN6_10 h3 (k := 11) rfl (by decide)
  have hN6_20 := closed_false hN6_11 h3 (k := 20) rfl (by decide)
  have hN6_21 := closed_false hN6_20 h3 (k := 21) rfl (by decide)
  have hN6_22 := closed_false hN6_21 h3 (k := 22) rfl (by decide)
  have hN6_24 := closed_false h1 h3 (k := 24) rfl (by decide)
  try simp only [upd_same, updD_same, upd_ne, updD_ne, ne_eq, Nat.reduceEqDiff, not_false_eq_true, stg_t, stg_f, vAd_s, vCap_s, blk_p, List.cons_append, List.nil_append, b2n_t, b2n_f, hN6_22, hN6_24]
  exact goW
 ·intro ξ v; rfl
 ·intro ξ k v S h3 hn hk
  first
  |rfl
 apply YSeq.w (by intro _ _ _; rfl)
 ·intro ξ S h1 h2 h3 h4
  have hN7_10 := closed_false h1 h3 (k := 10) rfl (by decide)
  have hN7_11 := closed_false hN7_10 h3 (k := 11) rfl (by decide)
  have hN7_20 := closed_false hN7_11 h3 (k := 20) rfl (by decide)
  have hN7_21 := closed_false hN7_20 h3 (k := 21) rfl (by decide)
  have hN7_22 := closed_false hN7_21 h3 (k := 22) rfl (by decide)
  have hN7_24 := closed_false h1 h3 (k := 24) rfl (by decide)
  try simp only [upd_same, updD_same, upd_ne, updD_ne, ne_eq, Nat.reduceEqDiff, not_false_eq_true, stg_t, stg_f, vAd_s, vCap_s, blk_p, List.cons_append, List.nil_append, b2n_t, b2n_f, hN7_22, hN7_24]
  exact goW
 ·intro ξ v; rfl
 ·intro ξ k v S h3 hn hk
  first
  |rfl
 apply YSeq.w (by intro _ _ _; rfl)
 ·intro ξ S h1 h2 h3 h4
  have hN8_9 := closed_false h1 h3 (k := 9) rfl (by decide)
  have hN8_10 := closed_false hN8_9 h3 (k := 10) rfl (by decide)
  have hN8_11 := closed_false hN8_10 h3 (k := 11) rfl (by decide)
  have hN8_20 := closed_false hN8_11 h3 (k := 20) rfl (by decide)
  have hN8_21 := closed_false hN8_20 h3 (k := 21) rfl (by decide)
  have hN8_22 := closed_false hN8_21 h3 (k := 22) rfl (by decide)
  have hN8_24 := closed_false h1 h3 (k := 24) rfl (by decide)
  try simp only [upd_same, updD_same, upd_ne, updD_ne, ne_eq, Nat.reduceEqDiff, not_false_eq_true, stg_t, stg_f, vAd_s, vCap_s, blk_p, List.cons_append, List.nil_append, b2n_t, b2n_f, hN8_22, hN8_24]
  exact goW
 ·intro ξ v; rfl
 ·intro ξ k v S h3 hn hk
  first
  |rfl
 apply YSeq.w (by intro _ _ _; rfl)
 ·intro ξ S h1 h2 h3 h4
  have hN9_10 := closed_false h1 h3 (k := 10) rfl (by decide)
  have hN9_11 := closed_false hN9_10 h3 (k := 11) rfl (by decide)
  have hN9_20 := closed_false hN9_11 h3 (k := 20) rfl (by decide)
  have hN9_21 := closed_false hN9_20 h3 (k := 21) rfl (by decide)
  have hN9_22 := closed_false hN9_21 h3 (k := 22) rfl (by decide)
  have hN9_24 := closed_false h1 h3 (k := 24) rfl (by decide)
  try simp only [upd_same, updD_same, upd_ne, updD_ne, ne_eq, Nat.reduceEqDiff, not_false_eq_true, stg_t, stg_f, vAd_s, vCap_s, blk_p, List.cons_append, List.nil_append, b2n_t, b2n_f, hN9_22, hN9_24]
  exact goW
 ·intro ξ v; rfl
 ·intro ξ k v S h3 hn hk
  first
  |rfl
 apply YSeq.w (by intro _ _ _; rfl)
 ·intro ξ S h1 h2 h3 h4
  have hN10_11 := closed_false h1 h3 (k := 11) rfl (by decide)
  have hN10_20 := closed_false hN10_11 h3 (k := 20) rfl (by decide)
  have hN10_21 := closed_false hN10_20 h3 (k := 21) rfl (by decide)
  have hN10_22 := closed_false hN10_21 h3 (k := 22) rfl (by decide)
  have hN10_24 := closed_false h1 h3 (k := 24) rfl (by decide)
  try simp only [upd_same, updD_same, upd_ne, updD_ne, ne_eq, Nat.reduceEqDiff, not_false_eq_true, stg_t, stg_f, vAd_s, vCap_s, blk_p, List.cons_append, List.nil_append, b2n_t, b2n_f, hN10_22, hN10_24]
  exact OpV.lookup_eqG rfl rfl goPk hmr2
 ·intro ξ v; rfl
 ·intro ξ k v S h3 hn hk
  first
  |rfl
 apply YSeq.w (by intro _ _ _; rfl)
 ·intro ξ S h1 h2 h3 h4
  have hN11_20 := closed_false h1 h3 (k := 20) rfl (by decide)
  have hN11_21 := closed_false hN11_20 h3 (k := 21) rfl (by decide)
  have hN11_22 := closed_false hN11_21 h3 (k := 22) rfl (by decide)
  have hN11_24 := closed_false h1 h3 (k := 24) rfl (by decide)
  try simp only [upd_same, updD_same, upd_ne, updD_ne, ne_eq, Nat.reduceEqDiff, not_false_eq_true, stg_t, stg_f, vAd_s, vCap_s, blk_p, List.cons_append, List.nil_append, b2n_t, b2n_f, hN11_22, hN11_24]
  exact goW
 ·intro ξ v; rfl
 ·intro ξ k v S h3 hn hk
  first
  |rfl
 apply YSeq.w (by intro _ _ _; rfl)
 ·intro ξ S h1 h2 h3 h4
  have hN12_13 := closed_false h1 h3 (k := 13) rfl (by decide)
  have hN12_14 := closed_false hN12_13 h3 (k := 14) rfl (by decide)
  have hN12_15 := closed_false hN12_14 h3 (k := 15) rfl (by decide)
  have hN12_18 := closed_false hN12_15 h3 (k := 18) rfl (by decide)
  have hN12_19 := closed_false hN12_18 h3 (k := 19) rfl (by decide)
  have hN12_22 := closed_false hN12_19 h3 (k := 22) rfl (by decide)
  have hN12_24 := closed_false h1 h3 (k := 24) rfl (by decide)
  try simp only [upd_same, updD_same, upd_ne, updD_ne, ne_eq, Nat.reduceEqDiff, not_false_eq_true, stg_t, stg_f, vAd_s, vCap_s, blk_p, List.cons_append, List.nil_append, b2n_t, b2n_f, hN12_19, hN12_22, hN12_24]
  exact goW
 ·intro ξ v; rfl
 ·intro ξ k v S h3 hn hk
  first
  |rfl
 apply YSeq.w (by intro _ _ _; rfl)
 ·intro ξ S h1 h2 h3 h4
  have hN13_14 := closed_false h1 h3 (k := 14) rfl (by decide)
  have hN13_15 := closed_false hN13_14 h3 (k := 15) rfl (by decide)
  have hN13_18 := closed_false hN13_15 h3 (k := 18) rfl (by decide)
  have hN13_19 := closed_false hN13_18 h3 (k := 19) rfl (by decide)
  have hN13_22 := closed_false hN13_19 h3 (k := 22) rfl (by decide)
  have hN13_24 := closed_false h1 h3 (k := 24) rfl (by decide)
  try simp only [upd_same, updD_same, upd_ne, updD_ne, ne_eq, Nat.reduceEqDiff, not_false_eq_true, stg_t, stg_f, vAd_s, vCap_s, blk_p, List.cons_append, List.nil_append, b2n_t, b2n_f, hN13_19, hN13_22, hN13_24]
  exact goW
 ·intro ξ v; rfl
 ·intro ξ k v S h3 hn hk
  first
  |rfl
 apply YSeq.w (by intro _ _ _; rfl)
 ·intro ξ S h1 h2 h3 h4
  have hN14_15 := closed_false h1 h3 (k := 15) rfl (by decide)
  have hN14_18 := closed_false hN14_15 h3 (k := 18) rfl (by decide)
  have hN14_19 := closed_false hN14_18 h3 (k := 19) rfl (by decide)
  have hN14_22 := closed_false hN14_19 h3 (k := 22) rfl (by decide)
  have hN14_24 := closed_false h1 h3 (k := 24) rfl (by decide)
  try simp only [upd_same, updD_same, upd_ne, updD_ne, ne_eq, Nat.reduceEqDiff, not_false_eq_true, stg_t, stg_f, vAd_s, vCap_s, blk_p, List.cons_append, List.nil_append, b2n_t, b2n_f, hN14_19, hN14_22, hN14_24]
  exact goW
 ·intro ξ v; rfl
 ·intro ξ k v S h3 hn hk
  first
  |rfl
 apply YSeq.w (by intro _ _ _; rfl)
 ·intro ξ S h1 h2 h3 h4
  have hN15_18 := closed_false h1 h3 (k := 18) rfl (by decide)
  have hN15_19 := closed_false hN15_18 h3 (k := 19) rfl (by decide)
  have hN15_22 := closed_false hN15_19 h3 (k := 22) rfl (by decide)
  have hN15_24 := closed_false h1 h3 (k := 24) rfl (by decide)
  try simp only [upd_same, updD_same, upd_ne, updD_ne, ne_eq, Nat.reduceEqDiff, not_false_eq_true, stg_t, stg_f, vAd_s, vCap_s, blk_p, List.cons_append, List.nil_append, b2n_t, b2n_f, hN15_19, hN15_22, hN15_24]
  exact goW
 ·intro ξ v; rfl
 ·intro ξ k v S h3 hn hk
  first
  |rfl
 apply YSeq.w (by intro _ _ _; rfl)
 ·intro ξ S h1 h2 h3 h4
  have hN16_17 := closed_false h1 h3 (k := 17) rfl (by decide)
  have hN16_18 := closed_false hN16_17 h3 (k := 18) rfl (by decide)
  have hN16_19 := closed_false hN16_18 h3 (k := 19) rfl (by decide)
  have hN16_22 := closed_false hN16_19 h3 (k := 22) rfl (by decide)
  have hN16_24 := closed_false h1 h3 (k := 24) rfl (by decide)
  try simp only [upd_same, updD_same, upd_ne, updD_ne, ne_eq, Nat.reduceEqDiff, not_false_eq_true, stg_t, stg_f, vAd_s, vCap_s, blk_p, List.cons_append, List.nil_append, b2n_t, b2n_f, hN16_19, hN16_22, hN16_24]
  exact goW
 ·intro ξ v; rfl
 ·intro ξ k v S h3 hn hk
  first
  |rfl
 apply YSeq.w (by intro _ _ _; rfl)
 ·intro ξ S h1 h2 h3 h4
  have hN17_18 := closed_false h1 h3 (k := 18) rfl (by decide)
  have hN17_19 := closed_false hN17_18 h3 (k := 19) rfl (by decide)
  have hN17_22 := closed_false hN17_19 h3 (k := 22) rfl (by decide)
  have hN17_24 := closed_false h1 h3 (k := 24) rfl (by decide)
  try simp only [upd_same, updD_same, upd_ne, updD_ne, ne_eq, Nat.reduceEqDiff, not_false_eq_true, stg_t, stg_f, vAd_s, vCap_s, blk_p, List.cons_append, List.nil_append, b2n_t, b2n_f, hN17_19, hN17_22, hN17_24]
  exact goW
 ·intro ξ v; rfl
 ·intro ξ k v S h3 hn hk
  first
  |rfl
 apply YSeq.w (by intro _ _ _; rfl)
 ·intro ξ S h1 h2 h3 h4
  have hN18_19 := closed_false h1 h3 (k := 19) rfl (by decide)
  have hN18_22 := closed_false hN18_19 h3 (k := 22) rfl (by decide)
  have hN18_24 := closed_false h1 h3 (k := 24) rfl (by decide)
  try simp only [upd_same, updD_same, upd_ne, updD_ne, ne_eq, Nat.reduceEqDiff, not_false_eq_true, stg_t, stg_f, vAd_s, vCap_s, blk_p, List.cons_append, List.nil_append, b2n_t, b2n_f, hN18_19, hN18_22, hN18_24]
  exact OpV.lookup_eqG rfl rfl goPk hmr2
 ·intro ξ v; rfl
 ·intro ξ k v S h3 hn hk
  first
  |rfl
 apply YSeq.callC
 ·intro ξ S h1 h2 h3 h4
  have hN19_22 := closed_false h1 h3 (k := 22) rfl (by decide)
  have hN19_24 := closed_false h1 h3 (k := 24) rfl (by decide)
  try simp only [upd_same, updD_same, upd_ne, updD_ne, ne_eq, Nat.reduceEqDiff, not_false_eq_true, stg_t, stg_f, vAd_s, vCap_s, blk_p, List.cons_append, List.nil_append, b2n_t, b2n_f, h1, hN19_22, hN19_24]
  exact ⟨_, _, _, _, kG, (Evs.cons rfl Evs.nil), goXp, fun v => (by first | exact goXp | (simp only [upd_same, updD_same, upd_ne, updD_ne, ne_eq, Nat.reduceEqDiff, not_false_eq_true, stg_t, stg_f, vAd_s, vCap_s, blk_p, List.cons_append, List.nil_append, b2n_t, b2n_f]; exact goXp))⟩
 ·intro ξ v; rfl
 ·intro ξ k v S h3 hn hk
  first
  |rfl
 apply YSeq.w (by intro _ _ _; rfl)
 ·intro ξ S h1 h2 h3 h4
  have hY20_19 : S 19 = true := h2 19 (by decide)
  have hN20_21 := closed_false h1 h3 (k := 21) rfl (by decide)
  have hN20_22 := closed_false hN20_21 h3 (k := 22) rfl (by decide)
  have hN20_24 := closed_false h1 h3 (k := 24) rfl (by decide)
  try simp only [upd_same, updD_same, upd_ne, updD_ne, ne_eq, Nat.reduceEqDiff, not_false_eq_true, stg_t, stg_f, vAd_s, vCap_s, blk_p, List.cons_append, List.nil_append, b2n_t, b2n_f, hY20_19, hN20_22, hN20_24]
  exact goW
 ·intro ξ v; rfl
 ·intro ξ k v S h3 hn hk
  first
  |rfl
 apply YSeq.w (by intro _ _ _; rfl)
 ·intro ξ S h1 h2 h3 h4
  have hY21_20 : S 20 = true := h2 20 (by decide)
  have hY21_19 : S 19 = true := h3 20 _ rfl hY21_20 19 (by decide)
  have hN21_22 := closed_false h1 h3 (k := 22) rfl (by decide)
  have hN21_24 := closed_false h1 h3 (k := 24) rfl (by decide)
  try simp only [upd_same, updD_same, upd_ne, updD_ne, ne_eq, Nat.reduceEqDiff, not_false_eq_true, stg_t, stg_f, vAd_s, vCap_s, blk_p, List.cons_append, List.nil_append, b2n_t, b2n_f, hY21_19, hN21_22, hN21_24]
  exact goW
 ·intro ξ v; rfl
 ·intro ξ k v S h3 hn hk
  first
  |rfl
 apply YSeq.append ((k + 1))
 ·intro ξ S h1 h2 h3 h4
  have hY22_19 : S 19 = true := h2 19 (by decide)
  have hN22_24 := closed_false h1 h3 (k := 24) rfl (by decide)
  simp only [upd_same, updD_same, upd_ne, updD_ne, ne_eq, Nat.reduceEqDiff, not_false_eq_true, stg_t, stg_f, vAd_s, vCap_s, blk_p, List.cons_append, List.nil_append, b2n_t, b2n_f, hY22_19, h1, hN22_24]
  refine ⟨_, _, _, _, _, _, rfl, rfl, goXp, (by first | rfl | (simp; done) | omega), (by first | rfl | omega | (simp; done) | (simp; omega)), (by first | omega | (simp; done) | (simp; omega)), (by first | omega | (simp; done) | (simp; omega)), fun ad' cap' => ?_⟩
  exact goXm
 apply YSeq.w (by intro _ _ _; rfl)
 ·intro ξ S h1 h2 h3 h4
  have hY23_19 : S 19 = true := h2 19 (by decide)
  have hY23_22 : S 22 = true := h2 22 (by decide)
  have hN23_24 := closed_false h1 h3 (k := 24) rfl (by decide)
  try simp only [upd_same, updD_same, upd_ne, updD_ne, ne_eq, Nat.reduceEqDiff, not_false_eq_true, stg_t, stg_f, vAd_s, vCap_s, blk_p, List.cons_append, List.nil_append, b2n_t, b2n_f, hY23_19, hY23_22, hN23_24]
  exact goW
 ·intro ξ v; rfl
 ·intro ξ k v S h3 hn hk
  first
  |rfl
  |skip
   have hY23_22 : S 22 = true := h3 23 _ rfl hn 22 (by decide)
   simp only [upd_S hY23_22 hk]
 apply YSeq.store
 ·intro ξ S h1 h2 h3 h4
  have hY24_19 : S 19 = true := h2 19 (by decide)
  have hY24_22 : S 22 = true := h2 22 (by decide)
  simp only [upd_same, updD_same, upd_ne, updD_ne, ne_eq, Nat.reduceEqDiff, not_false_eq_true, stg_t, stg_f, vAd_s, vCap_s, blk_p, List.cons_append, List.nil_append, b2n_t, b2n_f, hY24_19, hY24_22, h1]
  refine ⟨_, _, _, _, _, _, _, rfl, rfl, inferInstance, goXp, rfl, Nat.le_of_ble_eq_true rfl, ?_⟩
  exact goXm
 refine YSeq.nil fun ξ hf => ?_
 refine ⟨[(0, _), (2, _), (3, _), (46, _), (47, _), (48, _)], _, Ent.trans (Ent.eqc rfl (by first | (simp only [upd_same, updD_same, upd_ne, updD_ne, ne_eq, Nat.reduceEqDiff, not_false_eq_true, stg_t, stg_f, vAd_s, vCap_s, blk_p, List.cons_append, List.nil_append, b2n_t, b2n_f, ownV, slV, ptV] <;> rfl) | rfl)) (Ent.sub goSub), ?_⟩
 clear hf
 generalize vAd (ξ 22) = ad74
 generalize vCap (ξ 22) = cap74
 repeat (first | refine InB.norm ?_ | refine Then.norm ?_)
 refine Cw.ent (hback _ _ _ _ _ goPk goPk) ?_
 clear hback hmr2
 repeat' (first | refine goH ?_ | refine goV ?_ | refine goB (fun b => ?_) | refine goC (fun ad cap => ?_) | refine goI ?_ | (refine Cw.k_cond ?_; first | (refine Cw.cond_dec rfl ?_ ?_ <;> intro hc <;> try omega) | refine Cw.cond_bool rfl ?_ ?_ <;> intro hc) | refine goR ?_ | refine goP ?_ | apply PSeq.cons | apply PSeq.yes rfl rfl rfl | exact goW | fail)
 exact ⟨_, _, _, (Ent.mk goSub goTk), ⟨k + 1, _, _, _, rfl, ⟨by omega, hsn, by rw [List.length_append, ← hrl]; rfl⟩, rfl, rfl⟩, by omega⟩
end Lg
