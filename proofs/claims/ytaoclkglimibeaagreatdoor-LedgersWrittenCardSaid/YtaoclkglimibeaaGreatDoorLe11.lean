/- A part of the proof of a law of this seat: it adds no condition. By an AI agent. -/
import Derived.Test.YtaoclkglimibeaaGreatDoorLe10
set_option linter.all false
set_option maxRecDepth 100000
set_option maxHeartbeats 8000000
namespace Lg
open Go Go.Proofs

/-! ### Post of the reference; Cancel -/
abbrev ownB (ad : Option Addr) (cap : Nat) (L : List Ps) : Chunk := Chunk.own ad cap 1 3 (intRows (L.map Ps.back))
attribute [local irreducible] entS plS dayB flgO itoaK
theorem postYe_fn (bx n cap : Nat) (ad ad2 : Option Addr) (cap2 : Nat) (L : List Ps) (e : En) (hs : LSt L) (hn : n = L.length) (ht : e.text.size ≤ 1000000000) (hl : e.ls.length ≤ 1000000) :
    Spec Tryz.prog 29 [.ptr bx, .agg e.row] [bkC, ledY bx ad n cap ad2 n cap2, ownE ad cap L, ownB ad2 cap2 L]
      (fun r cs => ∃ (ad' ad2' : Option Addr) (n' cap' cap2' : Nat), r = resR (pstR L e) ∧ n' = (pstR L e).1.length ∧ cs = [bkC, ledY bx ad' n' cap' ad2' n' cap2', ownE ad' cap' (pstR L e).1, ownB ad2' cap2' (pstR L e).1]) := by
  have kc := entryFault_fn e ht (by omega)
  have hL : (L.map enR).length = n := by rw [List.length_map, hn]
  have hLl := hs.ok.1
  have hst : e.row = [.int e.day, .str e.text, .lns e.ls] := rfl
  rw [hst] at kc ⊢
  refine Spec.body Tryz.func29 rfl rfl (Tryz.ntmps29) rfl fun w0 own0 M => ?_
  unfold resR
  by_cases he : entS e ≠ 0
  · rw [pstR_bad he]
    generalize entS e = E at *
    repeat' (first | refine goH ?_ | refine goV ?_ | refine goB (fun b => ?_) | refine goG ?_ | (refine Ops.k_guard ?_; first | (refine Ops.guard_dec rfl rfl (fun hc => ?_) (fun hc => ?_) <;> try (exfalso; omega)) | refine Ops.guard_split rfl rfl (fun hc => ?_) (fun hc => ?_)) | refine goI ?_ | (refine Cw.k_cond ?_; first | (refine Cw.cond_dec rfl (fun hc => ?_) (fun hc => ?_) <;> try (exfalso; omega)) | refine Cw.cond_bool rfl (fun hc => ?_) (fun hc => ?_)) | (refine Ops.k_calla ?_; first | (refine Ops.k_callf 57 ?_; refine Ops.callS kc (Evs.cons rfl Evs.nil) goPm rfl ?_)) | (apply OpW.k_call; first | (apply OpW.k_callf 57; exact OpW.callS kc (Evs.cons rfl Evs.nil) goPm)) | refine goR ?_ | refine goP ?_ | apply PSeq.cons | apply PSeq.yes rfl rfl rfl | exact goW | fail)
    exact Fin.ret (Ent.take goTk) (Outs.many rfl (OutL.cons goOe (OutL.cons goOe OutL.nil)) rfl) ⟨ad, ad2, n, cap, cap2, rfl, hn, rfl⟩
  have he0 : entS e = 0 := by omega
  rw [he0] at kc
  have ho := ent_ok he0
  have hadd : earl L e = false → Spec Tryz.prog 55 [.ptr bx, .agg [.int e.day, .str e.text, .lns e.ls], .int 0] [ledY bx ad n cap ad2 n cap2, ownE ad cap L, ownB ad2 cap2 L]
      (fun r cs => ∃ (ad' ad2' : Option Addr) (n' cap' cap2' : Nat), r = .tup [.int (pstR L e).2.1, .int (pstR L e).2.2] ∧ n' = (pstR L e).1.length ∧ cs = [ledY bx ad' n' cap' ad2' n' cap2', ownE ad' cap' (pstR L e).1, ownB ad2' cap2' (pstR L e).1]) := fun hea => by
    have h1 := postY_fn bx n cap ad ad2 cap2 L ⟨e, 0⟩ hs.ok ⟨ho.len, fun x hx => (ho.line x hx).2⟩ (fun x hx => (ho.line x hx).1) hn
    rw [pstR_ok he0 hea]
    exact h1
  have hear : earl L e = true → pstR L e = (L, 0, 7) := fun h => pstR_early he0 h
  by_cases hn0 : n = 0
  · have hadd := hadd (last_none (by omega))
    clear hear
    generalize pstR L e = R at *
    repeat' (first | refine goH ?_ | refine goV ?_ | refine goB (fun b => ?_) | refine goG ?_ | (refine Ops.k_guard ?_; first | (refine Ops.guard_dec rfl rfl (fun hc => ?_) (fun hc => ?_) <;> try (exfalso; omega)) | refine Ops.guard_split rfl rfl (fun hc => ?_) (fun hc => ?_)) | refine goI ?_ | (refine Cw.k_cond ?_; first | (refine Cw.cond_dec rfl (fun hc => ?_) (fun hc => ?_) <;> try (exfalso; omega)) | refine Cw.cond_bool rfl (fun hc => ?_) (fun hc => ?_)) | (refine Ops.k_calla ?_; first | (refine Ops.k_callf 57 ?_; refine Ops.callS kc (Evs.cons rfl Evs.nil) goPm rfl ?_) | (refine Ops.k_callf 55 ?_; (refine Ops.call hadd (Evs.cons rfl (Evs.cons rfl (Evs.cons rfl Evs.nil))) goPm rfl ?_; rintro r cs' ⟨ad', ad2', n', cap', cap2', rfl, hn', rfl⟩))) | (apply OpW.k_call; first | (apply OpW.k_callf 57; exact OpW.callS kc (Evs.cons rfl Evs.nil) goPm)) | refine goR ?_ | refine goP ?_ | apply PSeq.cons | apply PSeq.yes rfl rfl rfl | exact goW | fail)
    exact Fin.ret (Ent.take goTk) (Outs.many rfl (OutL.cons goOe (OutL.cons goOe OutL.nil)) rfl) ⟨ad', ad2', n', cap', cap2', rfl, hn', rfl⟩
  obtain ⟨q, hq⟩ := at_lt (l := L) (k := n - 1) (by omega)
  have hrow : (L.map enR)[((n : Int) - 1).toNat]? = some [.int q.e.day, .str q.e.text, .lns q.e.ls] := by
    rw [show ((n : Int) - 1).toNat = n - 1 by omega]
    exact rows_at (f := enR) hq
  have hl2 := last_some (e := e) (L := L) (q := q) (by rw [← hn]; exact hq)
  rw [hl2] at hadd hear
  clear hl2 hq
  by_cases hday : e.day < q.e.day
  · rw [hear (decide_eq_true hday)]
    clear hear hadd
    repeat' (first | refine goH ?_ | refine goV ?_ | refine goB (fun b => ?_) | refine goG ?_ | (refine Ops.k_guard ?_; first | (refine Ops.guard_dec rfl rfl (fun hc => ?_) (fun hc => ?_) <;> try (exfalso; omega)) | refine Ops.guard_split rfl rfl (fun hc => ?_) (fun hc => ?_)) | refine goI ?_ | (refine Cw.k_cond ?_; first | (refine Cw.cond_dec rfl (fun hc => ?_) (fun hc => ?_) <;> try (exfalso; omega)) | refine Cw.cond_bool rfl (fun hc => ?_) (fun hc => ?_)) | (refine Ops.k_calla ?_; first | (refine Ops.k_callf 57 ?_; refine Ops.callS kc (Evs.cons rfl Evs.nil) goPm rfl ?_)) | (apply OpW.k_call; first | (apply OpW.k_callf 57; exact OpW.callS kc (Evs.cons rfl Evs.nil) goPm)) | refine goR ?_ | refine goP ?_ | apply PSeq.cons | apply PSeq.yes rfl rfl rfl | exact goW | fail)
    exact Fin.ret (Ent.take goTk) (Outs.many rfl (OutL.cons goOe (OutL.cons goOe OutL.nil)) rfl) ⟨ad, ad2, n, cap, cap2, rfl, hn, rfl⟩
  · have hadd := hadd (decide_eq_false hday)
    clear hear
    generalize pstR L e = R at *
    repeat' (first | refine goH ?_ | refine goV ?_ | refine goB (fun b => ?_) | refine goG ?_ | (refine Ops.k_guard ?_; first | (refine Ops.guard_dec rfl rfl (fun hc => ?_) (fun hc => ?_) <;> try (exfalso; omega)) | refine Ops.guard_split rfl rfl (fun hc => ?_) (fun hc => ?_)) | refine goI ?_ | (refine Cw.k_cond ?_; first | (refine Cw.cond_dec rfl (fun hc => ?_) (fun hc => ?_) <;> try (exfalso; omega)) | refine Cw.cond_bool rfl (fun hc => ?_) (fun hc => ?_)) | (refine Ops.k_calla ?_; first | (refine Ops.k_callf 57 ?_; refine Ops.callS kc (Evs.cons rfl Evs.nil) goPm rfl ?_) | (refine Ops.k_callf 55 ?_; (refine Ops.call hadd (Evs.cons rfl (Evs.cons rfl (Evs.cons rfl Evs.nil))) goPm rfl ?_; rintro r cs' ⟨ad', ad2', n', cap', cap2', rfl, hn', rfl⟩))) | (apply OpW.k_call; first | (apply OpW.k_callf 57; exact OpW.callS kc (Evs.cons rfl Evs.nil) goPm)) | refine goR ?_ | refine goP ?_ | apply PSeq.cons | apply PSeq.yes rfl rfl rfl | exact goW | fail)
    exact Fin.ret (Ent.take goTk) (Outs.many rfl (OutL.cons goOe (OutL.cons goOe OutL.nil)) rfl) ⟨ad', ad2', n', cap', cap2', rfl, hn', rfl⟩
/-! #### Cancel -/
def cancB : ByteArray := ⟨#[99, 97, 110, 99, 101, 108, 32]⟩
def txtK (no : Int) : ByteArray := cancB ++ itoaK no
def cnlP (L : List Ps) (no : Int) (p : Ps) : Ps := ⟨⟨lastDay L, txtK no, p.e.ls.map Ln.neg⟩, no⟩
abbrev cnlR (L : List Ps) (no : Int) : List Ps × Int × Int := cnlO 2000 txtK L no
theorem cnlR_no {L : List Ps} {no : Int} (h : no < 1 ∨ (L.length : Int) < no) : cnlR L no = (L, 0, 8) := by unfold cnlR cnlO; exact if_pos h
theorem cnlR_off {L : List Ps} {no : Int} {p : Ps} (h : ¬ (no < 1 ∨ (L.length : Int) < no)) (hp : L[(no - 1).toNat]? = some p) (ho : offB L no p = true) : cnlR L no = (L, 0, 11) := by
  unfold cnlR cnlO
  rw [if_neg h, hp]
  exact if_pos ho
theorem cnlR_ok {L : List Ps} {no : Int} {p : Ps} (h : ¬ (no < 1 ∨ (L.length : Int) < no)) (hp : L[(no - 1).toNat]? = some p) (ho : offB L no p = false) : cnlR L no = addR L (cnlP L no p) := by
  unfold cnlR cnlO
  rw [if_neg h, hp]
  exact if_neg (by rw [ho]; decide)
theorem txtK_size {no : Int} (h : 1 ≤ no ∧ no ≤ 2000) : (txtK no).size ≤ 28 := by
  have := itoaK_size (x := no) (by omega) (by omega)
  unfold txtK
  rw [ByteArray.size_append, show cancB.size = 7 from rfl]
  omega
theorem cnlP_ok {L : List Ps} (hs : LSt L) {no : Int} {p q : Ps} (h : ¬ (no < 1 ∨ (L.length : Int) < no)) (hp : p ∈ L) (hq : q ∈ L) (hql : lastDay L = q.e.day) : OkP (cnlP L no p) ∧ (∀ x ∈ (cnlP L no p).e.ls, isKey x.acc = true) ∧ (0 ≤ (cnlP L no p).back ∧ (cnlP L no p).back ≤ (L.length : Int)) ∧ (0 ≤ (cnlP L no p).e.day ∧ (cnlP L no p).e.day ≤ 4000) ∧ (cnlP L no p).e.text.size ≤ 60 := by
  have h2 := hs.ok.2 p hp
  have h3 := hs.ok.1
  have h4 := txtK_size (no := no) (by omega)
  refine ⟨⟨by rw [show (cnlP L no p).e.ls = p.e.ls.map Ln.neg from rfl, List.length_map]; exact h2.1, fun x hx => ?_⟩, fun x hx => ?_, ⟨?_, ?_⟩, ?_, ?_⟩
  · obtain ⟨y, hy, rfl⟩ := List.mem_map.1 hx
    have := h2.2 y hy
    unfold Ln.neg
    simp only
    omega
  · obtain ⟨y, hy, rfl⟩ := List.mem_map.1 hx
    exact hs.ky p hp y hy
  · show 0 ≤ no
    omega
  · show no ≤ _
    omega
  · show 0 ≤ lastDay L ∧ lastDay L ≤ 4000
    rw [hql]
    exact hs.dy q hq
  · show (txtK no).size ≤ 60
    omega
theorem lastDay_at {L : List Ps} {q : Ps} (h : L[L.length - 1]? = some q) : lastDay L = q.e.day := by
  unfold lastDay
  rw [List.getLast?_eq_getElem?, h]
theorem neg_snoc {l : List Ln} {k : Nat} {x : Ln} (h : l[k]? = some x) : ((l.take (k + 1)).map Ln.neg).map Ln.row = ((l.take k).map Ln.neg).map Ln.row ++ [[Tr.str x.acc, Tr.int (-x.c)]] := by
  rw [List.take_add_one, h, Option.toList_some, List.map_append, List.map_append]
  rfl
theorem flg_cnl (L : List Ps) (no : Int) (p : Ps) (h1 : 1 ≤ no) (j : Nat) : flgO (L ++ [cnlP L no p]) j = if j = 0 + (no - 1).toNat then true else flgO L j := by
  rw [flgO_snoc]
  show (flgO L j || decide (no = (j : Int) + 1)) = _
  by_cases h : j = 0 + (no - 1).toNat
  · rw [if_pos h, decide_eq_true (by omega), Bool.or_true]
  · rw [if_neg h, decide_eq_false (by omega), Bool.or_false]
theorem cancelX_fn (bx n cap bm : Nat) (ad : Option Addr) (L : List Ps) (m : List (ByteArray × Int)) (no : Int) (hs : LSt L) (hm : MI m L) (hn : n = L.length) :
    Spec Tryz.prog 22 [.ptr bx, .int no] [bkC, ledX bx ad n cap bm, ownX ad cap (flgO L) L, sumC' bm m]
      (fun r cs => ∃ (ad' : Option Addr) (n' cap' : Nat) (m' : List (ByteArray × Int)), r = resR (cnlR L no) ∧ LSt (cnlR L no).1 ∧ MI m' (cnlR L no).1 ∧ n' = (cnlR L no).1.length ∧ cs = [bkC, ledX bx ad' n' cap' bm, ownX ad' cap' (flgO (cnlR L no).1) (cnlR L no).1, sumC' bm m']) := by
  have ko := out_fn no 1 n
  have hL : (rowsF (flgO L) L 0).length = n := by rw [rowsF_len, hn]
  have hLl := hs.ok.1
  refine Spec.body Tryz.func22 rfl rfl (Tryz.ntmps22) rfl fun w0 own0 M => ?_
  unfold resR
  unfold outB at ko
  by_cases hno : no < 1 ∨ (L.length : Int) < no
  · rw [cnlR_no hno]
    rw [← hn] at hno
    rw [decide_eq_true hno] at ko
    repeat' (first | refine goH ?_ | (refine Ops.k_nilCheck ?_; first | (refine Ops.nilCheck_eptr rfl rfl ?_)) | refine goV ?_ | refine goB (fun b => ?_) | refine goC (fun ad cap => ?_) | refine goG ?_ | (refine Ops.k_guard ?_; first | (refine Ops.guard_dec rfl rfl (fun hc => ?_) (fun hc => ?_) <;> try (exfalso; omega)) | refine Ops.guard_split rfl rfl (fun hc => ?_) (fun hc => ?_)) | refine goI ?_ | (refine Cw.k_cond ?_; first | (refine Cw.cond_dec rfl (fun hc => ?_) (fun hc => ?_) <;> try (exfalso; omega)) | refine Cw.cond_bool rfl (fun hc => ?_) (fun hc => ?_)) | (refine Ops.k_calla ?_; first | (refine Ops.k_callf 49 ?_; refine Ops.callV ko (Evs.cons rfl (Evs.cons rfl (Evs.cons rfl Evs.nil))) rfl ?_)) | (apply OpW.k_call; first | (apply OpW.k_callf 49; exact OpW.callV ko (Evs.cons rfl (Evs.cons rfl (Evs.cons rfl Evs.nil))))) | refine goR ?_ | refine goP ?_ | apply PSeq.cons | apply PSeq.yes rfl rfl rfl | exact goW | fail)
    exact Fin.ret (Ent.take goTk) (Outs.many rfl (OutL.cons goOe (OutL.cons goOe OutL.nil)) rfl) ⟨ad, n, cap, m, rfl, hs, hm, hn, rfl⟩
  rw [decide_eq_false (by rw [hn]; exact hno)] at ko
  obtain ⟨p, hp⟩ := at_lt (l := L) (k := (no - 1).toNat) (by omega)
  obtain ⟨q, hq⟩ := at_lt (l := L) (k := n - 1) (by omega)
  have hpm := List.mem_of_getElem? hp
  have hqm := List.mem_of_getElem? hq
  have hpb := hs.bk p hpm
  have hrow : (rowsF (flgO L) L 0)[(no - 1).toNat]? = some [.int p.e.day, .str p.e.text, .lns p.e.ls, .int p.back, .bool (flgO L (0 + (no - 1).toNat))] := rowsF_at (flgO L) hp
  have hrow2 : (rowsF (flgO L) L 0)[((n : Int) - 1).toNat]? = some [.int q.e.day, .str q.e.text, .lns q.e.ls, .int q.back, .bool (flgO L (0 + (n - 1)))] := by
    rw [show ((n : Int) - 1).toNat = n - 1 by omega]
    exact rowsF_at (flgO L) hq
  have hld := lastDay_at (L := L) (q := q) (by rw [← hn]; exact hq)
  have hoff : offB L no p = (decide (0 < p.back) || flgO L (0 + (no - 1).toNat)) := by
    unfold offB flgO
    congr 2
    funext x
    exact decide_eq_decide.2 (by omega)
  have hno2 : 1 ≤ no ∧ no ≤ n := by omega
  cases hfl : flgO L (0 + (no - 1).toNat)
  rotate_left
  · rw [cnlR_off hno hp (by rw [hoff, hfl, Bool.or_true])]
    rw [hfl] at hrow
    repeat' (first | refine goH ?_ | (refine Ops.k_nilCheck ?_; first | (refine Ops.nilCheck_eptr rfl rfl ?_)) | refine goV ?_ | refine goB (fun b => ?_) | refine goC (fun ad cap => ?_) | refine goG ?_ | (refine Ops.k_guard ?_; first | (refine Ops.guard_dec rfl rfl (fun hc => ?_) (fun hc => ?_) <;> try (exfalso; omega)) | refine Ops.guard_split rfl rfl (fun hc => ?_) (fun hc => ?_)) | refine goI ?_ | (refine Cw.k_cond ?_; first | (refine Cw.cond_dec rfl (fun hc => ?_) (fun hc => ?_) <;> try (exfalso; omega)) | refine Cw.cond_bool rfl (fun hc => ?_) (fun hc => ?_)) | (refine Ops.k_calla ?_; first | (refine Ops.k_callf 49 ?_; refine Ops.callV ko (Evs.cons rfl (Evs.cons rfl (Evs.cons rfl Evs.nil))) rfl ?_)) | (apply OpW.k_call; first | (apply OpW.k_callf 49; exact OpW.callV ko (Evs.cons rfl (Evs.cons rfl (Evs.cons rfl Evs.nil))))) | refine goR ?_ | refine goP ?_ | apply PSeq.cons | apply PSeq.yes rfl rfl rfl | exact goW | fail)
    exact Fin.ret (Ent.take goTk) (Outs.many rfl (OutL.cons goOe (OutL.cons goOe OutL.nil)) rfl) ⟨ad, n, cap, m, rfl, hs, hm, hn, rfl⟩
  rw [hfl] at hrow
  by_cases hb : 0 < p.back
  · rw [cnlR_off hno hp (by rw [hoff, decide_eq_true hb, Bool.true_or])]
    repeat' (first | refine goH ?_ | (refine Ops.k_nilCheck ?_; first | (refine Ops.nilCheck_eptr rfl rfl ?_)) | refine goV ?_ | refine goB (fun b => ?_) | refine goC (fun ad cap => ?_) | refine goG ?_ | (refine Ops.k_guard ?_; first | (refine Ops.guard_dec rfl rfl (fun hc => ?_) (fun hc => ?_) <;> try (exfalso; omega)) | refine Ops.guard_split rfl rfl (fun hc => ?_) (fun hc => ?_)) | refine goI ?_ | (refine Cw.k_cond ?_; first | (refine Cw.cond_dec rfl (fun hc => ?_) (fun hc => ?_) <;> try (exfalso; omega)) | refine Cw.cond_bool rfl (fun hc => ?_) (fun hc => ?_)) | (refine Ops.k_calla ?_; first | (refine Ops.k_callf 49 ?_; refine Ops.callV ko (Evs.cons rfl (Evs.cons rfl (Evs.cons rfl Evs.nil))) rfl ?_)) | (apply OpW.k_call; first | (apply OpW.k_callf 49; exact OpW.callV ko (Evs.cons rfl (Evs.cons rfl (Evs.cons rfl Evs.nil))))) | refine goR ?_ | refine goP ?_ | apply PSeq.cons | apply PSeq.yes rfl rfl rfl | exact goW | fail)
    exact Fin.ret (Ent.take goTk) (Outs.many rfl (OutL.cons goOe (OutL.cons goOe OutL.nil)) rfl) ⟨ad, n, cap, m, rfl, hs, hm, hn, rfl⟩
  rw [cnlR_ok hno hp (by rw [hoff, hfl, decide_eq_false hb]; rfl)]
  have hlr : (p.e.ls.map Ln.row).length = p.e.ls.length := List.length_map _
  obtain ⟨c1, c2, c3, c4, c5⟩ := cnlP_ok hs hno hpm hqm hld
  have hst2 := addR_st hs c1 c2 c3 c4 c5
  have hadd := addX_fn bx n cap bm ad (flgO L) L m (cnlP L no p) hs.ok c1 hm hn (by rw [hn]; exact hs.new)
  have hti := itoaK_fn no (by omega) (by omega)
  have hsz := itoaK_size (x := no) (by omega) (by omega)
  have hcb : (⟨#[99, 97, 110, 99, 101, 108, 32]⟩ : ByteArray).size = 7 := rfl
  obtain ⟨hpo1, hpo2⟩ := hs.ok.2 p hpm
  repeat' (first | refine goH ?_ | (refine Ops.k_nilCheck ?_; first | (refine Ops.nilCheck_eptr rfl rfl ?_)) | refine goV ?_ | refine goB (fun b => ?_) | refine goC (fun ad cap => ?_) | refine goG ?_ | (refine Ops.k_guard ?_; first | (refine Ops.guard_dec rfl rfl (fun hc => ?_) (fun hc => ?_) <;> try (exfalso; omega)) | refine Ops.guard_split rfl rfl (fun hc => ?_) (fun hc => ?_)) | refine goI ?_ | (refine Cw.k_cond ?_; first | (refine Cw.cond_dec rfl (fun hc => ?_) (fun hc => ?_) <;> try (exfalso; omega)) | refine Cw.cond_bool rfl (fun hc => ?_) (fun hc => ?_)) | (refine Ops.k_calla ?_; first | (refine Ops.k_callf 49 ?_; refine Ops.callV ko (Evs.cons rfl (Evs.cons rfl (Evs.cons rfl Evs.nil))) rfl ?_)) | (apply OpW.k_call; first | (apply OpW.k_callf 49; exact OpW.callV ko (Evs.cons rfl (Evs.cons rfl (Evs.cons rfl Evs.nil))))) | fail)
  have htx : cancB ++ itoaK no = txtK no := rfl
  first | refine Cw.region_YP (fun ξ S => bkC :: ledX bx ad n cap bm :: ownX ad cap (flgO L) L :: sumC' bm m :: (stg (S 20) [] [Chunk.box (blk (ξ 20)) 78 (stg (S 21) (List.map Tr.raw [.int .i64 0, .string ⟨#[]⟩, .slice none 0 0, .int .i64 0, .bool false]) [.int q.e.day, .str (cancB ++ itoaK no), Tr.raw (.slice none 0 0), .int no, .bool false])] ++ [])) rfl (by decide +kernel) rfl ((fun (ξ : Nat → Value) (S : Nat → Bool) => bkC :: ledX bx ad n cap bm :: ownX ad cap (flgO L) L :: sumC' bm m :: (stg (S 20) [] [Chunk.box (blk (ξ 20)) 78 (stg (S 21) (List.map Tr.raw [.int .i64 0, .string ⟨#[]⟩, .slice none 0 0, .int .i64 0, .bool false]) [.int q.e.day, .str (cancB ++ itoaK no), Tr.raw (.slice none 0 0), .int no, .bool false])] ++ [])) (fun _ => undef) (fun _ => false)) (by simp only [upd_same, updD_same, upd_ne, updD_ne, ne_eq, Nat.reduceEqDiff, not_false_eq_true, stg_t, stg_f, vAd_s, vCap_s, blk_p, List.cons_append, List.nil_append, b2n_t, b2n_f]; exact goXm) (fun _ => rfl) ?_ | fail
  apply YSeq.w (by intro _ _ _; rfl)
  · intro ξ S h1 h2 h3 h4
    have hN0_21 := closed_false h1 h3 (k := 21) rfl (by decide)
    try simp only [upd_same, updD_same, upd_ne, updD_ne, ne_eq, Nat.reduceEqDiff, not_false_eq_true, stg_t, stg_f, vAd_s, vCap_s, blk_p, List.cons_append, List.nil_append, b2n_t, b2n_f, hN0_21]
    exact goW
  · intro ξ v; rfl
  · intro ξ k v S h3 hn hk
    first
    | rfl
  apply YSeq.w (by intro _ _ _; rfl)
  · intro ξ S h1 h2 h3 h4
    have hN1_21 := closed_false h1 h3 (k := 21) rfl (by decide)
    try simp only [upd_same, updD_same, upd_ne, updD_ne, ne_eq, Nat.reduceEqDiff, not_false_eq_true, stg_t, stg_f, vAd_s, vCap_s, blk_p, List.cons_append, List.nil_append, b2n_t, b2n_f, hN1_21]
    exact goW
  · intro ξ v; rfl
  · intro ξ k v S h3 hn hk
    first
    | rfl
  apply YSeq.w (by intro _ _ _; rfl)
  · intro ξ S h1 h2 h3 h4
    have hN2_21 := closed_false h1 h3 (k := 21) rfl (by decide)
    try simp only [upd_same, updD_same, upd_ne, updD_ne, ne_eq, Nat.reduceEqDiff, not_false_eq_true, stg_t, stg_f, vAd_s, vCap_s, blk_p, List.cons_append, List.nil_append, b2n_t, b2n_f, hN2_21]
    exact goW
  · intro ξ v; rfl
  · intro ξ k v S h3 hn hk
    first
    | rfl
  apply YSeq.w (by intro _ _ _; rfl)
  · intro ξ S h1 h2 h3 h4
    have hN3_21 := closed_false h1 h3 (k := 21) rfl (by decide)
    try simp only [upd_same, updD_same, upd_ne, updD_ne, ne_eq, Nat.reduceEqDiff, not_false_eq_true, stg_t, stg_f, vAd_s, vCap_s, blk_p, List.cons_append, List.nil_append, b2n_t, b2n_f, hN3_21]
    exact goW
  · intro ξ v; rfl
  · intro ξ k v S h3 hn hk
    first
    | rfl
  apply YSeq.w (by intro _ _ _; rfl)
  · intro ξ S h1 h2 h3 h4
    have hN4_21 := closed_false h1 h3 (k := 21) rfl (by decide)
    try simp only [upd_same, updD_same, upd_ne, updD_ne, ne_eq, Nat.reduceEqDiff, not_false_eq_true, stg_t, stg_f, vAd_s, vCap_s, blk_p, List.cons_append, List.nil_append, b2n_t, b2n_f, hN4_21]
    exact goW
  · intro ξ v; rfl
  · intro ξ k v S h3 hn hk
    first
    | rfl
  apply YSeq.w (by intro _ _ _; rfl)
  · intro ξ S h1 h2 h3 h4
    have hN5_21 := closed_false h1 h3 (k := 21) rfl (by decide)
    try simp only [upd_same, updD_same, upd_ne, updD_ne, ne_eq, Nat.reduceEqDiff, not_false_eq_true, stg_t, stg_f, vAd_s, vCap_s, blk_p, List.cons_append, List.nil_append, b2n_t, b2n_f, hN5_21]
    exact goW
  · intro ξ v; rfl
  · intro ξ k v S h3 hn hk
    first
    | rfl
  apply YSeq.w (by intro _ _ _; rfl)
  · intro ξ S h1 h2 h3 h4
    have hN6_21 := closed_false h1 h3 (k := 21) rfl (by decide)
    try simp only [upd_same, updD_same, upd_ne, updD_ne, ne_eq, Nat.reduceEqDiff, not_false_eq_true, stg_t, stg_f, vAd_s, vCap_s, blk_p, List.cons_append, List.nil_append, b2n_t, b2n_f, hN6_21]
    exact goW
  · intro ξ v; rfl
  · intro ξ k v S h3 hn hk
    first
    | rfl
  apply YSeq.w (by intro _ _ _; rfl)
  · intro ξ S h1 h2 h3 h4
    have hN7_21 := closed_false h1 h3 (k := 21) rfl (by decide)
    try simp only [upd_same, updD_same, upd_ne, updD_ne, ne_eq, Nat.reduceEqDiff, not_false_eq_true, stg_t, stg_f, vAd_s, vCap_s, blk_p, List.cons_append, List.nil_append, b2n_t, b2n_f, hN7_21]
    exact goW
  · intro ξ v; rfl
  · intro ξ k v S h3 hn hk
    first
    | rfl
  apply YSeq.w (by intro _ _ _; rfl)
  · intro ξ S h1 h2 h3 h4
    have hN8_21 := closed_false h1 h3 (k := 21) rfl (by decide)
    try simp only [upd_same, updD_same, upd_ne, updD_ne, ne_eq, Nat.reduceEqDiff, not_false_eq_true, stg_t, stg_f, vAd_s, vCap_s, blk_p, List.cons_append, List.nil_append, b2n_t, b2n_f, hN8_21]
    exact goW
  · intro ξ v; rfl
  · intro ξ k v S h3 hn hk
    first
    | rfl
  apply YSeq.w (by intro _ _ _; rfl)
  · intro ξ S h1 h2 h3 h4
    have hN9_21 := closed_false h1 h3 (k := 21) rfl (by decide)
    try simp only [upd_same, updD_same, upd_ne, updD_ne, ne_eq, Nat.reduceEqDiff, not_false_eq_true, stg_t, stg_f, vAd_s, vCap_s, blk_p, List.cons_append, List.nil_append, b2n_t, b2n_f, hN9_21]
    exact goW
  · intro ξ v; rfl
  · intro ξ k v S h3 hn hk
    first
    | rfl
  apply YSeq.w (by intro _ _ _; rfl)
  · intro ξ S h1 h2 h3 h4
    have hN10_21 := closed_false h1 h3 (k := 21) rfl (by decide)
    try simp only [upd_same, updD_same, upd_ne, updD_ne, ne_eq, Nat.reduceEqDiff, not_false_eq_true, stg_t, stg_f, vAd_s, vCap_s, blk_p, List.cons_append, List.nil_append, b2n_t, b2n_f, hN10_21]
    exact goW
  · intro ξ v; rfl
  · intro ξ k v S h3 hn hk
    first
    | rfl
  apply YSeq.w (by intro _ _ _; rfl)
  · intro ξ S h1 h2 h3 h4
    have hN11_21 := closed_false h1 h3 (k := 21) rfl (by decide)
    try simp only [upd_same, updD_same, upd_ne, updD_ne, ne_eq, Nat.reduceEqDiff, not_false_eq_true, stg_t, stg_f, vAd_s, vCap_s, blk_p, List.cons_append, List.nil_append, b2n_t, b2n_f, hN11_21]
    exact goW
  · intro ξ v; rfl
  · intro ξ k v S h3 hn hk
    first
    | rfl
  apply YSeq.w (by intro _ _ _; rfl)
  · intro ξ S h1 h2 h3 h4
    have hN12_21 := closed_false h1 h3 (k := 21) rfl (by decide)
    try simp only [upd_same, updD_same, upd_ne, updD_ne, ne_eq, Nat.reduceEqDiff, not_false_eq_true, stg_t, stg_f, vAd_s, vCap_s, blk_p, List.cons_append, List.nil_append, b2n_t, b2n_f, hN12_21]
    exact goW
  · intro ξ v; rfl
  · intro ξ k v S h3 hn hk
    first
    | rfl
  apply YSeq.w (by intro _ _ _; rfl)
  · intro ξ S h1 h2 h3 h4
    have hN13_21 := closed_false h1 h3 (k := 21) rfl (by decide)
    try simp only [upd_same, updD_same, upd_ne, updD_ne, ne_eq, Nat.reduceEqDiff, not_false_eq_true, stg_t, stg_f, vAd_s, vCap_s, blk_p, List.cons_append, List.nil_append, b2n_t, b2n_f, hN13_21]
    exact goW
  · intro ξ v; rfl
  · intro ξ k v S h3 hn hk
    first
    | rfl
  apply YSeq.w (by intro _ _ _; rfl)
  · intro ξ S h1 h2 h3 h4
    have hN14_21 := closed_false h1 h3 (k := 21) rfl (by decide)
    try simp only [upd_same, updD_same, upd_ne, updD_ne, ne_eq, Nat.reduceEqDiff, not_false_eq_true, stg_t, stg_f, vAd_s, vCap_s, blk_p, List.cons_append, List.nil_append, b2n_t, b2n_f, hN14_21]
    exact goW
  · intro ξ v; rfl
  · intro ξ k v S h3 hn hk
    first
    | rfl
  apply YSeq.callC
  · intro ξ S h1 h2 h3 h4
    have hN15_21 := closed_false h1 h3 (k := 21) rfl (by decide)
    try simp only [upd_same, updD_same, upd_ne, updD_ne, ne_eq, Nat.reduceEqDiff, not_false_eq_true, stg_t, stg_f, vAd_s, vCap_s, blk_p, List.cons_append, List.nil_append, b2n_t, b2n_f, hN15_21]
    exact ⟨_, _, _, _, hti, (Evs.cons rfl Evs.nil), goXp, fun v => (by first | exact goXp | (simp only [upd_same, updD_same, upd_ne, updD_ne, ne_eq, Nat.reduceEqDiff, not_false_eq_true, stg_t, stg_f, vAd_s, vCap_s, blk_p, List.cons_append, List.nil_append, b2n_t, b2n_f]; exact goXp))⟩
  · intro ξ v; rfl
  · intro ξ k v S h3 hn hk
    first
    | rfl
  apply YSeq.w (by intro _ _ _; rfl)
  · intro ξ S h1 h2 h3 h4
    have hN16_21 := closed_false h1 h3 (k := 21) rfl (by decide)
    try simp only [upd_same, updD_same, upd_ne, updD_ne, ne_eq, Nat.reduceEqDiff, not_false_eq_true, stg_t, stg_f, vAd_s, vCap_s, blk_p, List.cons_append, List.nil_append, b2n_t, b2n_f, hN16_21]
    exact OpV.w (OpV.catB rfl rfl (by omega))
  · intro ξ v; rfl
  · intro ξ k v S h3 hn hk
    first
    | rfl
  apply YSeq.w (by intro _ _ _; rfl)
  · intro ξ S h1 h2 h3 h4
    have hN17_21 := closed_false h1 h3 (k := 21) rfl (by decide)
    try simp only [upd_same, updD_same, upd_ne, updD_ne, ne_eq, Nat.reduceEqDiff, not_false_eq_true, stg_t, stg_f, vAd_s, vCap_s, blk_p, List.cons_append, List.nil_append, b2n_t, b2n_f, hN17_21]
    exact goW
  · intro ξ v; rfl
  · intro ξ k v S h3 hn hk
    first
    | rfl
  apply YSeq.w (by intro _ _ _; rfl)
  · intro ξ S h1 h2 h3 h4
    have hN18_21 := closed_false h1 h3 (k := 21) rfl (by decide)
    try simp only [upd_same, updD_same, upd_ne, updD_ne, ne_eq, Nat.reduceEqDiff, not_false_eq_true, stg_t, stg_f, vAd_s, vCap_s, blk_p, List.cons_append, List.nil_append, b2n_t, b2n_f, hN18_21]
    exact goW
  · intro ξ v; rfl
  · intro ξ k v S h3 hn hk
    first
    | rfl
  apply YSeq.w (by intro _ _ _; rfl)
  · intro ξ S h1 h2 h3 h4
    have hN19_21 := closed_false h1 h3 (k := 21) rfl (by decide)
    try simp only [upd_same, updD_same, upd_ne, updD_ne, ne_eq, Nat.reduceEqDiff, not_false_eq_true, stg_t, stg_f, vAd_s, vCap_s, blk_p, List.cons_append, List.nil_append, b2n_t, b2n_f, hN19_21]
    exact goW
  · intro ξ v; rfl
  · intro ξ k v S h3 hn hk
    first
    | rfl
  apply YSeq.alloc
  · intro ξ S b h1 h3
    have hN20_21 := closed_false h1 h3 (k := 21) rfl (by decide)
    simp only [upd_same, updD_same, upd_ne, updD_ne, ne_eq, Nat.reduceEqDiff, not_false_eq_true, stg_t, stg_f, vAd_s, vCap_s, blk_p, List.cons_append, List.nil_append, b2n_t, b2n_f, h1, hN20_21]
    exact goXm
  apply YSeq.store
  · intro ξ S h1 h2 h3 h4
    have hY21_20 : S 20 = true := h2 20 (by decide)
    simp only [upd_same, updD_same, upd_ne, updD_ne, ne_eq, Nat.reduceEqDiff, not_false_eq_true, stg_t, stg_f, vAd_s, vCap_s, blk_p, List.cons_append, List.nil_append, b2n_t, b2n_f, hY21_20, h1]
    refine ⟨_, _, _, _, _, _, _, rfl, rfl, inferInstance, goXp, rfl, Nat.le_of_ble_eq_true rfl, ?_⟩
    exact goXm
  refine YSeq.nil fun ξ hf => ?_
  refine ⟨[(0, _), (1, _), (6, _), (7, _)], _, Ent.trans (Ent.eqc rfl (by first | (simp only [upd_same, updD_same, upd_ne, updD_ne, ne_eq, Nat.reduceEqDiff, not_false_eq_true, stg_t, stg_f, vAd_s, vCap_s, blk_p, List.cons_append, List.nil_append, b2n_t, b2n_f, ownV, slV, ptV] <;> rfl) | rfl)) (Ent.sub goSub), ?_⟩
  clear hf
  generalize blk (ξ 20) = b7
  repeat (first | refine InB.norm ?_ | refine Then.norm ?_)
  rw [htx]
  repeat' (first | refine goH ?_ | (refine Ops.k_nilCheck ?_; first | (refine Ops.nilCheck_eptr rfl rfl ?_)) | refine goV ?_ | refine goB (fun b => ?_) | refine goC (fun ad cap => ?_) | refine goG ?_ | (refine Ops.k_guard ?_; first | (refine Ops.guard_dec rfl rfl (fun hc => ?_) (fun hc => ?_) <;> try (exfalso; omega)) | refine Ops.guard_split rfl rfl (fun hc => ?_) (fun hc => ?_)) | refine goI ?_ | (refine Cw.k_cond ?_; first | (refine Cw.cond_dec rfl (fun hc => ?_) (fun hc => ?_) <;> try (exfalso; omega)) | refine Cw.cond_bool rfl (fun hc => ?_) (fun hc => ?_)) | refine goR ?_ | refine goP ?_ | apply PSeq.cons | apply PSeq.yes rfl rfl rfl | exact goW | fail)
  refine Cw.loopI [(0, _), (1, _), (7, _), (61, _), (62, _)] _ (fun g e cc => ∃ (k nl : Nat) (rows : List (List Tr)) (ad2 : Option Addr) (cap2 : Nat), g = p.e.ls.length - k ∧ (k ≤ p.e.ls.length ∧ rows = ((p.e.ls.take k).map Ln.neg).map Ln.row ∧ nl = rows.length ∧ nl = k) ∧ e = [(63, .int k)] ∧ cc = [Chunk.box b7 78 [.int q.e.day, .str (txtK no), Tr.raw (.slice ad2 nl cap2), .int no, .bool false], Chunk.own ad2 cap2 2 57 rows])
    ⟨_, _, _, Ent.trans (Ent.nil 2 57) (Ent.mkP goSub goPm), 0, 0, [], none, 0, rfl, ⟨by omega, rfl, rfl, rfl⟩, rfl, rfl⟩ ?_
  rintro _ _ _ ⟨k, nl, rows, ad2, cap2, rfl, ⟨hk, hrows, hrl, hnk⟩, rfl, rfl⟩
  by_cases hkl : k < p.e.ls.length
  · obtain ⟨x, hx⟩ := at_lt hkl
    have hxc := hpo2 x (List.mem_of_getElem? hx)
    have hr2 : (p.e.ls.map Ln.row)[k]? = some [.str x.acc, .int x.c] := rows_at hx
    have hnx := neg_snoc hx
    rw [← hrows] at hnx
    clear hrows hadd hst2
    repeat' (first | refine goH ?_ | refine goV ?_ | refine goB (fun b => ?_) | refine goC (fun ad cap => ?_) | refine goG ?_ | (refine Ops.k_guard ?_; first | (refine Ops.guard_dec rfl rfl (fun hc => ?_) (fun hc => ?_) <;> try (exfalso; omega)) | refine Ops.guard_split rfl rfl (fun hc => ?_) (fun hc => ?_)) | refine goI ?_ | (refine Cw.k_cond ?_; first | (refine Cw.cond_dec rfl (fun hc => ?_) (fun hc => ?_) <;> try (exfalso; omega)) | refine Cw.cond_bool rfl (fun hc => ?_) (fun hc => ?_)) | refine goR ?_ | refine goP ?_ | apply PSeq.cons | apply PSeq.yes rfl rfl rfl | exact goW | fail)
    exact ⟨_, _, _, (Ent.mk goSub goTk), ⟨k + 1, _, _, _, _, rfl, ⟨by omega, hnx.symm, rfl, by rw [List.length_append, ← hrl, hnk]; rfl⟩, rfl, rfl⟩, by omega⟩
  have hke : k = p.e.ls.length := by omega
  rw [List.take_of_length_le (by omega)] at hrows
  have hrp : rowP (cnlP L no p) false = [.int q.e.day, .str (txtK no), .lns (p.e.ls.map Ln.neg), .int no, .bool false] := by
    unfold rowP cnlP
    rw [hld]
  rw [hrp] at hadd
  unfold addRes at hadd
  refine Cw.ent (Ent.settle_box (b := b7) (i := 2) (kk := 2) (rows := rows) (ts' := [.int q.e.day, .str (txtK no), .lns (p.e.ls.map Ln.neg), .int no, .bool false]) (by exact Perm.cons' goPk (Perm.cons' goPk (List.Perm.refl _))) rfl hrl (by rw [hrows]; rfl)) ?_
  have c1' := c1
  clear c1 c2 c3 c4 c5 hrows
  have hback : ∀ R : List Ps × Int × Int, R = addR L (cnlP L no p) → R.2.2 ≠ 0 → R.1 = L := fun R hR h => by
    by_cases hf : L.length = 2000
    · rw [hR, addR_full hf]
    cases hov : (cnlP L no p).e.ls.any (ovL L)
    · rw [hR, addR_ok hf hov] at h
      exact absurd rfl h
    · rw [hR, addR_ov hf hov]
  have hyes : ∀ R : List Ps × Int × Int, R = addR L (cnlP L no p) → R.2.2 = 0 → R.1 = L ++ [cnlP L no p] := fun R hR h => by
    by_cases hf : L.length = 2000
    · rw [hR, addR_full hf] at h; cases h
    cases hov : (cnlP L no p).e.ls.any (ovL L)
    · rw [hR, addR_ok hf hov]
    · rw [hR, addR_ov hf hov] at h; cases h
  generalize hR : addR L (cnlP L no p) = R at *
  have hback := hback R rfl
  have hyes := hyes R rfl
  by_cases hz : R.2.2 = 0
  · have hyes := hyes hz
    rw [hyes] at hadd hst2
    rw [hyes]
    rw [hz] at hadd
    rw [hz]
    have hpr : (L ++ [cnlP L no p])[(no - 1).toNat]? = some p := by rw [List.getElem?_append_left (by omega)]; exact hp
    have hrow3 : (rowsF (flgO L) (L ++ [cnlP L no p]) 0)[(no - 1).toNat]? = some [.int p.e.day, .str p.e.text, .lns p.e.ls, .int p.back, .bool false] := by
      have := rowsF_at (flgO L) (i := 0) hpr
      rw [hfl] at this
      exact this
    have hset : (rowsF (flgO L) (L ++ [cnlP L no p]) 0).set (no - 1).toNat [.int p.e.day, .str p.e.text, .lns p.e.ls, .int p.back, .bool true] = rowsF (flgO (L ++ [cnlP L no p])) (L ++ [cnlP L no p]) 0 := by
      have h1 := rowsF_set (flgO L) (i := 0) (b := true) hpr
      rw [rowsF_congr (f := fun j => if j = 0 + (no - 1).toNat then true else flgO L j) (g := flgO (L ++ [cnlP L no p])) (fun j _ _ => (flg_cnl L no p (by omega) j).symm)] at h1
      exact h1
    have hl3 : (rowsF (flgO L) (L ++ [cnlP L no p]) 0).length = n + 1 := by rw [rowsF_len, List.length_append, hn]; rfl
    have hn2 : (L ++ [cnlP L no p]).length = n + 1 := by rw [List.length_append, hn]; rfl
    rw [hn2] at hadd
    generalize L ++ [cnlP L no p] = L2 at *
    generalize R.2.1 = r1 at *
    clear hR hback hyes hrp hpr
    have hlt3 : (no - 1).toNat < (rowsF (flgO L) L2 0).length := by rw [hl3]; omega
    repeat' (first | refine goH ?_ | ((fail_if_success refine Ops.k_store ?_); refine goV ?_) | ((fail_if_success refine Ops.k_store ?_); refine goB (fun b => ?_)) | ((fail_if_success refine Ops.k_store ?_); refine goC (fun ad cap => ?_)) | refine goG ?_ | (refine Ops.k_guard ?_; first | (refine Ops.guard_dec rfl rfl (fun hc => ?_) (fun hc => ?_) <;> try (exfalso; omega)) | refine Ops.guard_split rfl rfl (fun hc => ?_) (fun hc => ?_)) | refine goI ?_ | (refine Cw.k_cond ?_; first | (refine Cw.cond_dec rfl (fun hc => ?_) (fun hc => ?_) <;> try (exfalso; omega)) | refine Cw.cond_bool rfl (fun hc => ?_) (fun hc => ?_)) | (refine Ops.k_calla ?_; first | (refine Ops.k_callf 50 ?_; (refine Ops.call hadd (Evs.cons rfl (Evs.cons rfl Evs.nil)) goPm rfl ?_; rintro r cs' ⟨ad', n', cap', m', rfl, hm', rfl, rfl⟩))) | refine goR ?_ | refine goP ?_ | apply PSeq.cons | apply PSeq.yes rfl rfl rfl | exact goW | fail)
    refine Ops.k_store ?_
    refine Ops.store_own1 rfl rfl goPk hrow3 (by decide) ?_
    erw [hset]
    repeat' (first | refine goH ?_ | refine goV ?_ | refine goB (fun b => ?_) | refine goC (fun ad cap => ?_) | refine goG ?_ | (refine Ops.k_guard ?_; first | (refine Ops.guard_dec rfl rfl (fun hc => ?_) (fun hc => ?_) <;> try (exfalso; omega)) | refine Ops.guard_split rfl rfl (fun hc => ?_) (fun hc => ?_)) | refine goI ?_ | (refine Cw.k_cond ?_; first | (refine Cw.cond_dec rfl (fun hc => ?_) (fun hc => ?_) <;> try (exfalso; omega)) | refine Cw.cond_bool rfl (fun hc => ?_) (fun hc => ?_)) | refine goR ?_ | refine goP ?_ | apply PSeq.cons | apply PSeq.yes rfl rfl rfl | exact goW | fail)
    exact Fin.ret (Ent.take goTk) (Outs.many rfl (OutL.cons goOe (OutL.cons goOe OutL.nil)) rfl) ⟨_, n + 1, _, m', rfl, hst2, hm', hn2.symm, rfl⟩
  · have hback := hback hz
    rw [hback] at hadd hst2
    rw [hback]
    generalize R.2.1 = r1 at *
    generalize R.2.2 = r2 at *
    clear hR hyes hrp
    repeat' (first | refine goH ?_ | refine goV ?_ | refine goB (fun b => ?_) | refine goC (fun ad cap => ?_) | refine goG ?_ | (refine Ops.k_guard ?_; first | (refine Ops.guard_dec rfl rfl (fun hc => ?_) (fun hc => ?_) <;> try (exfalso; omega)) | refine Ops.guard_split rfl rfl (fun hc => ?_) (fun hc => ?_)) | refine goI ?_ | (refine Cw.k_cond ?_; first | (refine Cw.cond_dec rfl (fun hc => ?_) (fun hc => ?_) <;> try (exfalso; omega)) | refine Cw.cond_bool rfl (fun hc => ?_) (fun hc => ?_)) | (refine Ops.k_calla ?_; first | (refine Ops.k_callf 50 ?_; (refine Ops.call hadd (Evs.cons rfl (Evs.cons rfl Evs.nil)) goPm rfl ?_; rintro r cs' ⟨ad', n', cap', m', rfl, hm', hn', rfl⟩))) | refine goR ?_ | refine goP ?_ | apply PSeq.cons | apply PSeq.yes rfl rfl rfl | exact goW | fail)
    exact Fin.ret (Ent.take goTk) (Outs.many rfl (OutL.cons goOe (OutL.cons goOe OutL.nil)) rfl) ⟨ad', n', cap', m', rfl, hst2, hm', hn', rfl⟩
end Lg
