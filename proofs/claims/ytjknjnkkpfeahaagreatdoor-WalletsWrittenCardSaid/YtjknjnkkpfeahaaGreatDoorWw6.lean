/- A part of the proof of a law of this seat: it adds no condition. By an AI agent. -/
import Derived.Test.YtjknjnkkpfeahaaGreatDoorWw5
set_option linter.all false
set_option maxRecDepth 100000
set_option maxHeartbeats 8000000
namespace Lg
open Go Go.Proofs

/-! ### coilref.WalletFrom -/
theorem failW_succ (i : Nat) : failW ((i : Int) + 1) = failW ((i + 1 : Nat) : Int) := by rw [Int.natCast_succ]
theorem wal0_imp : ImpL (List.map Tr.raw [.slice none 0 0, .slice none 0 0, .slice none 0 0]) [.strs [], Tr.raw (.slice none 0 0), Tr.raw (.slice none 0 0)] := .cons Imp.nil (.cons Imp.refl (.cons Imp.refl .nil))
theorem drop_one {Ls : List ByteArray} {k : Nat} {ln : ByteArray} (h : Ls[k]? = some ln) (hk : k + 1 = Ls.length) : Ls.drop k = [ln] := by
  rw [List.drop_eq_getElem_cons (by omega), List.drop_eq_nil_of_le (by omega), (List.getElem?_eq_some_iff.1 h).2]
theorem drop_two {Ls : List ByteArray} {k : Nat} {ln : ByteArray} (h : Ls[k]? = some ln) : Ls.drop k = ln :: Ls.drop (k + 1) := by
  have hl := (List.getElem?_eq_some_iff.1 h).1
  rw [List.drop_eq_getElem_cons hl, (List.getElem?_eq_some_iff.1 h).2]
/-- what stands of the wallet before line k -/
def FromI (Ls : List ByteArray) (P : Wal × Int × Int) (k : Nat) (tl : List ByteArray) (i : Nat) (R : List (List Int)) (U : List Int) : Prop :=
  (k = 0 ∧ i = 0 ∧ tl = [] ∧ (R = [] ∧ U = []) ∧ psH Ls = P) ∨ (k = i + 1 ∧ psL tl (Ls.drop k) i R U = P ∧ eLw ∉ tl)
attribute [local irreducible] intRows intsR strRows
theorem from_ok (s : ByteArray) (hs : s.size ≤ 200000) : Spec Tryz.prog 10 [.str s] [numC] (fun r cs => r = psT (psP s) ∧ cs = [numC]) := by
  unfold psP
  rw [if_neg (by omega)]
  have kS0 := split1_fn s (by omega) 10
  have hLl := splS_len 10 s
  have hLc := countByte_le s.data.toList 10
  rw [← str_list] at hLc
  have hLz : ∀ f ∈ splS 10 s, f.size ≤ s.size := fun f hf => splS_size hf
  generalize hP : psH (splS 10 s) = P
  generalize splS 10 s = Ls at *
  have hLR := strRows_len Ls
  refine Spec.body Tryz.func10 rfl rfl (Tryz.ntmps10) rfl fun w0 own0 M => ?_
  repeat' (first | refine goH ?_ | refine goV ?_ | refine goB (fun b => ?_) | refine goC (fun ad cap => ?_) | refine goG ?_ | (refine Ops.k_guard ?_; first | (refine Ops.guard_dec rfl rfl (fun hc => ?_) (fun hc => ?_) <;> try (exfalso; omega)) | refine Ops.guard_split rfl rfl (fun hc => ?_) (fun hc => ?_)) | refine goI ?_ | (refine Cw.k_cond ?_; first | (refine Cw.cond_dec rfl (fun hc => ?_) (fun hc => ?_) <;> try (exfalso; omega)) | refine Cw.cond_bool rfl (fun hc => ?_) (fun hc => ?_)) | (refine Ops.k_calla ?_; first | (refine Ops.k_callf 35 ?_; refine Ops.callV kS0 (Evs.cons rfl (Evs.cons rfl Evs.nil)) rfl ?_)) | (apply OpW.k_call; first | (apply OpW.k_callf 35; exact OpW.callV kS0 (Evs.cons rfl (Evs.cons rfl Evs.nil)))) | refine goR ?_ | refine goP ?_ | apply PSeq.cons | apply PSeq.yes rfl rfl rfl | exact goW | fail)
  rename_i b0
  refine Cw.ent (Ent.imp_box (b := b) (by exact goPk) wal0_imp) ?_
  refine Cw.loopI [(2, _), (5, _), (6, _), (23, _), (24, _)] _ (fun q e cc => ∃ (k : Nat) (tl : List ByteArray) (i : Nat) (R : List (List Int)) (U : List Int) (rR rU : List (List Tr)) (adR : Option Addr) (capR : Nat) (adU : Option Addr) (capU : Nat), q = Ls.length - k ∧ (k < Ls.length ∧ FromI Ls P k tl i R U ∧ tl.length ≤ 1000000 ∧ (rR = intsR R ∧ rU = intRows U) ∧ (rR.length = i ∧ rU.length = i) ∧ ∀ l ∈ R, l.length = tl.length) ∧ e = [(25, .int k)] ∧ cc = [Chunk.box b 29 [.strs tl, Tr.raw (.slice adR i capR), Tr.raw (.slice adU i capU)], Chunk.own adR capR 1 22 rR, Chunk.own adU capU 1 3 rU])
    ⟨_, _, _, Ent.trans (Ent.nil 1 22) (Ent.trans (Ent.nil 1 3) (Ent.mkP goSub goPm)), 0, [], 0, [], [], [], [], none, 0, none, 0, rfl, ⟨by omega, .inl ⟨rfl, rfl, rfl, ⟨rfl, rfl⟩, hP⟩, by simp, ⟨intsR_nilW.symm, intRows_nilW.symm⟩, ⟨rfl, rfl⟩, fun l hl => by cases hl⟩, rfl, rfl⟩ ?_
  clear hP kS0
  rintro _ _ _ ⟨k, tl, i, R, U, _, _, adR, capR, adU, capU, rfl, ⟨hk, hI, htl, ⟨rfl, rfl⟩, ⟨hRl2, hUl⟩, hRn⟩, rfl, rfl⟩
  obtain ⟨ln, hln⟩ := at_lt hk
  have hlr : (strRows Ls)[k]? = some [.str ln] := strRows_at hln
  have hlz := hLz ln (List.mem_of_getElem? hln)
  have kS := split1_fn ln (by omega) 32
  have hWl := splS_len 32 ln
  have hWc := countByte_le ln.data.toList 32
  rw [← str_list] at hWc
  have hTl := strRows_len tl
  have hfz : ∀ f ∈ splS 32 ln, f.size ≤ ln.size := fun f hf => splS_size hf
  obtain ⟨a, t2, hW⟩ : ∃ a tl, splS 32 ln = a :: tl := by
    cases hW : splS 32 ln with
    | nil => exact absurd hW (splS_neW 32 ln)
    | cons a tl => exact ⟨a, tl, rfl⟩
  have hrow := fun n x => rowP_parts (n := n) (x := x) hW
  have kH := containsW_fn (a :: t2) eLw (by rw [hW, List.length_cons] at hWl; rw [List.length_cons]; omega)
  rcases hI with ⟨rfl, rfl, rfl, ⟨rfl, rfl⟩, hP⟩ | ⟨rfl, hP, hne⟩
  · by_cases hlast : 1 = Ls.length
    · have hL1 := drop_one hln hlast
      rw [List.drop_zero] at hL1
      rw [hL1, psH_one] at hP
      rw [← hP]
      rw [hW] at kS
      by_cases hle : ln = eLw
      all_goals
        repeat' (first | refine goH ?_ | (refine Ops.k_b_eql ?_; first | (first | refine Ops.val' rfl (OpV.eqlS_t rfl rfl hle) ?_ | refine Ops.val' rfl (OpV.eqlS_f rfl rfl hle) ?_ | refine Ops.val' rfl (OpV.eql_t rfl rfl (by omega)) ?_ | refine Ops.val' rfl (OpV.eql_f rfl rfl (by omega)) ?_)) | refine goV ?_ | refine goB (fun b => ?_) | refine goC (fun ad cap => ?_) | refine goG ?_ | (refine Ops.k_guard ?_; first | (refine Ops.guard_dec rfl rfl (fun hc => ?_) (fun hc => ?_) <;> try (exfalso; omega)) | refine Ops.guard_split rfl rfl (fun hc => ?_) (fun hc => ?_)) | refine goI ?_ | (refine Cw.k_cond ?_; first | (refine Cw.cond_dec rfl (fun hc => ?_) (fun hc => ?_) <;> try (exfalso; omega)) | refine Cw.cond_bool rfl (fun hc => ?_) (fun hc => ?_)) | (refine Ops.k_calla ?_; first | (refine Ops.k_callf 35 ?_; refine Ops.callV kS (Evs.cons rfl (Evs.cons rfl Evs.nil)) rfl ?_) | (refine Ops.k_callf 36 ?_; refine Ops.callV kH (Evs.cons rfl (Evs.cons rfl Evs.nil)) rfl ?_)) | (apply OpW.k_call; first | (apply OpW.k_callf 35; exact OpW.callV kS (Evs.cons rfl (Evs.cons rfl Evs.nil))) | (apply OpW.k_callf 36; exact OpW.callV kH (Evs.cons rfl (Evs.cons rfl Evs.nil)))) | refine goR ?_ | refine goP ?_ | apply PSeq.cons | apply PSeq.yes rfl rfl rfl | exact goW | fail)
        all_goals first | (exfalso; omega) | (refine Fin.ret (Ent.trans (Ent.imp_box goPk impW0) (Ent.trans (Ent.setbox (s := 2) rfl goPk) (Ent.take goTk))) (Outs.many rfl (OutL.cons goOe (OutL.cons goOe (OutL.cons goOe OutL.nil))) rfl) ⟨rfl, rfl⟩)
    · have hL2 := drop_two hln
      rw [List.drop_zero] at hL2
      have hL3 : Ls.drop (0 + 1) ≠ [] := fun h => by have := congrArg List.length h; rw [List.length_drop] at this; simp at this; omega
      rw [hL2, psH_cons _ hL3, hW, List.head?_cons, List.tail_cons] at hP
      rw [hW] at kS hWl
      rw [List.length_cons] at hWl
      have hQ0 : (strRows (a :: t2))[0]? = some [.str a] := strRows_at rfl
      have hQl := strRows_len (a :: t2)
      rw [List.length_cons] at hQl
      have hdrop2 : (strRows (a :: t2)).drop (1 : Int).toNat = strRows t2 := strRows_tl a t2
      cases g2 : hasW (a :: t2) eLw
      rotate_left
      · rw [if_pos (.inr g2)] at hP
        rw [← hP]
        rw [g2] at kH
        repeat' (first | refine goH ?_ | (refine Ops.k_b_eql ?_; first | (first | refine Ops.val' rfl (OpV.eql_t rfl rfl (by omega)) ?_ | refine Ops.val' rfl (OpV.eql_f rfl rfl (by omega)) ?_)) | refine goV ?_ | refine goB (fun b => ?_) | refine goC (fun ad cap => ?_) | refine goG ?_ | (refine Ops.k_guard ?_; first | (refine Ops.guard_dec rfl rfl (fun hc => ?_) (fun hc => ?_) <;> try (exfalso; omega)) | refine Ops.guard_split rfl rfl (fun hc => ?_) (fun hc => ?_)) | refine goI ?_ | (refine Cw.k_cond ?_; first | (refine Cw.cond_dec rfl (fun hc => ?_) (fun hc => ?_) <;> try (exfalso; omega)) | refine Cw.cond_bool rfl (fun hc => ?_) (fun hc => ?_)) | (refine Ops.k_calla ?_; first | (refine Ops.k_callf 35 ?_; refine Ops.callV kS (Evs.cons rfl (Evs.cons rfl Evs.nil)) rfl ?_) | (refine Ops.k_callf 36 ?_; refine Ops.callV kH (Evs.cons rfl (Evs.cons rfl Evs.nil)) rfl ?_)) | (apply OpW.k_call; first | (apply OpW.k_callf 35; exact OpW.callV kS (Evs.cons rfl (Evs.cons rfl Evs.nil))) | (apply OpW.k_callf 36; exact OpW.callV kH (Evs.cons rfl (Evs.cons rfl Evs.nil)))) | refine goR ?_ | refine goP ?_ | apply PSeq.cons | apply PSeq.yes rfl rfl rfl | exact goW | fail)
        all_goals first | (exfalso; omega) | (refine Fin.ret (Ent.trans (Ent.imp_box goPk impW0) (Ent.trans (Ent.setbox (s := 2) rfl goPk) (Ent.take goTk))) (Outs.many rfl (OutL.cons goOe (OutL.cons goOe (OutL.cons goOe OutL.nil))) rfl) ⟨rfl, rfl⟩)
      rw [g2] at kH
      have hnm := hasW_f g2
      by_cases g1 : a = walB
      rotate_left
      · rw [if_pos (.inl (by simpa using g1))] at hP
        rw [← hP]
        repeat' (first | refine goH ?_ | (refine Ops.k_b_eql ?_; first | (first | refine Ops.val' rfl (OpV.eql_t rfl rfl (by omega)) ?_ | refine Ops.val' rfl (OpV.eql_f rfl rfl (by omega)) ?_)) | (refine Ops.k_b_neq ?_; first | (refine Ops.val' rfl (OpV.neqS_t rfl rfl g1) ?_)) | refine goV ?_ | refine goB (fun b => ?_) | refine goC (fun ad cap => ?_) | refine goG ?_ | (refine Ops.k_guard ?_; first | (refine Ops.guard_dec rfl rfl (fun hc => ?_) (fun hc => ?_) <;> try (exfalso; omega)) | refine Ops.guard_split rfl rfl (fun hc => ?_) (fun hc => ?_)) | refine goI ?_ | (refine Cw.k_cond ?_; first | (refine Cw.cond_dec rfl (fun hc => ?_) (fun hc => ?_) <;> try (exfalso; omega)) | refine Cw.cond_bool rfl (fun hc => ?_) (fun hc => ?_)) | (refine Ops.k_calla ?_; first | (refine Ops.k_callf 35 ?_; refine Ops.callV kS (Evs.cons rfl (Evs.cons rfl Evs.nil)) rfl ?_) | (refine Ops.k_callf 36 ?_; refine Ops.callV kH (Evs.cons rfl (Evs.cons rfl Evs.nil)) rfl ?_)) | (apply OpW.k_call; first | (apply OpW.k_callf 35; exact OpW.callV kS (Evs.cons rfl (Evs.cons rfl Evs.nil))) | (apply OpW.k_callf 36; exact OpW.callV kH (Evs.cons rfl (Evs.cons rfl Evs.nil)))) | refine goR ?_ | refine goP ?_ | apply PSeq.cons | apply PSeq.yes rfl rfl rfl | exact goW | fail)
        all_goals first | (exfalso; omega) | (refine Fin.ret (Ent.trans (Ent.imp_box goPk impW0) (Ent.trans (Ent.setbox (s := 2) rfl goPk) (Ent.take goTk))) (Outs.many rfl (OutL.cons goOe (OutL.cons goOe (OutL.cons goOe OutL.nil))) rfl) ⟨rfl, rfl⟩)
      subst g1
      rw [if_neg (by rw [g2]; simp)] at hP
      have hne2 : eLw ∉ t2 := fun h => hnm (List.mem_cons_of_mem _ h)
      repeat' (first | refine goH ?_ | (refine Ops.k_b_eql ?_; first | (first | refine Ops.val' rfl (OpV.eql_t rfl rfl (by omega)) ?_ | refine Ops.val' rfl (OpV.eql_f rfl rfl (by omega)) ?_)) | (refine Ops.k_b_neq ?_; first | (refine Ops.val' rfl (OpV.neqS_f rfl rfl rfl) ?_)) | (refine Ops.k_slice ?_; first | (refine Ops.slice_l rfl rfl (by omega) rfl ?_; rw [hdrop2])) | refine goV ?_ | refine goB (fun b => ?_) | refine goC (fun ad cap => ?_) | refine goG ?_ | (refine Ops.k_guard ?_; first | (refine Ops.guard_dec rfl rfl (fun hc => ?_) (fun hc => ?_) <;> try (exfalso; omega)) | refine Ops.guard_split rfl rfl (fun hc => ?_) (fun hc => ?_)) | refine goI ?_ | (refine Cw.k_cond ?_; first | (refine Cw.cond_dec rfl (fun hc => ?_) (fun hc => ?_) <;> try (exfalso; omega)) | refine Cw.cond_bool rfl (fun hc => ?_) (fun hc => ?_)) | (refine Ops.k_calla ?_; first | (refine Ops.k_callf 35 ?_; refine Ops.callV kS (Evs.cons rfl (Evs.cons rfl Evs.nil)) rfl ?_) | (refine Ops.k_callf 36 ?_; refine Ops.callV kH (Evs.cons rfl (Evs.cons rfl Evs.nil)) rfl ?_)) | (apply OpW.k_call; first | (apply OpW.k_callf 35; exact OpW.callV kS (Evs.cons rfl (Evs.cons rfl Evs.nil))) | (apply OpW.k_callf 36; exact OpW.callV kH (Evs.cons rfl (Evs.cons rfl Evs.nil)))) | refine goR ?_ | refine goP ?_ | apply PSeq.cons | apply PSeq.yes rfl rfl rfl | exact goW | fail)
      all_goals try (exfalso; omega)
      exact ⟨_, _, _, (Ent.mk goSub goTk), ⟨1, t2, 0, [], [], _, _, _, _, _, _, rfl, ⟨by omega, .inr ⟨rfl, hP, hne2⟩, by omega, ⟨rfl, rfl⟩, ⟨hRl2, hUl⟩, fun l hl => by cases hl⟩, rfl, rfl⟩, by omega⟩
  · by_cases hlast : i + 1 + 1 = Ls.length
    · rw [drop_one hln hlast, psL_one] at hP
      rw [hW] at kS
      by_cases hok : i = tl.length ∧ ln = eLw
      · obtain ⟨hin, hle⟩ := hok
        rw [if_pos ⟨hin, hle⟩] at hP
        subst hin
        rw [← hP]
        have hRR : R.length = tl.length := by rw [← intsR_len, hRl2]
        have hUU : U.length = tl.length := by rw [← intRows_len, hUl]
        have kW := faultAny_fn ⟨tl, R, U⟩ htl hRR hUU hRn
        have hRs := hRl2.symm
        have hUs := hUl.symm
        refine Cw.ent (Ent.trans (Ent.settle_box (b := b) (i := 1) (ad := adR) (kk := 1) (rows := intsR R) (by exact Perm.cons' goPk (Perm.cons' goPk (List.Perm.refl _))) rfl hRs rfl) (Ent.settle_box (b := b) (i := 2) (ad := adU) (kk := 1) (rows := intRows U) (by exact Perm.cons' goPk (Perm.cons' goPk (List.Perm.refl _))) rfl hUs rfl)) ?_
        unfold finW
        clear hP hRn hRl2 hUl hRs hUs hrow hfz
        by_cases hw : walE ⟨tl, R, U⟩ = 0
        · rw [if_neg (by omega)]
          rw [hw] at kW
          repeat' (first | refine goH ?_ | (refine Ops.k_b_eql ?_; first | (first | refine Ops.val' rfl (OpV.eqlS_t rfl rfl hle) ?_ | refine Ops.val' rfl (OpV.eql_t rfl rfl (by omega)) ?_ | refine Ops.val' rfl (OpV.eql_f rfl rfl (by omega)) ?_)) | (refine Ops.k_b_neq ?_; first | (refine Ops.val' rfl (OpV.neq_f rfl rfl rfl) ?_)) | refine goV ?_ | refine goB (fun b => ?_) | refine goC (fun ad cap => ?_) | refine goG ?_ | (refine Ops.k_guard ?_; first | (refine Ops.guard_dec rfl rfl (fun hc => ?_) (fun hc => ?_) <;> try (exfalso; omega)) | refine Ops.guard_split rfl rfl (fun hc => ?_) (fun hc => ?_)) | refine goI ?_ | (refine Cw.k_cond ?_; first | (refine Cw.cond_dec rfl (fun hc => ?_) (fun hc => ?_) <;> try (exfalso; omega)) | refine Cw.cond_bool rfl (fun hc => ?_) (fun hc => ?_)) | (refine Ops.k_calla ?_; first | (refine Ops.k_callf 35 ?_; refine Ops.callV kS (Evs.cons rfl (Evs.cons rfl Evs.nil)) rfl ?_) | (refine Ops.k_callf 6 ?_; refine Ops.callV kW (Evs.cons rfl Evs.nil) rfl ?_)) | (apply OpW.k_call; first | (apply OpW.k_callf 35; exact OpW.callV kS (Evs.cons rfl (Evs.cons rfl Evs.nil))) | (apply OpW.k_callf 6; exact OpW.callV kW (Evs.cons rfl Evs.nil))) | refine goR ?_ | refine goP ?_ | apply PSeq.cons | apply PSeq.yes rfl rfl rfl | exact goW | fail)
          all_goals first | (exfalso; omega) | (refine Fin.ret (Ent.trans (Ent.setbox (s := 2) rfl goPk) (Ent.take goTk)) (Outs.many rfl (OutL.cons goOe (OutL.cons goOe (OutL.cons goOe OutL.nil))) rfl) ⟨rfl, rfl⟩)
        · rw [if_pos hw]
          generalize walE ⟨tl, R, U⟩ = e at *
          repeat' (first | refine goH ?_ | (refine Ops.k_b_eql ?_; first | (first | refine Ops.val' rfl (OpV.eqlS_t rfl rfl hle) ?_ | refine Ops.val' rfl (OpV.eql_t rfl rfl (by omega)) ?_ | refine Ops.val' rfl (OpV.eql_f rfl rfl (by omega)) ?_)) | (refine Ops.k_b_neq ?_; first | (refine Ops.val' rfl (OpV.neq_t rfl rfl hw) ?_)) | refine goV ?_ | refine goB (fun b => ?_) | refine goC (fun ad cap => ?_) | refine goG ?_ | (refine Ops.k_guard ?_; first | (refine Ops.guard_dec rfl rfl (fun hc => ?_) (fun hc => ?_) <;> try (exfalso; omega)) | refine Ops.guard_split rfl rfl (fun hc => ?_) (fun hc => ?_)) | refine goI ?_ | (refine Cw.k_cond ?_; first | (refine Cw.cond_dec rfl (fun hc => ?_) (fun hc => ?_) <;> try (exfalso; omega)) | refine Cw.cond_bool rfl (fun hc => ?_) (fun hc => ?_)) | (refine Ops.k_calla ?_; first | (refine Ops.k_callf 35 ?_; refine Ops.callV kS (Evs.cons rfl (Evs.cons rfl Evs.nil)) rfl ?_) | (refine Ops.k_callf 6 ?_; refine Ops.callV kW (Evs.cons rfl Evs.nil) rfl ?_)) | (apply OpW.k_call; first | (apply OpW.k_callf 35; exact OpW.callV kS (Evs.cons rfl (Evs.cons rfl Evs.nil))) | (apply OpW.k_callf 6; exact OpW.callV kW (Evs.cons rfl Evs.nil))) | refine goR ?_ | refine goP ?_ | apply PSeq.cons | apply PSeq.yes rfl rfl rfl | exact goW | fail)
          all_goals first | (exfalso; omega) | (refine Fin.ret (Ent.trans (Ent.imp_box goPk impW0) (Ent.trans (Ent.setbox (s := 2) rfl goPk) (Ent.take goTk))) (Outs.many rfl (OutL.cons goOe (OutL.cons goOe (OutL.cons goOe OutL.nil))) rfl) ⟨rfl, rfl⟩)
      · rw [if_neg hok, failW_succ] at hP
        rw [← hP]
        by_cases hle : ln = eLw
        all_goals
          repeat' (first | refine goH ?_ | (refine Ops.k_b_eql ?_; first | (first | refine Ops.val' rfl (OpV.eqlS_t rfl rfl hle) ?_ | refine Ops.val' rfl (OpV.eqlS_f rfl rfl hle) ?_ | refine Ops.val' rfl (OpV.eql_t rfl rfl (by omega)) ?_ | refine Ops.val' rfl (OpV.eql_f rfl rfl (by omega)) ?_)) | refine goV ?_ | refine goB (fun b => ?_) | refine goC (fun ad cap => ?_) | refine goG ?_ | (refine Ops.k_guard ?_; first | (refine Ops.guard_dec rfl rfl (fun hc => ?_) (fun hc => ?_) <;> try (exfalso; omega)) | refine Ops.guard_split rfl rfl (fun hc => ?_) (fun hc => ?_)) | refine goI ?_ | (refine Cw.k_cond ?_; first | (refine Cw.cond_dec rfl (fun hc => ?_) (fun hc => ?_) <;> try (exfalso; omega)) | refine Cw.cond_bool rfl (fun hc => ?_) (fun hc => ?_)) | (refine Ops.k_calla ?_; first | (refine Ops.k_callf 35 ?_; refine Ops.callV kS (Evs.cons rfl (Evs.cons rfl Evs.nil)) rfl ?_) | (refine Ops.k_callf 36 ?_; refine Ops.callV kH (Evs.cons rfl (Evs.cons rfl Evs.nil)) rfl ?_)) | (apply OpW.k_call; first | (apply OpW.k_callf 35; exact OpW.callV kS (Evs.cons rfl (Evs.cons rfl Evs.nil))) | (apply OpW.k_callf 36; exact OpW.callV kH (Evs.cons rfl (Evs.cons rfl Evs.nil)))) | refine goR ?_ | refine goP ?_ | apply PSeq.cons | apply PSeq.yes rfl rfl rfl | exact goW | fail)
          all_goals first | (exfalso; omega) | (exfalso; exact hok ⟨by omega, hle⟩) | (refine Fin.ret (Ent.trans (Ent.imp_box goPk impW0) (Ent.trans (Ent.setbox (s := 2) rfl goPk) (Ent.take goTk))) (Outs.many rfl (OutL.cons goOe (OutL.cons goOe (OutL.cons goOe OutL.nil))) rfl) ⟨rfl, rfl⟩)
    · rw [drop_two hln] at hP
      have hL3 : Ls.drop (i + 1 + 1) ≠ [] := fun h => by have := congrArg List.length h; rw [List.length_drop] at this; simp at this; omega
      by_cases hil : i < tl.length
      rotate_left
      · rw [psL_end hil (fun h => by have := congrArg List.length h; rw [List.length_cons, List.length_drop] at this; simp at this; omega), failW_succ] at hP
        rw [← hP]
        rw [hW] at kS
        repeat' (first | refine goH ?_ | (refine Ops.k_b_eql ?_; first | (first | refine Ops.val' rfl (OpV.eql_t rfl rfl (by omega)) ?_ | refine Ops.val' rfl (OpV.eql_f rfl rfl (by omega)) ?_)) | refine goV ?_ | refine goB (fun b => ?_) | refine goC (fun ad cap => ?_) | refine goG ?_ | (refine Ops.k_guard ?_; first | (refine Ops.guard_dec rfl rfl (fun hc => ?_) (fun hc => ?_) <;> try (exfalso; omega)) | refine Ops.guard_split rfl rfl (fun hc => ?_) (fun hc => ?_)) | refine goI ?_ | (refine Cw.k_cond ?_; first | (refine Cw.cond_dec rfl (fun hc => ?_) (fun hc => ?_) <;> try (exfalso; omega)) | refine Cw.cond_bool rfl (fun hc => ?_) (fun hc => ?_)) | (refine Ops.k_calla ?_; first | (refine Ops.k_callf 35 ?_; refine Ops.callV kS (Evs.cons rfl (Evs.cons rfl Evs.nil)) rfl ?_) | (refine Ops.k_callf 36 ?_; refine Ops.callV kH (Evs.cons rfl (Evs.cons rfl Evs.nil)) rfl ?_)) | (apply OpW.k_call; first | (apply OpW.k_callf 35; exact OpW.callV kS (Evs.cons rfl (Evs.cons rfl Evs.nil))) | (apply OpW.k_callf 36; exact OpW.callV kH (Evs.cons rfl (Evs.cons rfl Evs.nil)))) | refine goR ?_ | refine goP ?_ | apply PSeq.cons | apply PSeq.yes rfl rfl rfl | exact goW | fail)
        all_goals first | (exfalso; omega) | (refine Fin.ret (Ent.trans (Ent.imp_box goPk impW0) (Ent.trans (Ent.setbox (s := 2) rfl goPk) (Ent.take goTk))) (Outs.many rfl (OutL.cons goOe (OutL.cons goOe (OutL.cons goOe OutL.nil))) rfl) ⟨rfl, rfl⟩)
      obtain ⟨x, hx⟩ := at_lt hil
      have hfail : rowP tl.length x ln = none → psT P = psT (failW ((i + 1 : Nat) : Int)) := fun h => by rw [← hP, psL_none hL3 hx h, failW_succ]
      rw [hW] at kS hWl hfz
      rw [List.length_cons] at hWl
      clear hW
      have hQ0 : (strRows (a :: t2))[0]? = some [.str a] := strRows_at rfl
      have hQl := strRows_len (a :: t2)
      rw [List.length_cons] at hQl
      have hdrop2 : (strRows (a :: t2)).drop (1 : Int).toNat = strRows t2 := strRows_tl a t2
      have hT2 := strRows_len t2
      have hrx : (strRows tl)[(((i + 1 : Nat) : Int) - 1).toNat]? = some [.str x] := by rw [show (((i + 1 : Nat) : Int) - 1).toNat = i by omega]; exact strRows_at hx
      have hxm := List.mem_of_getElem? hx
      cases g3 : hasW (a :: t2) eLw
      rotate_left
      · rw [g3] at kH
        rw [hfail (by
          rw [hrow, if_neg]
          rintro ⟨e1, _, e3⟩
          rcases List.mem_cons.1 (hasW_t g3) with e | e
          · exact hne (by rw [e, e1]; exact hxm)
          · have := List.all_eq_true.1 e3 eLw e
            cases (show okT eLw = false from by decide).symm.trans this)]
        repeat' (first | refine goH ?_ | (refine Ops.k_b_eql ?_; first | (first | refine Ops.val' rfl (OpV.eql_t rfl rfl (by omega)) ?_ | refine Ops.val' rfl (OpV.eql_f rfl rfl (by omega)) ?_)) | refine goV ?_ | refine goB (fun b => ?_) | refine goC (fun ad cap => ?_) | refine goG ?_ | (refine Ops.k_guard ?_; first | (refine Ops.guard_dec rfl rfl (fun hc => ?_) (fun hc => ?_) <;> try (exfalso; omega)) | refine Ops.guard_split rfl rfl (fun hc => ?_) (fun hc => ?_)) | refine goI ?_ | (refine Cw.k_cond ?_; first | (refine Cw.cond_dec rfl (fun hc => ?_) (fun hc => ?_) <;> try (exfalso; omega)) | refine Cw.cond_bool rfl (fun hc => ?_) (fun hc => ?_)) | (refine Ops.k_calla ?_; first | (refine Ops.k_callf 35 ?_; refine Ops.callV kS (Evs.cons rfl (Evs.cons rfl Evs.nil)) rfl ?_) | (refine Ops.k_callf 36 ?_; refine Ops.callV kH (Evs.cons rfl (Evs.cons rfl Evs.nil)) rfl ?_)) | (apply OpW.k_call; first | (apply OpW.k_callf 35; exact OpW.callV kS (Evs.cons rfl (Evs.cons rfl Evs.nil))) | (apply OpW.k_callf 36; exact OpW.callV kH (Evs.cons rfl (Evs.cons rfl Evs.nil)))) | refine goR ?_ | refine goP ?_ | apply PSeq.cons | apply PSeq.yes rfl rfl rfl | exact goW | fail)
        all_goals first | (exfalso; omega) | (refine Fin.ret (Ent.trans (Ent.imp_box goPk impW0) (Ent.trans (Ent.setbox (s := 2) rfl goPk) (Ent.take goTk))) (Outs.many rfl (OutL.cons goOe (OutL.cons goOe (OutL.cons goOe OutL.nil))) rfl) ⟨rfl, rfl⟩)
      rw [g3] at kH
      by_cases g1 : a = x
      rotate_left
      · rw [hfail (by rw [hrow, if_neg (fun h => g1 h.1)])]
        repeat' (first | refine goH ?_ | (refine Ops.k_b_eql ?_; first | (first | refine Ops.val' rfl (OpV.eql_t rfl rfl (by omega)) ?_ | refine Ops.val' rfl (OpV.eql_f rfl rfl (by omega)) ?_)) | refine goV ?_ | refine goB (fun b => ?_) | refine goC (fun ad cap => ?_) | refine goG ?_ | (refine Ops.k_guard ?_; first | (refine Ops.guard_dec rfl rfl (fun hc => ?_) (fun hc => ?_) <;> try (exfalso; omega)) | refine Ops.guard_split rfl rfl (fun hc => ?_) (fun hc => ?_)) | refine goI ?_ | (refine Cw.k_cond ?_; first | (refine Cw.cond_dec rfl (fun hc => ?_) (fun hc => ?_) <;> try (exfalso; omega)) | refine Cw.cond_bool rfl (fun hc => ?_) (fun hc => ?_)) | exact OpV.w (OpV.neqS_t rfl rfl g1) | (refine Ops.k_calla ?_; first | (refine Ops.k_callf 35 ?_; refine Ops.callV kS (Evs.cons rfl (Evs.cons rfl Evs.nil)) rfl ?_) | (refine Ops.k_callf 36 ?_; refine Ops.callV kH (Evs.cons rfl (Evs.cons rfl Evs.nil)) rfl ?_)) | (apply OpW.k_call; first | (apply OpW.k_callf 35; exact OpW.callV kS (Evs.cons rfl (Evs.cons rfl Evs.nil))) | (apply OpW.k_callf 36; exact OpW.callV kH (Evs.cons rfl (Evs.cons rfl Evs.nil)))) | refine goR ?_ | refine goP ?_ | apply PSeq.cons | apply PSeq.yes rfl rfl rfl | exact goW | fail)
        all_goals first | (exfalso; omega) | (refine Fin.ret (Ent.trans (Ent.imp_box goPk impW0) (Ent.trans (Ent.setbox (s := 2) rfl goPk) (Ent.take goTk))) (Outs.many rfl (OutL.cons goOe (OutL.cons goOe (OutL.cons goOe OutL.nil))) rfl) ⟨rfl, rfl⟩)
      subst g1
      by_cases g2 : t2.length = tl.length + 1
      rotate_left
      · rw [hfail (by rw [hrow, if_neg (fun h => g2 h.2.1)])]
        repeat' (first | refine goH ?_ | (refine Ops.k_b_eql ?_; first | (first | refine Ops.val' rfl (OpV.eql_t rfl rfl (by omega)) ?_ | refine Ops.val' rfl (OpV.eql_f rfl rfl (by omega)) ?_)) | refine goV ?_ | refine goB (fun b => ?_) | refine goC (fun ad cap => ?_) | refine goG ?_ | (refine Ops.k_guard ?_; first | (refine Ops.guard_dec rfl rfl (fun hc => ?_) (fun hc => ?_) <;> try (exfalso; omega)) | refine Ops.guard_split rfl rfl (fun hc => ?_) (fun hc => ?_)) | refine goI ?_ | (refine Cw.k_cond ?_; first | (refine Cw.cond_dec rfl (fun hc => ?_) (fun hc => ?_) <;> try (exfalso; omega)) | refine Cw.cond_bool rfl (fun hc => ?_) (fun hc => ?_)) | exact OpV.w (OpV.neqS_f rfl rfl rfl) | (refine Ops.k_calla ?_; first | (refine Ops.k_callf 35 ?_; refine Ops.callV kS (Evs.cons rfl (Evs.cons rfl Evs.nil)) rfl ?_) | (refine Ops.k_callf 36 ?_; refine Ops.callV kH (Evs.cons rfl (Evs.cons rfl Evs.nil)) rfl ?_)) | (apply OpW.k_call; first | (apply OpW.k_callf 35; exact OpW.callV kS (Evs.cons rfl (Evs.cons rfl Evs.nil))) | (apply OpW.k_callf 36; exact OpW.callV kH (Evs.cons rfl (Evs.cons rfl Evs.nil)))) | refine goR ?_ | refine goP ?_ | apply PSeq.cons | apply PSeq.yes rfl rfl rfl | exact goW | fail)
        all_goals first | (exfalso; omega) | (refine Fin.ret (Ent.trans (Ent.imp_box goPk impW0) (Ent.trans (Ent.setbox (s := 2) rfl goPk) (Ent.take goTk))) (Outs.many rfl (OutL.cons goOe (OutL.cons goOe (OutL.cons goOe OutL.nil))) rfl) ⟨rfl, rfl⟩)
      repeat' (first | refine goH ?_ | (refine Ops.k_b_eql ?_; first | (first | refine Ops.val' rfl (OpV.eql_t rfl rfl (by omega)) ?_ | refine Ops.val' rfl (OpV.eql_f rfl rfl (by omega)) ?_)) | (refine Ops.k_slice ?_; first | (refine Ops.slice_l rfl rfl (by omega) rfl ?_; rw [hdrop2])) | refine goV ?_ | refine goB (fun b => ?_) | refine goC (fun ad cap => ?_) | refine goG ?_ | (refine Ops.k_guard ?_; first | (refine Ops.guard_dec rfl rfl (fun hc => ?_) (fun hc => ?_) <;> try (exfalso; omega)) | refine Ops.guard_split rfl rfl (fun hc => ?_) (fun hc => ?_)) | refine goI ?_ | (refine Cw.k_cond ?_; first | (refine Cw.cond_dec rfl (fun hc => ?_) (fun hc => ?_) <;> try (exfalso; omega)) | refine Cw.cond_bool rfl (fun hc => ?_) (fun hc => ?_)) | exact OpV.w (OpV.neqS_f rfl rfl rfl) | (refine Ops.k_calla ?_; first | (refine Ops.k_callf 35 ?_; refine Ops.callV kS (Evs.cons rfl (Evs.cons rfl Evs.nil)) rfl ?_) | (refine Ops.k_callf 36 ?_; refine Ops.callV kH (Evs.cons rfl (Evs.cons rfl Evs.nil)) rfl ?_)) | (apply OpW.k_call; first | (apply OpW.k_callf 35; exact OpW.callV kS (Evs.cons rfl (Evs.cons rfl Evs.nil))) | (apply OpW.k_callf 36; exact OpW.callV kH (Evs.cons rfl (Evs.cons rfl Evs.nil)))) | refine goR ?_ | refine goP ?_ | apply PSeq.cons | apply PSeq.yes rfl rfl rfl | exact goW | fail)
      all_goals try (exfalso; omega)
      refine Cw.loopI [(2, _), (5, _), (6, _), (7, _), (23, _), (24, _), (25, _), (59, _), (60, _)] _ (fun q e cc => ∃ (j : Nat) (xs : List Int) (rx : List (List Tr)) (ad : Option Addr) (cap : Nat), q = t2.length - j ∧ (j ≤ t2.length ∧ (t2.take j).all okT = true ∧ xs = (t2.take j).map nfT ∧ rx = intRows xs ∧ rx.length = j) ∧ e = [(12, Tr.raw (.slice ad j cap)), (61, .int j)] ∧ cc = [Chunk.own ad cap 1 3 rx])
        ⟨_, _, _, Ent.trans (Ent.nil 1 3) (Ent.mkP goSub goPm), 0, [], [], none, 0, rfl, ⟨by omega, by rw [List.take_zero]; rfl, by rw [List.take_zero]; rfl, intRows_nilW.symm, rfl⟩, rfl, rfl⟩ ?_
      clear kS kH
      rintro _ _ _ ⟨j, xs, _, ad, cap, rfl, ⟨hj, hall, hxs, rfl, hxl⟩, rfl, rfl⟩
      by_cases hjl : j < t2.length
      · obtain ⟨f, hf⟩ := at_lt hjl
        have hrf : (strRows t2)[j]? = some [.str f] := strRows_at hf
        have hff := hfz f (List.mem_cons_of_mem _ (List.mem_of_getElem? hf))
        have kN := numRT f (by omega)
        have htk : t2.take (j + 1) = t2.take j ++ [f] := by rw [List.take_add_one, hf]; rfl
        cases ho : okT f
        · rw [ho] at kN
          rw [hfail (by rw [hrow, if_neg (fun h => by have := List.all_eq_true.1 h.2.2 f (List.mem_of_getElem? hf); rw [ho] at this; cases this)])]
          generalize atoiV f.data.toList = v at *
          repeat' (first | refine goH ?_ | refine goV ?_ | refine goB (fun b => ?_) | refine goC (fun ad cap => ?_) | refine goG ?_ | (refine Ops.k_guard ?_; first | (refine Ops.guard_dec rfl rfl (fun hc => ?_) (fun hc => ?_) <;> try (exfalso; omega)) | refine Ops.guard_split rfl rfl (fun hc => ?_) (fun hc => ?_)) | refine goI ?_ | (refine Cw.k_cond ?_; first | (refine Cw.cond_dec rfl (fun hc => ?_) (fun hc => ?_) <;> try (exfalso; omega)) | refine Cw.cond_bool rfl (fun hc => ?_) (fun hc => ?_)) | (refine Ops.k_calla ?_; first | (refine Ops.k_callf 38 ?_; (refine Ops.call kN (Evs.cons rfl (Evs.cons rfl Evs.nil)) goPm rfl ?_; rintro r cs' ⟨rfl, rfl⟩))) | refine goR ?_ | refine goP ?_ | apply PSeq.cons | apply PSeq.yes rfl rfl rfl | exact goW | fail)
          all_goals first | (exfalso; omega) | (refine Fin.ret (Ent.trans (Ent.imp_box goPk impW0) (Ent.trans (Ent.setbox (s := 2) rfl goPk) (Ent.take goTk))) (Outs.many rfl (OutL.cons goOe (OutL.cons goOe (OutL.cons goOe OutL.nil))) rfl) ⟨rfl, rfl⟩)
        · rw [ho, numRT_ok ho] at kN
          have hall2 : (t2.take (j + 1)).all okT = true := by rw [htk, List.all_append, hall, List.all_cons, ho]; rfl
          have hxs2 : xs ++ [nfT f] = (t2.take (j + 1)).map nfT := by rw [htk, List.map_append, ← hxs]; rfl
          have hsn : intRows xs ++ [[Tr.int (nfT f)]] = intRows (xs ++ [nfT f]) := intRows_snocW _ _
          have hxl2 : (intRows (xs ++ [nfT f])).length = j + 1 := by rw [← hsn, List.length_append, hxl]; rfl
          generalize nfT f = v at *
          clear hall hxs htk hP hrow hfail
          repeat' (first | refine goH ?_ | refine goV ?_ | refine goB (fun b => ?_) | refine goC (fun ad cap => ?_) | refine goG ?_ | (refine Ops.k_guard ?_; first | (refine Ops.guard_dec rfl rfl (fun hc => ?_) (fun hc => ?_) <;> try (exfalso; omega)) | refine Ops.guard_split rfl rfl (fun hc => ?_) (fun hc => ?_)) | refine goI ?_ | (refine Cw.k_cond ?_; first | (refine Cw.cond_dec rfl (fun hc => ?_) (fun hc => ?_) <;> try (exfalso; omega)) | refine Cw.cond_bool rfl (fun hc => ?_) (fun hc => ?_)) | (refine Ops.k_calla ?_; first | (refine Ops.k_callf 38 ?_; (refine Ops.call kN (Evs.cons rfl (Evs.cons rfl Evs.nil)) goPm rfl ?_; rintro r cs' ⟨rfl, rfl⟩))) | refine goR ?_ | refine goP ?_ | apply PSeq.cons | apply PSeq.yes rfl rfl rfl | exact goW | fail)
          rw [hsn, hxl2]
          exact ⟨_, _, _, (Ent.mk goSub goTk), ⟨j + 1, _, _, _, _, rfl, ⟨by omega, hall2, hxs2, rfl, hxl2⟩, rfl, rfl⟩, by omega⟩
      · have hjn : j = t2.length := by omega
        rw [hjn, List.take_length] at hall hxs
        have hsome := hrow tl.length a
        rw [if_pos ⟨rfl, g2, hall⟩, ← hxs] at hsome
        rw [psL_some hL3 hx hsome] at hP
        have hxn : xs.length = tl.length + 1 := by rw [hxs, List.length_map, g2]
        obtain ⟨v, hv⟩ := at_lt (l := xs) (k := tl.length) (by omega)
        have hvd : xs.getD tl.length 0 = v := by rw [List.getD_eq_getElem?_getD, hv]; rfl
        rw [hvd] at hP
        have hxq : ((((intRows xs).length : Nat) : Int) - 1).toNat = tl.length := by rw [hxl]; omega
        have hvr : (intRows xs)[((((intRows xs).length : Nat) : Int) - 1).toNat]? = some [.int v] := by rw [hxq]; exact intRows_at hv
        have hR2 : intsR R ++ [[.ints (xs.take tl.length)]] = intsR (R ++ [xs.take tl.length]) := intsR_snocW _ _
        have hU2 : intRows U ++ [[Tr.int v]] = intRows (U ++ [v]) := intRows_snocW _ _
        have hR3 : (intsR (R ++ [xs.take tl.length])).length = i + 1 := by rw [← hR2, List.length_append, hRl2]; rfl
        have hU3 : (intRows (U ++ [v])).length = i + 1 := by rw [← hU2, List.length_append, hUl]; rfl
        have hRn2 : ∀ l ∈ R ++ [xs.take tl.length], l.length = tl.length := fun l hl => by
          rcases List.mem_append.1 hl with hl | hl
          · exact hRn l hl
          · rw [List.mem_singleton.1 hl, List.length_take]; omega
        have htk : (intRows xs).take tl.length = intRows (xs.take tl.length) := intRows_takeW _ _
        have hxl3 := hxl.symm
        have hI2 : FromI Ls P (i + 1 + 1) tl (i + 1) (R ++ [xs.take tl.length]) (U ++ [v]) := .inr ⟨rfl, hP, hne⟩
        clear hall hxs hrow hfail hsome hvd hv hfz hP
        repeat' (first | refine goH ?_ | refine goV ?_ | refine goB (fun b => ?_) | refine goC (fun ad cap => ?_) | refine goG ?_ | (refine Ops.k_guard ?_; first | (refine Ops.guard_dec rfl rfl (fun hc => ?_) (fun hc => ?_) <;> try (exfalso; omega)) | refine Ops.guard_split rfl rfl (fun hc => ?_) (fun hc => ?_)) | refine goI ?_ | (refine Cw.k_cond ?_; first | (refine Cw.cond_dec rfl (fun hc => ?_) (fun hc => ?_) <;> try (exfalso; omega)) | refine Cw.cond_bool rfl (fun hc => ?_) (fun hc => ?_)) | fail)
        refine Cw.ent (Ent.settle (s := 12) rfl goPk hxl3) ?_
        first | refine Cw.region_YP (fun ξ S => Chunk.box b 29 [.strs tl, stg (S 20) (Tr.raw (.slice adR i capR)) (Tr.raw (.slice (vAd (ξ 8)) (i + 1) (vCap (ξ 8)))), stg (S 22) (Tr.raw (.slice adU i capU)) (Tr.raw (.slice (vAd (ξ 18)) (i + 1) (vCap (ξ 18))))] :: Chunk.box b0 29 (List.map Tr.raw [.slice none 0 0, .slice none 0 0, .slice none 0 0]) :: numC :: stg (S 8) (Chunk.own adR capR 1 22 (intsR R)) (ownV (ξ 8) 1 22 (intsR R ++ [[.sl 1 ((intRows xs).take ((((intRows xs).length : Nat) : Int) - 1).toNat)]])) :: stg (S 18) (Chunk.own adU capU 1 3 (intRows U)) (ownV (ξ 18) 1 3 (intRows U ++ [[.int v]])) :: []) rfl (by decide +kernel) rfl ((fun (ξ : Nat → Value) (S : Nat → Bool) => Chunk.box b 29 [.strs tl, stg (S 20) (Tr.raw (.slice adR i capR)) (Tr.raw (.slice (vAd (ξ 8)) (i + 1) (vCap (ξ 8)))), stg (S 22) (Tr.raw (.slice adU i capU)) (Tr.raw (.slice (vAd (ξ 18)) (i + 1) (vCap (ξ 18))))] :: Chunk.box b0 29 (List.map Tr.raw [.slice none 0 0, .slice none 0 0, .slice none 0 0]) :: numC :: stg (S 8) (Chunk.own adR capR 1 22 (intsR R)) (ownV (ξ 8) 1 22 (intsR R ++ [[.sl 1 ((intRows xs).take ((((intRows xs).length : Nat) : Int) - 1).toNat)]])) :: stg (S 18) (Chunk.own adU capU 1 3 (intRows U)) (ownV (ξ 18) 1 3 (intRows U ++ [[.int v]])) :: []) (fun _ => undef) (fun _ => false)) (by simp only [upd_same, updD_same, upd_ne, updD_ne, ne_eq, Nat.reduceEqDiff, not_false_eq_true, stg_t, stg_f, vAd_s, vCap_s, blk_p, List.cons_append, List.nil_append, b2n_t, b2n_f]; exact goXm) (fun _ => rfl) ?_ | fail
        apply YSeq.w (by intro _ _ _; rfl)
        · intro ξ S h1 h2 h3 h4
          have hN0_1 := closed_false h1 h3 (k := 1) rfl (by decide)
          have hN0_8 := closed_false hN0_1 h3 (k := 8) rfl (by decide)
          have hN0_18 := closed_false hN0_8 h3 (k := 18) rfl (by decide)
          have hN0_20 := closed_false h1 h3 (k := 20) rfl (by decide)
          have hN0_22 := closed_false h1 h3 (k := 22) rfl (by decide)
          try simp only [upd_same, updD_same, upd_ne, updD_ne, ne_eq, Nat.reduceEqDiff, not_false_eq_true, stg_t, stg_f, vAd_s, vCap_s, blk_p, List.cons_append, List.nil_append, b2n_t, b2n_f, hN0_8, hN0_18, hN0_20, hN0_22]
          exact goW
        · intro ξ v; rfl
        · intro ξ k v S h3 hn hk
          first
          | rfl
        apply YSeq.w (by intro _ _ _; rfl)
        · intro ξ S h1 h2 h3 h4
          have hN1_8 := closed_false h1 h3 (k := 8) rfl (by decide)
          have hN1_18 := closed_false hN1_8 h3 (k := 18) rfl (by decide)
          have hN1_20 := closed_false h1 h3 (k := 20) rfl (by decide)
          have hN1_22 := closed_false h1 h3 (k := 22) rfl (by decide)
          try simp only [upd_same, updD_same, upd_ne, updD_ne, ne_eq, Nat.reduceEqDiff, not_false_eq_true, stg_t, stg_f, vAd_s, vCap_s, blk_p, List.cons_append, List.nil_append, b2n_t, b2n_f, hN1_8, hN1_18, hN1_20, hN1_22]
          exact goW
        · intro ξ v; rfl
        · intro ξ k v S h3 hn hk
          first
          | rfl
        apply YSeq.w (by intro _ _ _; rfl)
        · intro ξ S h1 h2 h3 h4
          have hN2_6 := closed_false h1 h3 (k := 6) rfl (by decide)
          have hN2_7 := closed_false hN2_6 h3 (k := 7) rfl (by decide)
          have hN2_8 := closed_false hN2_7 h3 (k := 8) rfl (by decide)
          have hN2_18 := closed_false hN2_8 h3 (k := 18) rfl (by decide)
          have hN2_20 := closed_false h1 h3 (k := 20) rfl (by decide)
          have hN2_22 := closed_false h1 h3 (k := 22) rfl (by decide)
          try simp only [upd_same, updD_same, upd_ne, updD_ne, ne_eq, Nat.reduceEqDiff, not_false_eq_true, stg_t, stg_f, vAd_s, vCap_s, blk_p, List.cons_append, List.nil_append, b2n_t, b2n_f, hN2_8, hN2_18, hN2_20, hN2_22]
          exact goW
        · intro ξ v; rfl
        · intro ξ k v S h3 hn hk
          first
          | rfl
        apply YSeq.w (by intro _ _ _; rfl)
        · intro ξ S h1 h2 h3 h4
          have hN3_4 := closed_false h1 h3 (k := 4) rfl (by decide)
          have hN3_5 := closed_false hN3_4 h3 (k := 5) rfl (by decide)
          have hN3_6 := closed_false hN3_5 h3 (k := 6) rfl (by decide)
          have hN3_7 := closed_false hN3_6 h3 (k := 7) rfl (by decide)
          have hN3_8 := closed_false hN3_7 h3 (k := 8) rfl (by decide)
          have hN3_18 := closed_false hN3_8 h3 (k := 18) rfl (by decide)
          have hN3_20 := closed_false h1 h3 (k := 20) rfl (by decide)
          have hN3_22 := closed_false h1 h3 (k := 22) rfl (by decide)
          try simp only [upd_same, updD_same, upd_ne, updD_ne, ne_eq, Nat.reduceEqDiff, not_false_eq_true, stg_t, stg_f, vAd_s, vCap_s, blk_p, List.cons_append, List.nil_append, b2n_t, b2n_f, hN3_8, hN3_18, hN3_20, hN3_22]
          exact goW
        · intro ξ v; rfl
        · intro ξ k v S h3 hn hk
          first
          | rfl
        apply YSeq.w (by intro _ _ _; rfl)
        · intro ξ S h1 h2 h3 h4
          have hN4_5 := closed_false h1 h3 (k := 5) rfl (by decide)
          have hN4_6 := closed_false hN4_5 h3 (k := 6) rfl (by decide)
          have hN4_7 := closed_false hN4_6 h3 (k := 7) rfl (by decide)
          have hN4_8 := closed_false hN4_7 h3 (k := 8) rfl (by decide)
          have hN4_18 := closed_false hN4_8 h3 (k := 18) rfl (by decide)
          have hN4_20 := closed_false h1 h3 (k := 20) rfl (by decide)
          have hN4_22 := closed_false h1 h3 (k := 22) rfl (by decide)
          try simp only [upd_same, updD_same, upd_ne, updD_ne, ne_eq, Nat.reduceEqDiff, not_false_eq_true, stg_t, stg_f, vAd_s, vCap_s, blk_p, List.cons_append, List.nil_append, b2n_t, b2n_f, hN4_8, hN4_18, hN4_20, hN4_22]
          exact goW
        · intro ξ v; rfl
        · intro ξ k v S h3 hn hk
          first
          | rfl
        apply YSeq.w (by intro _ _ _; rfl)
        · intro ξ S h1 h2 h3 h4
          have hN5_6 := closed_false h1 h3 (k := 6) rfl (by decide)
          have hN5_7 := closed_false hN5_6 h3 (k := 7) rfl (by decide)
          have hN5_8 := closed_false hN5_7 h3 (k := 8) rfl (by decide)
          have hN5_18 := closed_false hN5_8 h3 (k := 18) rfl (by decide)
          have hN5_20 := closed_false h1 h3 (k := 20) rfl (by decide)
          have hN5_22 := closed_false h1 h3 (k := 22) rfl (by decide)
          try simp only [upd_same, updD_same, upd_ne, updD_ne, ne_eq, Nat.reduceEqDiff, not_false_eq_true, stg_t, stg_f, vAd_s, vCap_s, blk_p, List.cons_append, List.nil_append, b2n_t, b2n_f, hN5_8, hN5_18, hN5_20, hN5_22]
          exact goW
        · intro ξ v; rfl
        · intro ξ k v S h3 hn hk
          first
          | rfl
        apply YSeq.w (by intro _ _ _; rfl)
        · intro ξ S h1 h2 h3 h4
          have hN6_7 := closed_false h1 h3 (k := 7) rfl (by decide)
          have hN6_8 := closed_false hN6_7 h3 (k := 8) rfl (by decide)
          have hN6_18 := closed_false hN6_8 h3 (k := 18) rfl (by decide)
          have hN6_20 := closed_false h1 h3 (k := 20) rfl (by decide)
          have hN6_22 := closed_false h1 h3 (k := 22) rfl (by decide)
          try simp only [upd_same, updD_same, upd_ne, updD_ne, ne_eq, Nat.reduceEqDiff, not_false_eq_true, stg_t, stg_f, vAd_s, vCap_s, blk_p, List.cons_append, List.nil_append, b2n_t, b2n_f, hN6_8, hN6_18, hN6_20, hN6_22]
          exact goW
        · intro ξ v; rfl
        · intro ξ k v S h3 hn hk
          first
          | rfl
        apply YSeq.w (by intro _ _ _; rfl)
        · intro ξ S h1 h2 h3 h4
          have hN7_8 := closed_false h1 h3 (k := 8) rfl (by decide)
          have hN7_18 := closed_false hN7_8 h3 (k := 18) rfl (by decide)
          have hN7_20 := closed_false h1 h3 (k := 20) rfl (by decide)
          have hN7_22 := closed_false h1 h3 (k := 22) rfl (by decide)
          try simp only [upd_same, updD_same, upd_ne, updD_ne, ne_eq, Nat.reduceEqDiff, not_false_eq_true, stg_t, stg_f, vAd_s, vCap_s, blk_p, List.cons_append, List.nil_append, b2n_t, b2n_f, hN7_8, hN7_18, hN7_20, hN7_22]
          exact goW
        · intro ξ v; rfl
        · intro ξ k v S h3 hn hk
          first
          | rfl
        apply YSeq.append (i + 1)
        · intro ξ S h1 h2 h3 h4
          have hN8_18 := closed_false h1 h3 (k := 18) rfl (by decide)
          have hN8_20 := closed_false h1 h3 (k := 20) rfl (by decide)
          have hN8_22 := closed_false h1 h3 (k := 22) rfl (by decide)
          simp only [upd_same, updD_same, upd_ne, updD_ne, ne_eq, Nat.reduceEqDiff, not_false_eq_true, stg_t, stg_f, vAd_s, vCap_s, blk_p, List.cons_append, List.nil_append, b2n_t, b2n_f, h1, hN8_18, hN8_20, hN8_22]
          refine ⟨_, _, _, _, _, _, rfl, rfl, goXp, (by first | rfl | (simp; done) | omega), (by first | rfl | omega | (simp; done) | (simp; omega)), (by first | omega | (simp; done) | (simp; omega)), (by first | omega | (simp; done) | (simp; omega)), fun ad' cap' => ?_⟩
          exact goXm
        apply YSeq.w (by intro _ _ _; rfl)
        · intro ξ S h1 h2 h3 h4
          have hN9_10 := closed_false h1 h3 (k := 10) rfl (by decide)
          have hN9_18 := closed_false hN9_10 h3 (k := 18) rfl (by decide)
          have hN9_20 := closed_false h1 h3 (k := 20) rfl (by decide)
          have hN9_22 := closed_false h1 h3 (k := 22) rfl (by decide)
          try simp only [upd_same, updD_same, upd_ne, updD_ne, ne_eq, Nat.reduceEqDiff, not_false_eq_true, stg_t, stg_f, vAd_s, vCap_s, blk_p, List.cons_append, List.nil_append, b2n_t, b2n_f, hN9_18, hN9_20, hN9_22]
          exact goW
        · intro ξ v; rfl
        · intro ξ k v S h3 hn hk
          first
          | rfl
        apply YSeq.w (by intro _ _ _; rfl)
        · intro ξ S h1 h2 h3 h4
          have hN10_18 := closed_false h1 h3 (k := 18) rfl (by decide)
          have hN10_20 := closed_false h1 h3 (k := 20) rfl (by decide)
          have hN10_22 := closed_false h1 h3 (k := 22) rfl (by decide)
          try simp only [upd_same, updD_same, upd_ne, updD_ne, ne_eq, Nat.reduceEqDiff, not_false_eq_true, stg_t, stg_f, vAd_s, vCap_s, blk_p, List.cons_append, List.nil_append, b2n_t, b2n_f, hN10_18, hN10_20, hN10_22]
          exact goW
        · intro ξ v; rfl
        · intro ξ k v S h3 hn hk
          first
          | rfl
        apply YSeq.w (by intro _ _ _; rfl)
        · intro ξ S h1 h2 h3 h4
          have hN11_15 := closed_false h1 h3 (k := 15) rfl (by decide)
          have hN11_16 := closed_false hN11_15 h3 (k := 16) rfl (by decide)
          have hN11_17 := closed_false hN11_16 h3 (k := 17) rfl (by decide)
          have hN11_18 := closed_false hN11_17 h3 (k := 18) rfl (by decide)
          have hN11_20 := closed_false hN11_18 h3 (k := 20) rfl (by decide)
          have hN11_22 := closed_false h1 h3 (k := 22) rfl (by decide)
          try simp only [upd_same, updD_same, upd_ne, updD_ne, ne_eq, Nat.reduceEqDiff, not_false_eq_true, stg_t, stg_f, vAd_s, vCap_s, blk_p, List.cons_append, List.nil_append, b2n_t, b2n_f, hN11_18, hN11_20, hN11_22]
          exact goW
        · intro ξ v; rfl
        · intro ξ k v S h3 hn hk
          first
          | rfl
        apply YSeq.w (by intro _ _ _; rfl)
        · intro ξ S h1 h2 h3 h4
          have hN12_13 := closed_false h1 h3 (k := 13) rfl (by decide)
          have hN12_14 := closed_false hN12_13 h3 (k := 14) rfl (by decide)
          have hN12_15 := closed_false hN12_14 h3 (k := 15) rfl (by decide)
          have hN12_16 := closed_false hN12_15 h3 (k := 16) rfl (by decide)
          have hN12_17 := closed_false hN12_16 h3 (k := 17) rfl (by decide)
          have hN12_18 := closed_false hN12_17 h3 (k := 18) rfl (by decide)
          have hN12_20 := closed_false hN12_18 h3 (k := 20) rfl (by decide)
          have hN12_22 := closed_false h1 h3 (k := 22) rfl (by decide)
          try simp only [upd_same, updD_same, upd_ne, updD_ne, ne_eq, Nat.reduceEqDiff, not_false_eq_true, stg_t, stg_f, vAd_s, vCap_s, blk_p, List.cons_append, List.nil_append, b2n_t, b2n_f, hN12_18, hN12_20, hN12_22]
          exact goW
        · intro ξ v; rfl
        · intro ξ k v S h3 hn hk
          first
          | rfl
        apply YSeq.w (by intro _ _ _; rfl)
        · intro ξ S h1 h2 h3 h4
          have hN13_14 := closed_false h1 h3 (k := 14) rfl (by decide)
          have hN13_15 := closed_false hN13_14 h3 (k := 15) rfl (by decide)
          have hN13_16 := closed_false hN13_15 h3 (k := 16) rfl (by decide)
          have hN13_17 := closed_false hN13_16 h3 (k := 17) rfl (by decide)
          have hN13_18 := closed_false hN13_17 h3 (k := 18) rfl (by decide)
          have hN13_20 := closed_false hN13_18 h3 (k := 20) rfl (by decide)
          have hN13_22 := closed_false h1 h3 (k := 22) rfl (by decide)
          try simp only [upd_same, updD_same, upd_ne, updD_ne, ne_eq, Nat.reduceEqDiff, not_false_eq_true, stg_t, stg_f, vAd_s, vCap_s, blk_p, List.cons_append, List.nil_append, b2n_t, b2n_f, hN13_18, hN13_20, hN13_22]
          exact goW
        · intro ξ v; rfl
        · intro ξ k v S h3 hn hk
          first
          | rfl
        apply YSeq.w (by intro _ _ _; rfl)
        · intro ξ S h1 h2 h3 h4
          have hN14_15 := closed_false h1 h3 (k := 15) rfl (by decide)
          have hN14_16 := closed_false hN14_15 h3 (k := 16) rfl (by decide)
          have hN14_17 := closed_false hN14_16 h3 (k := 17) rfl (by decide)
          have hN14_18 := closed_false hN14_17 h3 (k := 18) rfl (by decide)
          have hN14_20 := closed_false hN14_18 h3 (k := 20) rfl (by decide)
          have hN14_22 := closed_false h1 h3 (k := 22) rfl (by decide)
          try simp only [upd_same, updD_same, upd_ne, updD_ne, ne_eq, Nat.reduceEqDiff, not_false_eq_true, stg_t, stg_f, vAd_s, vCap_s, blk_p, List.cons_append, List.nil_append, b2n_t, b2n_f, hN14_18, hN14_20, hN14_22]
          exact goW
        · intro ξ v; rfl
        · intro ξ k v S h3 hn hk
          first
          | rfl
        apply YSeq.w (by intro _ _ _; rfl)
        · intro ξ S h1 h2 h3 h4
          have hN15_16 := closed_false h1 h3 (k := 16) rfl (by decide)
          have hN15_17 := closed_false hN15_16 h3 (k := 17) rfl (by decide)
          have hN15_18 := closed_false hN15_17 h3 (k := 18) rfl (by decide)
          have hN15_20 := closed_false hN15_18 h3 (k := 20) rfl (by decide)
          have hN15_22 := closed_false h1 h3 (k := 22) rfl (by decide)
          try simp only [upd_same, updD_same, upd_ne, updD_ne, ne_eq, Nat.reduceEqDiff, not_false_eq_true, stg_t, stg_f, vAd_s, vCap_s, blk_p, List.cons_append, List.nil_append, b2n_t, b2n_f, hN15_18, hN15_20, hN15_22]
          exact goW
        · intro ξ v; rfl
        · intro ξ k v S h3 hn hk
          first
          | rfl
        apply YSeq.w (by intro _ _ _; rfl)
        · intro ξ S h1 h2 h3 h4
          have hN16_17 := closed_false h1 h3 (k := 17) rfl (by decide)
          have hN16_18 := closed_false hN16_17 h3 (k := 18) rfl (by decide)
          have hN16_20 := closed_false hN16_18 h3 (k := 20) rfl (by decide)
          have hN16_22 := closed_false h1 h3 (k := 22) rfl (by decide)
          try simp only [upd_same, updD_same, upd_ne, updD_ne, ne_eq, Nat.reduceEqDiff, not_false_eq_true, stg_t, stg_f, vAd_s, vCap_s, blk_p, List.cons_append, List.nil_append, b2n_t, b2n_f, hN16_18, hN16_20, hN16_22]
          exact goW
        · intro ξ v; rfl
        · intro ξ k v S h3 hn hk
          first
          | rfl
        apply YSeq.w (by intro _ _ _; rfl)
        · intro ξ S h1 h2 h3 h4
          have hN17_18 := closed_false h1 h3 (k := 18) rfl (by decide)
          have hN17_20 := closed_false hN17_18 h3 (k := 20) rfl (by decide)
          have hN17_22 := closed_false h1 h3 (k := 22) rfl (by decide)
          try simp only [upd_same, updD_same, upd_ne, updD_ne, ne_eq, Nat.reduceEqDiff, not_false_eq_true, stg_t, stg_f, vAd_s, vCap_s, blk_p, List.cons_append, List.nil_append, b2n_t, b2n_f, hN17_18, hN17_20, hN17_22]
          exact goW
        · intro ξ v; rfl
        · intro ξ k v S h3 hn hk
          first
          | rfl
        apply YSeq.append (i + 1)
        · intro ξ S h1 h2 h3 h4
          have hY18_8 : S 8 = true := h2 8 (by decide)
          have hN18_20 := closed_false h1 h3 (k := 20) rfl (by decide)
          have hN18_22 := closed_false h1 h3 (k := 22) rfl (by decide)
          simp only [upd_same, updD_same, upd_ne, updD_ne, ne_eq, Nat.reduceEqDiff, not_false_eq_true, stg_t, stg_f, vAd_s, vCap_s, blk_p, List.cons_append, List.nil_append, b2n_t, b2n_f, hY18_8, h1, hN18_20, hN18_22]
          refine ⟨_, _, _, _, _, _, rfl, rfl, goXp, (by first | rfl | (simp; done) | omega), (by first | rfl | omega | (simp; done) | (simp; omega)), (by first | omega | (simp; done) | (simp; omega)), (by first | omega | (simp; done) | (simp; omega)), fun ad' cap' => ?_⟩
          exact goXm
        apply YSeq.w (by intro _ _ _; rfl)
        · intro ξ S h1 h2 h3 h4
          have hY19_8 : S 8 = true := h2 8 (by decide)
          have hN19_20 := closed_false h1 h3 (k := 20) rfl (by decide)
          have hN19_22 := closed_false h1 h3 (k := 22) rfl (by decide)
          try simp only [upd_same, updD_same, upd_ne, updD_ne, ne_eq, Nat.reduceEqDiff, not_false_eq_true, stg_t, stg_f, vAd_s, vCap_s, blk_p, List.cons_append, List.nil_append, b2n_t, b2n_f, hY19_8, hN19_20, hN19_22]
          exact goW
        · intro ξ v; rfl
        · intro ξ k v S h3 hn hk
          first
          | rfl
          | skip
            have hY19_8 : S 8 = true := h3 19 _ rfl hn 8 (by decide)
            simp only [upd_S hY19_8 hk]
        apply YSeq.store
        · intro ξ S h1 h2 h3 h4
          have hY20_8 : S 8 = true := h2 8 (by decide)
          have hY20_18 : S 18 = true := h2 18 (by decide)
          have hN20_22 := closed_false h1 h3 (k := 22) rfl (by decide)
          simp only [upd_same, updD_same, upd_ne, updD_ne, ne_eq, Nat.reduceEqDiff, not_false_eq_true, stg_t, stg_f, vAd_s, vCap_s, blk_p, List.cons_append, List.nil_append, b2n_t, b2n_f, hY20_8, hY20_18, h1, hN20_22]
          refine ⟨_, _, _, _, _, _, _, rfl, rfl, inferInstance, goXp, rfl, Nat.le_of_ble_eq_true rfl, ?_⟩
          exact goXm
        apply YSeq.w (by intro _ _ _; rfl)
        · intro ξ S h1 h2 h3 h4
          have hY21_8 : S 8 = true := h2 8 (by decide)
          have hY21_18 : S 18 = true := h2 18 (by decide)
          have hY21_20 : S 20 = true := h2 20 (by decide)
          have hN21_22 := closed_false h1 h3 (k := 22) rfl (by decide)
          try simp only [upd_same, updD_same, upd_ne, updD_ne, ne_eq, Nat.reduceEqDiff, not_false_eq_true, stg_t, stg_f, vAd_s, vCap_s, blk_p, List.cons_append, List.nil_append, b2n_t, b2n_f, hY21_8, hY21_18, hY21_20, hN21_22]
          exact goW
        · intro ξ v; rfl
        · intro ξ k v S h3 hn hk
          first
          | rfl
          | skip
            have hY21_8 : S 8 = true := h3 21 _ rfl hn 8 (by decide)
            have hY21_18 : S 18 = true := h3 21 _ rfl hn 18 (by decide)
            simp only [upd_S hY21_8 hk, upd_S hY21_18 hk]
        apply YSeq.store
        · intro ξ S h1 h2 h3 h4
          have hY22_8 : S 8 = true := h2 8 (by decide)
          have hY22_18 : S 18 = true := h2 18 (by decide)
          have hY22_20 : S 20 = true := h2 20 (by decide)
          simp only [upd_same, updD_same, upd_ne, updD_ne, ne_eq, Nat.reduceEqDiff, not_false_eq_true, stg_t, stg_f, vAd_s, vCap_s, blk_p, List.cons_append, List.nil_append, b2n_t, b2n_f, hY22_8, hY22_18, hY22_20, h1]
          refine ⟨_, _, _, _, _, _, _, rfl, rfl, inferInstance, goXp, rfl, Nat.le_of_ble_eq_true rfl, ?_⟩
          exact goXm
        refine YSeq.nil fun ξ hf => ?_
        refine ⟨[(2, _), (5, _), (6, _), (23, _), (24, _), (25, _)], _, Ent.trans (Ent.eqc rfl (by first | (simp only [upd_same, updD_same, upd_ne, updD_ne, ne_eq, Nat.reduceEqDiff, not_false_eq_true, stg_t, stg_f, vAd_s, vCap_s, blk_p, List.cons_append, List.nil_append, b2n_t, b2n_f, ownV, slV, ptV] <;> rfl) | rfl)) (Ent.sub goSub), ?_⟩
        clear hf
        generalize vAd (ξ 8) = ad87
        generalize vCap (ξ 8) = cap87
        generalize vAd (ξ 18) = ad97
        generalize vCap (ξ 18) = cap97
        rw [hxq, htk, hR2, hU2]
        repeat' (first | refine goH ?_ | refine goV ?_ | refine goB (fun b => ?_) | refine goC (fun ad cap => ?_) | refine goG ?_ | (refine Ops.k_guard ?_; first | (refine Ops.guard_dec rfl rfl (fun hc => ?_) (fun hc => ?_) <;> try (exfalso; omega)) | refine Ops.guard_split rfl rfl (fun hc => ?_) (fun hc => ?_)) | refine goI ?_ | (refine Cw.k_cond ?_; first | (refine Cw.cond_dec rfl (fun hc => ?_) (fun hc => ?_) <;> try (exfalso; omega)) | refine Cw.cond_bool rfl (fun hc => ?_) (fun hc => ?_)) | refine goR ?_ | refine goP ?_ | apply PSeq.cons | apply PSeq.yes rfl rfl rfl | exact goW | fail)
        exact ⟨_, _, _, (Ent.mk goSub goTk), ⟨i + 1 + 1, tl, i + 1, _, _, _, _, _, _, _, _, rfl, ⟨by omega, hI2, htl, ⟨rfl, rfl⟩, ⟨hR3, hU3⟩, hRn2⟩, rfl, rfl⟩, by omega⟩
end Lg
