/- A part of the proof of a law of this seat: it adds no condition. By an AI agent. -/
import Derived.Test.YtjknjnkkpfeahaaGreatDoorLgLawV
import Derived.Test.YtjknjnkkpfeahaaGreatDoorWw4
set_option linter.all false
set_option maxRecDepth 100000
set_option maxHeartbeats 8000000
namespace Lg
open Go Go.Proofs

/-! ### depot.Parse -/
theorem rowP_parts {n : Nat} {x ln : ByteArray} {a : ByteArray} {tl : List ByteArray} (h : splS 32 ln = a :: tl) : rowP n x ln = if a = x ∧ tl.length = n + 1 ∧ tl.all okT = true then some (tl.map nfT) else none := by
  unfold rowP
  rw [h]
  simp only [List.head?_cons, Option.some.injEq, List.length_cons, List.tail_cons, Nat.add_right_cancel_iff]
theorem numDT (s : ByteArray) (hs : s.size ≤ 1000000000) : Spec Tryz.prog 37 [.str s, .int 10] [numC] (fun r cs => r = .tup [.int (numDV 10 s.data.toList), .bool (okT s)] ∧ cs = [numC]) := numberD_fn s hs 10 (by omega)
theorem numRT (s : ByteArray) (hs : s.size ≤ 1000000000) : Spec Tryz.prog 38 [.str s, .int 10] [numC] (fun r cs => r = .tup [.int (atoiV s.data.toList), .bool (okT s)] ∧ cs = [numC]) := numberR_fn s hs 10 (by omega)
theorem numDT_ok {f : ByteArray} (h : okT f = true) : numDV 10 f.data.toList = nfT f := if_pos h
theorem numRT_ok {f : ByteArray} (h : okT f = true) : atoiV f.data.toList = nfT f := (ok_atoiB (n := 10) (by omega) h).2
theorem intsR_snocW (R : List (List Int)) (l : List Int) : intsR R ++ [[.ints l]] = intsR (R ++ [l]) := by simp [intsR]
theorem strRows_tl (a : ByteArray) (tl : List ByteArray) : (strRows (a :: tl)).drop (1 : Int).toNat = strRows tl := rfl
theorem intsR_nilW : intsR [] = [] := rfl
theorem intRows_nilW : intRows [] = [] := rfl
theorem intRows_takeW (l : List Int) (n : Nat) : (intRows l).take n = intRows (l.take n) := by unfold intRows; rw [List.map_take]
theorem splS_single {c : UInt8} {s x : ByteArray} (h : splS c s = [x]) : s = x := by
  rcases idx_cases s.data.toList c with e | ⟨m, e⟩
  · rw [splS_none e] at h
    cases h
    rfl
  · rw [(splS_some e).1] at h
    simp only [List.cons.injEq] at h
    exact absurd h.2 (splS_neW _ _)
attribute [local irreducible] intRows intsR strRows
theorem parseW_ok (s : ByteArray) (hs : s.size ≤ 200000) : Spec Tryz.prog 9 [.str s] [numC] (fun r cs => r = psT (psP s) ∧ cs = [numC]) := by
  unfold psP
  rw [if_neg (by omega)]
  have kF := fun k => (fail_fn k).lend
  have kC := cut1_fn s (by omega) 10
  rcases idx_cases s.data.toList 10 with h | ⟨m, h⟩
  · rw [cutS_none h] at kC
    rw [splS_none h, psH_one]
    have kS := split1_fn s (by omega) 32
    generalize splS 32 s = W at *
    refine Spec.body Tryz.func9 rfl rfl (Tryz.ntmps9) rfl fun w0 own0 M => ?_
    repeat' (first | refine goH ?_ | refine goV ?_ | refine goB (fun b => ?_) | refine goC (fun ad cap => ?_) | refine goG ?_ | (refine Ops.k_guard ?_; first | (refine Ops.guard_dec rfl rfl (fun hc => ?_) (fun hc => ?_) <;> try (exfalso; omega)) | refine Ops.guard_split rfl rfl (fun hc => ?_) (fun hc => ?_)) | refine goI ?_ | (refine Cw.k_cond ?_; first | (refine Cw.cond_dec rfl (fun hc => ?_) (fun hc => ?_) <;> try (exfalso; omega)) | refine Cw.cond_bool rfl (fun hc => ?_) (fun hc => ?_)) | (refine Ops.k_calla ?_; first | (refine Ops.k_callf 34 ?_; refine Ops.callV kC (Evs.cons rfl (Evs.cons rfl Evs.nil)) rfl ?_) | (refine Ops.k_callf 35 ?_; refine Ops.callV kS (Evs.cons rfl (Evs.cons rfl Evs.nil)) rfl ?_) | refine Ops.callS_fn (caps := []) (args := [.int 0]) rfl (kF 0) (Evs.cons rfl Evs.nil) (List.Perm.refl _) rfl ?_) | (apply OpW.k_call; first | (apply OpW.k_callf 34; exact OpW.callV kC (Evs.cons rfl (Evs.cons rfl Evs.nil))) | (apply OpW.k_callf 35; exact OpW.callV kS (Evs.cons rfl (Evs.cons rfl Evs.nil)))) | refine goR ?_ | refine goP ?_ | apply PSeq.cons | apply PSeq.yes rfl rfl rfl | exact goW | fail)
    all_goals first | (exfalso; omega) | (refine Fin.ret (Ent.trans (Ent.setbox (s := 2) rfl goPk) (Ent.take goTk)) (Outs.many rfl (OutL.cons goOe (OutL.cons goOe (OutL.cons goOe OutL.nil))) rfl) ⟨rfl, rfl⟩)
  · rw [cutS_some h] at kC
    obtain ⟨h1, hm⟩ := splS_some h
    have hln := splS_neW 10 (s.extract (m + 1) s.size)
    rw [h1, psH_cons _ hln]
    clear h1 h
    have hw : (s.extract 0 m).size ≤ s.size := by rw [ByteArray.size_extract]; omega
    have hrest : (s.extract (m + 1) s.size).size ≤ s.size := by rw [ByteArray.size_extract]; omega
    generalize s.extract 0 m = hd at *
    generalize s.extract (m + 1) s.size = rest0 at *
    have kS := split1_fn hd (by omega) 32
    have hWl := splS_len 32 hd
    have hWc := countByte_le hd.data.toList 32
    rw [← str_list] at hWc
    obtain ⟨a, tl, hW⟩ : ∃ a tl, splS 32 hd = a :: tl := by
      cases hW : splS 32 hd with
      | nil => exact absurd hW (splS_neW 32 hd)
      | cons a tl => exact ⟨a, tl, rfl⟩
    rw [hW] at kS hWl ⊢
    rw [List.length_cons] at hWl
    have kH := containsW_fn (a :: tl) eLw (by rw [List.length_cons]; omega)
    clear hW
    have hR0 : (strRows (a :: tl))[0]? = some [.str a] := strRows_at rfl
    have hRl := strRows_len (a :: tl)
    rw [List.length_cons] at hRl
    rw [List.head?_cons, List.tail_cons]
    by_cases g1 : a = walB
    rotate_left
    · rw [if_pos (.inl (by simpa using g1))]
      refine Spec.body Tryz.func9 rfl rfl (Tryz.ntmps9) rfl fun w0 own0 M => ?_
      repeat' (first | refine goH ?_ | (refine Ops.k_b_neq ?_; first | (refine Ops.val' rfl (OpV.neqS_t rfl rfl g1) ?_)) | refine goV ?_ | refine goB (fun b => ?_) | refine goC (fun ad cap => ?_) | refine goG ?_ | (refine Ops.k_guard ?_; first | (refine Ops.guard_dec rfl rfl (fun hc => ?_) (fun hc => ?_) <;> try (exfalso; omega)) | refine Ops.guard_split rfl rfl (fun hc => ?_) (fun hc => ?_)) | refine goI ?_ | (refine Cw.k_cond ?_; first | (refine Cw.cond_dec rfl (fun hc => ?_) (fun hc => ?_) <;> try (exfalso; omega)) | refine Cw.cond_bool rfl (fun hc => ?_) (fun hc => ?_)) | (refine Ops.k_calla ?_; first | (refine Ops.k_callf 34 ?_; refine Ops.callV kC (Evs.cons rfl (Evs.cons rfl Evs.nil)) rfl ?_) | (refine Ops.k_callf 35 ?_; refine Ops.callV kS (Evs.cons rfl (Evs.cons rfl Evs.nil)) rfl ?_) | (refine Ops.k_callf 36 ?_; refine Ops.callV kH (Evs.cons rfl (Evs.cons rfl Evs.nil)) rfl ?_) | refine Ops.callS_fn (caps := []) (args := [.int 0]) rfl (kF 0) (Evs.cons rfl Evs.nil) (List.Perm.refl _) rfl ?_) | (apply OpW.k_call; first | (apply OpW.k_callf 34; exact OpW.callV kC (Evs.cons rfl (Evs.cons rfl Evs.nil))) | (apply OpW.k_callf 35; exact OpW.callV kS (Evs.cons rfl (Evs.cons rfl Evs.nil))) | (apply OpW.k_callf 36; exact OpW.callV kH (Evs.cons rfl (Evs.cons rfl Evs.nil)))) | refine goR ?_ | refine goP ?_ | apply PSeq.cons | apply PSeq.yes rfl rfl rfl | exact goW | fail)
      all_goals first | (exfalso; omega) | (refine Fin.ret (Ent.trans (Ent.setbox (s := 2) rfl goPk) (Ent.take goTk)) (Outs.many rfl (OutL.cons goOe (OutL.cons goOe (OutL.cons goOe OutL.nil))) rfl) ⟨rfl, rfl⟩)
    subst g1
    cases g2 : hasW (walB :: tl) eLw
    rotate_left
    · rw [if_pos (.inr rfl)]
      rw [g2] at kH
      refine Spec.body Tryz.func9 rfl rfl (Tryz.ntmps9) rfl fun w0 own0 M => ?_
      repeat' (first | refine goH ?_ | (refine Ops.k_b_neq ?_; first | (refine Ops.val' rfl (OpV.neqS_f rfl rfl rfl) ?_)) | refine goV ?_ | refine goB (fun b => ?_) | refine goC (fun ad cap => ?_) | refine goG ?_ | (refine Ops.k_guard ?_; first | (refine Ops.guard_dec rfl rfl (fun hc => ?_) (fun hc => ?_) <;> try (exfalso; omega)) | refine Ops.guard_split rfl rfl (fun hc => ?_) (fun hc => ?_)) | refine goI ?_ | (refine Cw.k_cond ?_; first | (refine Cw.cond_dec rfl (fun hc => ?_) (fun hc => ?_) <;> try (exfalso; omega)) | refine Cw.cond_bool rfl (fun hc => ?_) (fun hc => ?_)) | (refine Ops.k_calla ?_; first | (refine Ops.k_callf 34 ?_; refine Ops.callV kC (Evs.cons rfl (Evs.cons rfl Evs.nil)) rfl ?_) | (refine Ops.k_callf 35 ?_; refine Ops.callV kS (Evs.cons rfl (Evs.cons rfl Evs.nil)) rfl ?_) | (refine Ops.k_callf 36 ?_; refine Ops.callV kH (Evs.cons rfl (Evs.cons rfl Evs.nil)) rfl ?_) | refine Ops.callS_fn (caps := []) (args := [.int 0]) rfl (kF 0) (Evs.cons rfl Evs.nil) (List.Perm.refl _) rfl ?_) | (apply OpW.k_call; first | (apply OpW.k_callf 34; exact OpW.callV kC (Evs.cons rfl (Evs.cons rfl Evs.nil))) | (apply OpW.k_callf 35; exact OpW.callV kS (Evs.cons rfl (Evs.cons rfl Evs.nil))) | (apply OpW.k_callf 36; exact OpW.callV kH (Evs.cons rfl (Evs.cons rfl Evs.nil)))) | refine goR ?_ | refine goP ?_ | apply PSeq.cons | apply PSeq.yes rfl rfl rfl | exact goW | fail)
      all_goals first | (exfalso; omega) | (refine Fin.ret (Ent.trans (Ent.setbox (s := 2) rfl goPk) (Ent.take goTk)) (Outs.many rfl (OutL.cons goOe (OutL.cons goOe (OutL.cons goOe OutL.nil))) rfl) ⟨rfl, rfl⟩)
    rw [if_neg (by simp)]
    rw [g2] at kH
    have hdrop : (strRows (walB :: tl)).drop (1 : Int).toNat = strRows tl := strRows_tl walB tl
    have hTl := strRows_len tl
    have hne : ∀ x ∈ tl, x ≠ eLw := fun x hx e => hasW_f g2 (by rw [← e]; exact List.mem_cons_of_mem _ hx)
    generalize hP : psL tl (splS 10 rest0) 0 [] [] = P
    refine Spec.body Tryz.func9 rfl rfl (Tryz.ntmps9) rfl fun w0 own0 M => ?_
    repeat' (first | refine goH ?_ | (refine Ops.k_b_neq ?_; first | (refine Ops.val' rfl (OpV.neqS_f rfl rfl rfl) ?_)) | (refine Ops.k_slice ?_; first | (refine Ops.slice_l rfl rfl (by omega) rfl ?_; rw [hdrop])) | refine goV ?_ | refine goB (fun b => ?_) | refine goC (fun ad cap => ?_) | refine goG ?_ | (refine Ops.k_guard ?_; first | (refine Ops.guard_dec rfl rfl (fun hc => ?_) (fun hc => ?_) <;> try (exfalso; omega)) | refine Ops.guard_split rfl rfl (fun hc => ?_) (fun hc => ?_)) | refine goI ?_ | (refine Cw.k_cond ?_; first | (refine Cw.cond_dec rfl (fun hc => ?_) (fun hc => ?_) <;> try (exfalso; omega)) | refine Cw.cond_bool rfl (fun hc => ?_) (fun hc => ?_)) | (refine Ops.k_calla ?_; first | (refine Ops.k_callf 34 ?_; refine Ops.callV kC (Evs.cons rfl (Evs.cons rfl Evs.nil)) rfl ?_) | (refine Ops.k_callf 35 ?_; refine Ops.callV kS (Evs.cons rfl (Evs.cons rfl Evs.nil)) rfl ?_) | (refine Ops.k_callf 36 ?_; refine Ops.callV kH (Evs.cons rfl (Evs.cons rfl Evs.nil)) rfl ?_)) | (apply OpW.k_call; first | (apply OpW.k_callf 34; exact OpW.callV kC (Evs.cons rfl (Evs.cons rfl Evs.nil))) | (apply OpW.k_callf 35; exact OpW.callV kS (Evs.cons rfl (Evs.cons rfl Evs.nil))) | (apply OpW.k_callf 36; exact OpW.callV kH (Evs.cons rfl (Evs.cons rfl Evs.nil)))) | refine goR ?_ | refine goP ?_ | apply PSeq.cons | apply PSeq.yes rfl rfl rfl | exact goW | fail)
    rename_i b0
    refine Cw.loopI [(2, _), (5, _), (10, _), (54, _), (55, _)] _ (fun q e cc => ∃ (i : Nat) (r : ByteArray) (R : List (List Int)) (U : List Int) (rR rU : List (List Tr)) (adR : Option Addr) (capR : Nat) (adU : Option Addr) (capU : Nat), q = tl.length - i ∧ (i ≤ tl.length ∧ r.size ≤ rest0.size ∧ psL tl (splS 10 r) i R U = P ∧ (rR = intsR R ∧ rU = intRows U) ∧ (rR.length = i ∧ rU.length = i) ∧ ∀ l ∈ R, l.length = tl.length) ∧ e = [(7, .str r), (56, .int i)] ∧ cc = [Chunk.box b 29 [.strs tl, Tr.raw (.slice adR i capR), Tr.raw (.slice adU i capU)], Chunk.own adR capR 1 22 rR, Chunk.own adU capU 1 3 rU])
      ⟨_, _, _, Ent.trans (Ent.nil 1 22) (Ent.trans (Ent.nil 1 3) (Ent.mkP goSub goPm)), 0, rest0, [], [], [], [], none, 0, none, 0, rfl, ⟨by omega, Nat.le_refl _, hP, ⟨intsR_nilW.symm, intRows_nilW.symm⟩, ⟨rfl, rfl⟩, fun l hl => by cases hl⟩, rfl, rfl⟩ ?_
    clear hP kC kS kH hln
    rintro _ _ _ ⟨i, r, R, U, _, _, adR, capR, adU, capU, rfl, ⟨hi, hr, hP, ⟨rfl, rfl⟩, ⟨hRl2, hUl⟩, hRn⟩, rfl, rfl⟩
    by_cases hil : i < tl.length
    · obtain ⟨x, hx⟩ := at_lt hil
      have hrx : (strRows tl)[i]? = some [.str x] := strRows_at hx
      have kF1 := kF ((i : Int) + 1)
      have kC := cut1_fn r (by omega) 10
      rcases idx_cases r.data.toList 10 with h | ⟨m2, h⟩
      · rw [cutS_none h] at kC
        rw [splS_none h, psL_one, if_neg (by omega)] at hP
        rw [← hP]
        have kS := split1_fn r (by omega) 32
        generalize splS 32 r = W at *
        repeat' (first | refine goH ?_ | refine goV ?_ | refine goB (fun b => ?_) | refine goC (fun ad cap => ?_) | refine goG ?_ | (refine Ops.k_guard ?_; first | (refine Ops.guard_dec rfl rfl (fun hc => ?_) (fun hc => ?_) <;> try (exfalso; omega)) | refine Ops.guard_split rfl rfl (fun hc => ?_) (fun hc => ?_)) | refine goI ?_ | (refine Cw.k_cond ?_; first | (refine Cw.cond_dec rfl (fun hc => ?_) (fun hc => ?_) <;> try (exfalso; omega)) | refine Cw.cond_bool rfl (fun hc => ?_) (fun hc => ?_)) | (refine Ops.k_calla ?_; first | (refine Ops.k_callf 34 ?_; refine Ops.callV kC (Evs.cons rfl (Evs.cons rfl Evs.nil)) rfl ?_) | (refine Ops.k_callf 35 ?_; refine Ops.callV kS (Evs.cons rfl (Evs.cons rfl Evs.nil)) rfl ?_) | refine Ops.callS_fn (caps := []) (args := [.int ((i : Int) + 1)]) rfl kF1 (Evs.cons rfl Evs.nil) (List.Perm.refl _) rfl ?_) | (apply OpW.k_call; first | (apply OpW.k_callf 34; exact OpW.callV kC (Evs.cons rfl (Evs.cons rfl Evs.nil))) | (apply OpW.k_callf 35; exact OpW.callV kS (Evs.cons rfl (Evs.cons rfl Evs.nil)))) | refine goR ?_ | refine goP ?_ | apply PSeq.cons | apply PSeq.yes rfl rfl rfl | exact goW | fail)
        all_goals first | (exfalso; omega) | (refine Fin.ret (Ent.trans (Ent.setbox (s := 2) rfl goPk) (Ent.take goTk)) (Outs.many rfl (OutL.cons goOe (OutL.cons goOe (OutL.cons goOe OutL.nil))) rfl) ⟨rfl, rfl⟩)
      rw [cutS_some h] at kC
      obtain ⟨h1, hm⟩ := splS_some h
      have hln := splS_neW 10 (r.extract (m2 + 1) r.size)
      rw [h1] at hP
      clear h1 h
      have hw : (r.extract 0 m2).size ≤ r.size := by rw [ByteArray.size_extract]; omega
      have hrest2 : (r.extract (m2 + 1) r.size).size ≤ r.size := by rw [ByteArray.size_extract]; omega
      generalize r.extract 0 m2 = ln at *
      generalize r.extract (m2 + 1) r.size = r2 at *
      have kS := split1_fn ln (by omega) 32
      have hWl := splS_len 32 ln
      have hWc := countByte_le ln.data.toList 32
      rw [← str_list] at hWc
      have hfz : ∀ f ∈ splS 32 ln, f.size ≤ ln.size := fun f hf => splS_size hf
      obtain ⟨a, t2, hW⟩ : ∃ a tl, splS 32 ln = a :: tl := by
        cases hW : splS 32 ln with
        | nil => exact absurd hW (splS_neW 32 ln)
        | cons a tl => exact ⟨a, tl, rfl⟩
      have hrow := fun n x => rowP_parts (n := n) (x := x) hW
      rw [hW] at kS hWl hfz
      rw [List.length_cons] at hWl
      clear hW
      have hQ0 : (strRows (a :: t2))[0]? = some [.str a] := strRows_at rfl
      have hQl := strRows_len (a :: t2)
      rw [List.length_cons] at hQl
      have hdrop2 : (strRows (a :: t2)).drop (1 : Int).toNat = strRows t2 := strRows_tl a t2
      have hT2 := strRows_len t2
      have hfail : rowP tl.length x ln = none → psT P = psT (failW ((i : Int) + 1)) := fun h => by rw [← hP, psL_none hln hx h]
      by_cases g1 : a = x
      rotate_left
      · rw [hfail (by rw [hrow, if_neg (fun h => g1 h.1)])]
        repeat' (first | refine goH ?_ | (refine Ops.k_b_neq ?_; first | (refine Ops.val' rfl (OpV.neqS_t rfl rfl g1) ?_)) | refine goV ?_ | refine goB (fun b => ?_) | refine goC (fun ad cap => ?_) | refine goG ?_ | (refine Ops.k_guard ?_; first | (refine Ops.guard_dec rfl rfl (fun hc => ?_) (fun hc => ?_) <;> try (exfalso; omega)) | refine Ops.guard_split rfl rfl (fun hc => ?_) (fun hc => ?_)) | refine goI ?_ | (refine Cw.k_cond ?_; first | (refine Cw.cond_dec rfl (fun hc => ?_) (fun hc => ?_) <;> try (exfalso; omega)) | refine Cw.cond_bool rfl (fun hc => ?_) (fun hc => ?_)) | (refine Ops.k_calla ?_; first | (refine Ops.k_callf 34 ?_; refine Ops.callV kC (Evs.cons rfl (Evs.cons rfl Evs.nil)) rfl ?_) | (refine Ops.k_callf 35 ?_; refine Ops.callV kS (Evs.cons rfl (Evs.cons rfl Evs.nil)) rfl ?_) | refine Ops.callS_fn (caps := []) (args := [.int ((i : Int) + 1)]) rfl kF1 (Evs.cons rfl Evs.nil) (List.Perm.refl _) rfl ?_) | (apply OpW.k_call; first | (apply OpW.k_callf 34; exact OpW.callV kC (Evs.cons rfl (Evs.cons rfl Evs.nil))) | (apply OpW.k_callf 35; exact OpW.callV kS (Evs.cons rfl (Evs.cons rfl Evs.nil)))) | refine goR ?_ | refine goP ?_ | apply PSeq.cons | apply PSeq.yes rfl rfl rfl | exact goW | fail)
        all_goals first | (exfalso; omega) | (refine Fin.ret (Ent.trans (Ent.setbox (s := 2) rfl goPk) (Ent.take goTk)) (Outs.many rfl (OutL.cons goOe (OutL.cons goOe (OutL.cons goOe OutL.nil))) rfl) ⟨rfl, rfl⟩)
      subst g1
      by_cases g2 : t2.length = tl.length + 1
      rotate_left
      · rw [hfail (by rw [hrow, if_neg (fun h => g2 h.2.1)])]
        repeat' (first | refine goH ?_ | (refine Ops.k_b_neq ?_; first | (refine Ops.val' rfl (OpV.neqS_f rfl rfl rfl) ?_)) | refine goV ?_ | refine goB (fun b => ?_) | refine goC (fun ad cap => ?_) | refine goG ?_ | (refine Ops.k_guard ?_; first | (refine Ops.guard_dec rfl rfl (fun hc => ?_) (fun hc => ?_) <;> try (exfalso; omega)) | refine Ops.guard_split rfl rfl (fun hc => ?_) (fun hc => ?_)) | refine goI ?_ | (refine Cw.k_cond ?_; first | (refine Cw.cond_dec rfl (fun hc => ?_) (fun hc => ?_) <;> try (exfalso; omega)) | refine Cw.cond_bool rfl (fun hc => ?_) (fun hc => ?_)) | (refine Ops.k_calla ?_; first | (refine Ops.k_callf 34 ?_; refine Ops.callV kC (Evs.cons rfl (Evs.cons rfl Evs.nil)) rfl ?_) | (refine Ops.k_callf 35 ?_; refine Ops.callV kS (Evs.cons rfl (Evs.cons rfl Evs.nil)) rfl ?_) | refine Ops.callS_fn (caps := []) (args := [.int ((i : Int) + 1)]) rfl kF1 (Evs.cons rfl Evs.nil) (List.Perm.refl _) rfl ?_) | (apply OpW.k_call; first | (apply OpW.k_callf 34; exact OpW.callV kC (Evs.cons rfl (Evs.cons rfl Evs.nil))) | (apply OpW.k_callf 35; exact OpW.callV kS (Evs.cons rfl (Evs.cons rfl Evs.nil)))) | refine goR ?_ | refine goP ?_ | apply PSeq.cons | apply PSeq.yes rfl rfl rfl | exact goW | fail)
        all_goals first | (exfalso; omega) | (refine Fin.ret (Ent.trans (Ent.setbox (s := 2) rfl goPk) (Ent.take goTk)) (Outs.many rfl (OutL.cons goOe (OutL.cons goOe (OutL.cons goOe OutL.nil))) rfl) ⟨rfl, rfl⟩)
      repeat' (first | refine goH ?_ | (refine Ops.k_b_neq ?_; first | (refine Ops.val' rfl (OpV.neqS_f rfl rfl rfl) ?_)) | (refine Ops.k_slice ?_; first | (refine Ops.slice_l rfl rfl (by omega) rfl ?_; rw [hdrop2])) | refine goV ?_ | refine goB (fun b => ?_) | refine goC (fun ad cap => ?_) | refine goG ?_ | (refine Ops.k_guard ?_; first | (refine Ops.guard_dec rfl rfl (fun hc => ?_) (fun hc => ?_) <;> try (exfalso; omega)) | refine Ops.guard_split rfl rfl (fun hc => ?_) (fun hc => ?_)) | refine goI ?_ | (refine Cw.k_cond ?_; first | (refine Cw.cond_dec rfl (fun hc => ?_) (fun hc => ?_) <;> try (exfalso; omega)) | refine Cw.cond_bool rfl (fun hc => ?_) (fun hc => ?_)) | (refine Ops.k_calla ?_; first | (refine Ops.k_callf 34 ?_; refine Ops.callV kC (Evs.cons rfl (Evs.cons rfl Evs.nil)) rfl ?_) | (refine Ops.k_callf 35 ?_; refine Ops.callV kS (Evs.cons rfl (Evs.cons rfl Evs.nil)) rfl ?_)) | (apply OpW.k_call; first | (apply OpW.k_callf 34; exact OpW.callV kC (Evs.cons rfl (Evs.cons rfl Evs.nil))) | (apply OpW.k_callf 35; exact OpW.callV kS (Evs.cons rfl (Evs.cons rfl Evs.nil)))) | refine goR ?_ | refine goP ?_ | apply PSeq.cons | apply PSeq.yes rfl rfl rfl | exact goW | fail)
      all_goals try (exfalso; omega)
      refine Cw.loopI [(2, _), (5, _), (7, _), (10, _), (11, _), (54, _), (55, _), (56, _), (95, _), (96, _)] _ (fun q e cc => ∃ (j : Nat) (xs : List Int) (rx : List (List Tr)) (ad : Option Addr) (cap : Nat), q = t2.length - j ∧ (j ≤ t2.length ∧ (t2.take j).all okT = true ∧ xs = (t2.take j).map nfT ∧ rx = intRows xs ∧ rx.length = j) ∧ e = [(14, Tr.raw (.slice ad j cap)), (97, .int j)] ∧ cc = [Chunk.own ad cap 1 3 rx])
        ⟨_, _, _, Ent.trans (Ent.nil 1 3) (Ent.mkP goSub goPm), 0, [], [], none, 0, rfl, ⟨by omega, by rw [List.take_zero]; rfl, by rw [List.take_zero]; rfl, intRows_nilW.symm, rfl⟩, rfl, rfl⟩ ?_
      clear kS kC
      rintro _ _ _ ⟨j, xs, _, ad, cap, rfl, ⟨hj, hall, hxs, rfl, hxl⟩, rfl, rfl⟩
      by_cases hjl : j < t2.length
      · obtain ⟨f, hf⟩ := at_lt hjl
        have hrf : (strRows t2)[j]? = some [.str f] := strRows_at hf
        have hff := hfz f (List.mem_cons_of_mem _ (List.mem_of_getElem? hf))
        have kN := numDT f (by omega)
        have htk : t2.take (j + 1) = t2.take j ++ [f] := by rw [List.take_add_one, hf]; rfl
        cases ho : okT f
        · rw [ho] at kN
          rw [hfail (by rw [hrow, if_neg (fun h => by have := List.all_eq_true.1 h.2.2 f (List.mem_of_getElem? hf); rw [ho] at this; cases this)])]
          generalize numDV 10 f.data.toList = v at *
          repeat' (first | refine goH ?_ | refine goV ?_ | refine goB (fun b => ?_) | refine goC (fun ad cap => ?_) | refine goG ?_ | (refine Ops.k_guard ?_; first | (refine Ops.guard_dec rfl rfl (fun hc => ?_) (fun hc => ?_) <;> try (exfalso; omega)) | refine Ops.guard_split rfl rfl (fun hc => ?_) (fun hc => ?_)) | refine goI ?_ | (refine Cw.k_cond ?_; first | (refine Cw.cond_dec rfl (fun hc => ?_) (fun hc => ?_) <;> try (exfalso; omega)) | refine Cw.cond_bool rfl (fun hc => ?_) (fun hc => ?_)) | (refine Ops.k_calla ?_; first | (refine Ops.k_callf 37 ?_; (refine Ops.call kN (Evs.cons rfl (Evs.cons rfl Evs.nil)) goPm rfl ?_; rintro r cs' ⟨rfl, rfl⟩)) | refine Ops.callS_fn (caps := []) (args := [.int ((i : Int) + 1)]) rfl kF1 (Evs.cons rfl Evs.nil) (List.Perm.refl _) rfl ?_) | refine goR ?_ | refine goP ?_ | apply PSeq.cons | apply PSeq.yes rfl rfl rfl | exact goW | fail)
          all_goals first | (exfalso; omega) | (refine Fin.ret (Ent.trans (Ent.setbox (s := 2) rfl goPk) (Ent.take goTk)) (Outs.many rfl (OutL.cons goOe (OutL.cons goOe (OutL.cons goOe OutL.nil))) rfl) ⟨rfl, rfl⟩)
        · rw [ho, numDT_ok ho] at kN
          have hall2 : (t2.take (j + 1)).all okT = true := by rw [htk, List.all_append, hall, List.all_cons, ho]; rfl
          have hxs2 : xs ++ [nfT f] = (t2.take (j + 1)).map nfT := by rw [htk, List.map_append, ← hxs]; rfl
          have hsn : intRows xs ++ [[Tr.int (nfT f)]] = intRows (xs ++ [nfT f]) := intRows_snocW _ _
          have hxl2 : (intRows (xs ++ [nfT f])).length = j + 1 := by rw [← hsn, List.length_append, hxl]; rfl
          generalize nfT f = v at *
          clear hall hxs htk hP hrow hfail
          repeat' (first | refine goH ?_ | refine goV ?_ | refine goB (fun b => ?_) | refine goC (fun ad cap => ?_) | refine goG ?_ | (refine Ops.k_guard ?_; first | (refine Ops.guard_dec rfl rfl (fun hc => ?_) (fun hc => ?_) <;> try (exfalso; omega)) | refine Ops.guard_split rfl rfl (fun hc => ?_) (fun hc => ?_)) | refine goI ?_ | (refine Cw.k_cond ?_; first | (refine Cw.cond_dec rfl (fun hc => ?_) (fun hc => ?_) <;> try (exfalso; omega)) | refine Cw.cond_bool rfl (fun hc => ?_) (fun hc => ?_)) | (refine Ops.k_calla ?_; first | (refine Ops.k_callf 37 ?_; (refine Ops.call kN (Evs.cons rfl (Evs.cons rfl Evs.nil)) goPm rfl ?_; rintro r cs' ⟨rfl, rfl⟩))) | refine goR ?_ | refine goP ?_ | apply PSeq.cons | apply PSeq.yes rfl rfl rfl | exact goW | fail)
          rw [hsn, hxl2]
          exact ⟨_, _, _, (Ent.mk goSub goTk), ⟨j + 1, _, _, _, _, rfl, ⟨by omega, hall2, hxs2, rfl, hxl2⟩, rfl, rfl⟩, by omega⟩
      · have hjn : j = t2.length := by omega
        rw [hjn, List.take_length] at hall hxs
        have hsome := hrow tl.length a
        rw [if_pos ⟨rfl, g2, hall⟩, ← hxs] at hsome
        rw [psL_some hln hx hsome] at hP
        have hxn : xs.length = tl.length + 1 := by rw [hxs, List.length_map, g2]
        obtain ⟨v, hv⟩ := at_lt (l := xs) (k := tl.length) (by omega)
        have hvr : (intRows xs)[tl.length]? = some [.int v] := intRows_at hv
        have hvd : xs.getD tl.length 0 = v := by rw [List.getD_eq_getElem?_getD, hv]; rfl
        rw [hvd] at hP
        have hR2 : intsR R ++ [[.ints (xs.take tl.length)]] = intsR (R ++ [xs.take tl.length]) := intsR_snocW _ _
        have hU2 : intRows U ++ [[Tr.int v]] = intRows (U ++ [v]) := intRows_snocW _ _
        have hR3 : (intsR (R ++ [xs.take tl.length])).length = i + 1 := by rw [← hR2, List.length_append, hRl2]; rfl
        have hU3 : (intRows (U ++ [v])).length = i + 1 := by rw [← hU2, List.length_append, hUl]; rfl
        have hRn2 : ∀ l ∈ R ++ [xs.take tl.length], l.length = tl.length := fun l hl => by
          rcases List.mem_append.1 hl with hl | hl
          · exact hRn l hl
          · rw [List.mem_singleton.1 hl, List.length_take]; omega
        have htk : (intRows xs).take tl.length = intRows (xs.take tl.length) := intRows_takeW _ _
        have hxq : ((j : Nat) : Int) - 1 = ((tl.length : Nat) : Int) := by omega
        have hxl3 := hxl.symm
        clear hall hxs hrow hfail hsome hvd hv kF1 hfz
        repeat' (first | refine goH ?_ | refine goV ?_ | refine goB (fun b => ?_) | refine goC (fun ad cap => ?_) | refine goG ?_ | (refine Ops.k_guard ?_; first | (refine Ops.guard_dec rfl rfl (fun hc => ?_) (fun hc => ?_) <;> try (exfalso; omega)) | refine Ops.guard_split rfl rfl (fun hc => ?_) (fun hc => ?_)) | refine goI ?_ | (refine Cw.k_cond ?_; first | (refine Cw.cond_dec rfl (fun hc => ?_) (fun hc => ?_) <;> try (exfalso; omega)) | refine Cw.cond_bool rfl (fun hc => ?_) (fun hc => ?_)) | fail)
        rw [hxq]
        refine Cw.ent (Ent.settle (s := 14) rfl goPk hxl3) ?_
        first | refine Cw.region_YP (fun ξ S => Chunk.box b 29 [.strs tl, stg (S 17) (Tr.raw (.slice adR i capR)) (Tr.raw (.slice (vAd (ξ 7)) (i + 1) (vCap (ξ 7)))), stg (S 19) (Tr.raw (.slice adU i capU)) (Tr.raw (.slice (vAd (ξ 15)) (i + 1) (vCap (ξ 15))))] :: Chunk.box b0 29 (List.map Tr.raw [.slice none 0 0, .slice none 0 0, .slice none 0 0]) :: numC :: stg (S 7) (Chunk.own adR capR 1 22 (intsR R)) (ownV (ξ 7) 1 22 (intsR R ++ [[.sl 1 ((intRows xs).take tl.length)]])) :: stg (S 15) (Chunk.own adU capU 1 3 (intRows U)) (ownV (ξ 15) 1 3 (intRows U ++ [[.int v]])) :: []) rfl (by decide +kernel) rfl ((fun (ξ : Nat → Value) (S : Nat → Bool) => Chunk.box b 29 [.strs tl, stg (S 17) (Tr.raw (.slice adR i capR)) (Tr.raw (.slice (vAd (ξ 7)) (i + 1) (vCap (ξ 7)))), stg (S 19) (Tr.raw (.slice adU i capU)) (Tr.raw (.slice (vAd (ξ 15)) (i + 1) (vCap (ξ 15))))] :: Chunk.box b0 29 (List.map Tr.raw [.slice none 0 0, .slice none 0 0, .slice none 0 0]) :: numC :: stg (S 7) (Chunk.own adR capR 1 22 (intsR R)) (ownV (ξ 7) 1 22 (intsR R ++ [[.sl 1 ((intRows xs).take tl.length)]])) :: stg (S 15) (Chunk.own adU capU 1 3 (intRows U)) (ownV (ξ 15) 1 3 (intRows U ++ [[.int v]])) :: []) (fun _ => undef) (fun _ => false)) (by simp only [upd_same, updD_same, upd_ne, updD_ne, ne_eq, Nat.reduceEqDiff, not_false_eq_true, stg_t, stg_f, vAd_s, vCap_s, blk_p, List.cons_append, List.nil_append, b2n_t, b2n_f]; exact goXm) (fun _ => rfl) ?_ | fail
        apply YSeq.w (by intro _ _ _; rfl)
        · intro ξ S h1 h2 h3 h4
          have hN0_1 := closed_false h1 h3 (k := 1) rfl (by decide)
          have hN0_7 := closed_false hN0_1 h3 (k := 7) rfl (by decide)
          have hN0_15 := closed_false hN0_7 h3 (k := 15) rfl (by decide)
          have hN0_17 := closed_false h1 h3 (k := 17) rfl (by decide)
          have hN0_19 := closed_false h1 h3 (k := 19) rfl (by decide)
          try simp only [upd_same, updD_same, upd_ne, updD_ne, ne_eq, Nat.reduceEqDiff, not_false_eq_true, stg_t, stg_f, vAd_s, vCap_s, blk_p, List.cons_append, List.nil_append, b2n_t, b2n_f, hN0_7, hN0_15, hN0_17, hN0_19]
          exact goW
        · intro ξ v; rfl
        · intro ξ k v S h3 hn hk
          first
          | rfl
        apply YSeq.w (by intro _ _ _; rfl)
        · intro ξ S h1 h2 h3 h4
          have hN1_7 := closed_false h1 h3 (k := 7) rfl (by decide)
          have hN1_15 := closed_false hN1_7 h3 (k := 15) rfl (by decide)
          have hN1_17 := closed_false h1 h3 (k := 17) rfl (by decide)
          have hN1_19 := closed_false h1 h3 (k := 19) rfl (by decide)
          try simp only [upd_same, updD_same, upd_ne, updD_ne, ne_eq, Nat.reduceEqDiff, not_false_eq_true, stg_t, stg_f, vAd_s, vCap_s, blk_p, List.cons_append, List.nil_append, b2n_t, b2n_f, hN1_7, hN1_15, hN1_17, hN1_19]
          exact goW
        · intro ξ v; rfl
        · intro ξ k v S h3 hn hk
          first
          | rfl
        apply YSeq.w (by intro _ _ _; rfl)
        · intro ξ S h1 h2 h3 h4
          have hN2_5 := closed_false h1 h3 (k := 5) rfl (by decide)
          have hN2_6 := closed_false hN2_5 h3 (k := 6) rfl (by decide)
          have hN2_7 := closed_false hN2_6 h3 (k := 7) rfl (by decide)
          have hN2_15 := closed_false hN2_7 h3 (k := 15) rfl (by decide)
          have hN2_17 := closed_false h1 h3 (k := 17) rfl (by decide)
          have hN2_19 := closed_false h1 h3 (k := 19) rfl (by decide)
          try simp only [upd_same, updD_same, upd_ne, updD_ne, ne_eq, Nat.reduceEqDiff, not_false_eq_true, stg_t, stg_f, vAd_s, vCap_s, blk_p, List.cons_append, List.nil_append, b2n_t, b2n_f, hN2_7, hN2_15, hN2_17, hN2_19]
          exact goW
        · intro ξ v; rfl
        · intro ξ k v S h3 hn hk
          first
          | rfl
        apply YSeq.w (by intro _ _ _; rfl)
        · intro ξ S h1 h2 h3 h4
          have hN3_5 := closed_false h1 h3 (k := 5) rfl (by decide)
          have hN3_6 := closed_false hN3_5 h3 (k := 6) rfl (by decide)
          have hN3_7 := closed_false hN3_6 h3 (k := 7) rfl (by decide)
          have hN3_15 := closed_false hN3_7 h3 (k := 15) rfl (by decide)
          have hN3_17 := closed_false h1 h3 (k := 17) rfl (by decide)
          have hN3_19 := closed_false h1 h3 (k := 19) rfl (by decide)
          try simp only [upd_same, updD_same, upd_ne, updD_ne, ne_eq, Nat.reduceEqDiff, not_false_eq_true, stg_t, stg_f, vAd_s, vCap_s, blk_p, List.cons_append, List.nil_append, b2n_t, b2n_f, hN3_7, hN3_15, hN3_17, hN3_19]
          exact goW
        · intro ξ v; rfl
        · intro ξ k v S h3 hn hk
          first
          | rfl
        apply YSeq.w (by intro _ _ _; rfl)
        · intro ξ S h1 h2 h3 h4
          have hN4_5 := closed_false h1 h3 (k := 5) rfl (by decide)
          have hN4_6 := closed_false hN4_5 h3 (k := 6) rfl (by decide)
          have hN4_7 := closed_false hN4_6 h3 (k := 7) rfl (by decide)
          have hN4_15 := closed_false hN4_7 h3 (k := 15) rfl (by decide)
          have hN4_17 := closed_false h1 h3 (k := 17) rfl (by decide)
          have hN4_19 := closed_false h1 h3 (k := 19) rfl (by decide)
          try simp only [upd_same, updD_same, upd_ne, updD_ne, ne_eq, Nat.reduceEqDiff, not_false_eq_true, stg_t, stg_f, vAd_s, vCap_s, blk_p, List.cons_append, List.nil_append, b2n_t, b2n_f, hN4_7, hN4_15, hN4_17, hN4_19]
          exact goW
        · intro ξ v; rfl
        · intro ξ k v S h3 hn hk
          first
          | rfl
        apply YSeq.w (by intro _ _ _; rfl)
        · intro ξ S h1 h2 h3 h4
          have hN5_6 := closed_false h1 h3 (k := 6) rfl (by decide)
          have hN5_7 := closed_false hN5_6 h3 (k := 7) rfl (by decide)
          have hN5_15 := closed_false hN5_7 h3 (k := 15) rfl (by decide)
          have hN5_17 := closed_false h1 h3 (k := 17) rfl (by decide)
          have hN5_19 := closed_false h1 h3 (k := 19) rfl (by decide)
          try simp only [upd_same, updD_same, upd_ne, updD_ne, ne_eq, Nat.reduceEqDiff, not_false_eq_true, stg_t, stg_f, vAd_s, vCap_s, blk_p, List.cons_append, List.nil_append, b2n_t, b2n_f, hN5_7, hN5_15, hN5_17, hN5_19]
          exact OpV.w (OpV.slice_hm rfl rfl rfl (by omega))
        · intro ξ v; rfl
        · intro ξ k v S h3 hn hk
          first
          | rfl
        apply YSeq.w (by intro _ _ _; rfl)
        · intro ξ S h1 h2 h3 h4
          have hN6_7 := closed_false h1 h3 (k := 7) rfl (by decide)
          have hN6_15 := closed_false hN6_7 h3 (k := 15) rfl (by decide)
          have hN6_17 := closed_false h1 h3 (k := 17) rfl (by decide)
          have hN6_19 := closed_false h1 h3 (k := 19) rfl (by decide)
          try simp only [upd_same, updD_same, upd_ne, updD_ne, ne_eq, Nat.reduceEqDiff, not_false_eq_true, stg_t, stg_f, vAd_s, vCap_s, blk_p, List.cons_append, List.nil_append, b2n_t, b2n_f, hN6_7, hN6_15, hN6_17, hN6_19]
          exact goW
        · intro ξ v; rfl
        · intro ξ k v S h3 hn hk
          first
          | rfl
        apply YSeq.append (i + 1)
        · intro ξ S h1 h2 h3 h4
          have hN7_15 := closed_false h1 h3 (k := 15) rfl (by decide)
          have hN7_17 := closed_false h1 h3 (k := 17) rfl (by decide)
          have hN7_19 := closed_false h1 h3 (k := 19) rfl (by decide)
          simp only [upd_same, updD_same, upd_ne, updD_ne, ne_eq, Nat.reduceEqDiff, not_false_eq_true, stg_t, stg_f, vAd_s, vCap_s, blk_p, List.cons_append, List.nil_append, b2n_t, b2n_f, h1, hN7_15, hN7_17, hN7_19]
          refine ⟨_, _, _, _, _, _, rfl, rfl, goXp, (by first | rfl | (simp; done) | omega), (by first | rfl | omega | (simp; done) | (simp; omega)), (by first | omega | (simp; done) | (simp; omega)), (by first | omega | (simp; done) | (simp; omega)), fun ad' cap' => ?_⟩
          exact goXm
        apply YSeq.w (by intro _ _ _; rfl)
        · intro ξ S h1 h2 h3 h4
          have hN8_9 := closed_false h1 h3 (k := 9) rfl (by decide)
          have hN8_15 := closed_false hN8_9 h3 (k := 15) rfl (by decide)
          have hN8_17 := closed_false h1 h3 (k := 17) rfl (by decide)
          have hN8_19 := closed_false h1 h3 (k := 19) rfl (by decide)
          try simp only [upd_same, updD_same, upd_ne, updD_ne, ne_eq, Nat.reduceEqDiff, not_false_eq_true, stg_t, stg_f, vAd_s, vCap_s, blk_p, List.cons_append, List.nil_append, b2n_t, b2n_f, hN8_15, hN8_17, hN8_19]
          exact goW
        · intro ξ v; rfl
        · intro ξ k v S h3 hn hk
          first
          | rfl
        apply YSeq.w (by intro _ _ _; rfl)
        · intro ξ S h1 h2 h3 h4
          have hN9_15 := closed_false h1 h3 (k := 15) rfl (by decide)
          have hN9_17 := closed_false h1 h3 (k := 17) rfl (by decide)
          have hN9_19 := closed_false h1 h3 (k := 19) rfl (by decide)
          try simp only [upd_same, updD_same, upd_ne, updD_ne, ne_eq, Nat.reduceEqDiff, not_false_eq_true, stg_t, stg_f, vAd_s, vCap_s, blk_p, List.cons_append, List.nil_append, b2n_t, b2n_f, hN9_15, hN9_17, hN9_19]
          exact goW
        · intro ξ v; rfl
        · intro ξ k v S h3 hn hk
          first
          | rfl
        apply YSeq.w (by intro _ _ _; rfl)
        · intro ξ S h1 h2 h3 h4
          have hN10_12 := closed_false h1 h3 (k := 12) rfl (by decide)
          have hN10_13 := closed_false hN10_12 h3 (k := 13) rfl (by decide)
          have hN10_14 := closed_false hN10_13 h3 (k := 14) rfl (by decide)
          have hN10_15 := closed_false hN10_14 h3 (k := 15) rfl (by decide)
          have hN10_17 := closed_false hN10_15 h3 (k := 17) rfl (by decide)
          have hN10_19 := closed_false h1 h3 (k := 19) rfl (by decide)
          try simp only [upd_same, updD_same, upd_ne, updD_ne, ne_eq, Nat.reduceEqDiff, not_false_eq_true, stg_t, stg_f, vAd_s, vCap_s, blk_p, List.cons_append, List.nil_append, b2n_t, b2n_f, hN10_15, hN10_17, hN10_19]
          exact goW
        · intro ξ v; rfl
        · intro ξ k v S h3 hn hk
          first
          | rfl
        apply YSeq.w (by intro _ _ _; rfl)
        · intro ξ S h1 h2 h3 h4
          have hN11_12 := closed_false h1 h3 (k := 12) rfl (by decide)
          have hN11_13 := closed_false hN11_12 h3 (k := 13) rfl (by decide)
          have hN11_14 := closed_false hN11_13 h3 (k := 14) rfl (by decide)
          have hN11_15 := closed_false hN11_14 h3 (k := 15) rfl (by decide)
          have hN11_17 := closed_false hN11_15 h3 (k := 17) rfl (by decide)
          have hN11_19 := closed_false h1 h3 (k := 19) rfl (by decide)
          try simp only [upd_same, updD_same, upd_ne, updD_ne, ne_eq, Nat.reduceEqDiff, not_false_eq_true, stg_t, stg_f, vAd_s, vCap_s, blk_p, List.cons_append, List.nil_append, b2n_t, b2n_f, hN11_15, hN11_17, hN11_19]
          exact goW
        · intro ξ v; rfl
        · intro ξ k v S h3 hn hk
          first
          | rfl
        apply YSeq.w (by intro _ _ _; rfl)
        · intro ξ S h1 h2 h3 h4
          have hN12_13 := closed_false h1 h3 (k := 13) rfl (by decide)
          have hN12_14 := closed_false hN12_13 h3 (k := 14) rfl (by decide)
          have hN12_15 := closed_false hN12_14 h3 (k := 15) rfl (by decide)
          have hN12_17 := closed_false hN12_15 h3 (k := 17) rfl (by decide)
          have hN12_19 := closed_false h1 h3 (k := 19) rfl (by decide)
          try simp only [upd_same, updD_same, upd_ne, updD_ne, ne_eq, Nat.reduceEqDiff, not_false_eq_true, stg_t, stg_f, vAd_s, vCap_s, blk_p, List.cons_append, List.nil_append, b2n_t, b2n_f, hN12_15, hN12_17, hN12_19]
          exact goW
        · intro ξ v; rfl
        · intro ξ k v S h3 hn hk
          first
          | rfl
        apply YSeq.w (by intro _ _ _; rfl)
        · intro ξ S h1 h2 h3 h4
          have hN13_14 := closed_false h1 h3 (k := 14) rfl (by decide)
          have hN13_15 := closed_false hN13_14 h3 (k := 15) rfl (by decide)
          have hN13_17 := closed_false hN13_15 h3 (k := 17) rfl (by decide)
          have hN13_19 := closed_false h1 h3 (k := 19) rfl (by decide)
          try simp only [upd_same, updD_same, upd_ne, updD_ne, ne_eq, Nat.reduceEqDiff, not_false_eq_true, stg_t, stg_f, vAd_s, vCap_s, blk_p, List.cons_append, List.nil_append, b2n_t, b2n_f, hN13_15, hN13_17, hN13_19]
          exact goW
        · intro ξ v; rfl
        · intro ξ k v S h3 hn hk
          first
          | rfl
        apply YSeq.w (by intro _ _ _; rfl)
        · intro ξ S h1 h2 h3 h4
          have hN14_15 := closed_false h1 h3 (k := 15) rfl (by decide)
          have hN14_17 := closed_false hN14_15 h3 (k := 17) rfl (by decide)
          have hN14_19 := closed_false h1 h3 (k := 19) rfl (by decide)
          try simp only [upd_same, updD_same, upd_ne, updD_ne, ne_eq, Nat.reduceEqDiff, not_false_eq_true, stg_t, stg_f, vAd_s, vCap_s, blk_p, List.cons_append, List.nil_append, b2n_t, b2n_f, hN14_15, hN14_17, hN14_19]
          exact goW
        · intro ξ v; rfl
        · intro ξ k v S h3 hn hk
          first
          | rfl
        apply YSeq.append (i + 1)
        · intro ξ S h1 h2 h3 h4
          have hY15_7 : S 7 = true := h2 7 (by decide)
          have hN15_17 := closed_false h1 h3 (k := 17) rfl (by decide)
          have hN15_19 := closed_false h1 h3 (k := 19) rfl (by decide)
          simp only [upd_same, updD_same, upd_ne, updD_ne, ne_eq, Nat.reduceEqDiff, not_false_eq_true, stg_t, stg_f, vAd_s, vCap_s, blk_p, List.cons_append, List.nil_append, b2n_t, b2n_f, hY15_7, h1, hN15_17, hN15_19]
          refine ⟨_, _, _, _, _, _, rfl, rfl, goXp, (by first | rfl | (simp; done) | omega), (by first | rfl | omega | (simp; done) | (simp; omega)), (by first | omega | (simp; done) | (simp; omega)), (by first | omega | (simp; done) | (simp; omega)), fun ad' cap' => ?_⟩
          exact goXm
        apply YSeq.w (by intro _ _ _; rfl)
        · intro ξ S h1 h2 h3 h4
          have hY16_7 : S 7 = true := h2 7 (by decide)
          have hN16_17 := closed_false h1 h3 (k := 17) rfl (by decide)
          have hN16_19 := closed_false h1 h3 (k := 19) rfl (by decide)
          try simp only [upd_same, updD_same, upd_ne, updD_ne, ne_eq, Nat.reduceEqDiff, not_false_eq_true, stg_t, stg_f, vAd_s, vCap_s, blk_p, List.cons_append, List.nil_append, b2n_t, b2n_f, hY16_7, hN16_17, hN16_19]
          exact goW
        · intro ξ v; rfl
        · intro ξ k v S h3 hn hk
          first
          | rfl
          | skip
            have hY16_7 : S 7 = true := h3 16 _ rfl hn 7 (by decide)
            simp only [upd_S hY16_7 hk]
        apply YSeq.store
        · intro ξ S h1 h2 h3 h4
          have hY17_7 : S 7 = true := h2 7 (by decide)
          have hY17_15 : S 15 = true := h2 15 (by decide)
          have hN17_19 := closed_false h1 h3 (k := 19) rfl (by decide)
          simp only [upd_same, updD_same, upd_ne, updD_ne, ne_eq, Nat.reduceEqDiff, not_false_eq_true, stg_t, stg_f, vAd_s, vCap_s, blk_p, List.cons_append, List.nil_append, b2n_t, b2n_f, hY17_7, hY17_15, h1, hN17_19]
          refine ⟨_, _, _, _, _, _, _, rfl, rfl, inferInstance, goXp, rfl, Nat.le_of_ble_eq_true rfl, ?_⟩
          exact goXm
        apply YSeq.w (by intro _ _ _; rfl)
        · intro ξ S h1 h2 h3 h4
          have hY18_7 : S 7 = true := h2 7 (by decide)
          have hY18_15 : S 15 = true := h2 15 (by decide)
          have hY18_17 : S 17 = true := h2 17 (by decide)
          have hN18_19 := closed_false h1 h3 (k := 19) rfl (by decide)
          try simp only [upd_same, updD_same, upd_ne, updD_ne, ne_eq, Nat.reduceEqDiff, not_false_eq_true, stg_t, stg_f, vAd_s, vCap_s, blk_p, List.cons_append, List.nil_append, b2n_t, b2n_f, hY18_7, hY18_15, hY18_17, hN18_19]
          exact goW
        · intro ξ v; rfl
        · intro ξ k v S h3 hn hk
          first
          | rfl
          | skip
            have hY18_7 : S 7 = true := h3 18 _ rfl hn 7 (by decide)
            have hY18_15 : S 15 = true := h3 18 _ rfl hn 15 (by decide)
            simp only [upd_S hY18_7 hk, upd_S hY18_15 hk]
        apply YSeq.store
        · intro ξ S h1 h2 h3 h4
          have hY19_7 : S 7 = true := h2 7 (by decide)
          have hY19_15 : S 15 = true := h2 15 (by decide)
          have hY19_17 : S 17 = true := h2 17 (by decide)
          simp only [upd_same, updD_same, upd_ne, updD_ne, ne_eq, Nat.reduceEqDiff, not_false_eq_true, stg_t, stg_f, vAd_s, vCap_s, blk_p, List.cons_append, List.nil_append, b2n_t, b2n_f, hY19_7, hY19_15, hY19_17, h1]
          refine ⟨_, _, _, _, _, _, _, rfl, rfl, inferInstance, goXp, rfl, Nat.le_of_ble_eq_true rfl, ?_⟩
          exact goXm
        refine YSeq.nil fun ξ hf => ?_
        refine ⟨[(2, _), (5, _), (7, _), (10, _), (54, _), (55, _), (56, _)], _, Ent.trans (Ent.eqc rfl (by first | (simp only [upd_same, updD_same, upd_ne, updD_ne, ne_eq, Nat.reduceEqDiff, not_false_eq_true, stg_t, stg_f, vAd_s, vCap_s, blk_p, List.cons_append, List.nil_append, b2n_t, b2n_f, ownV, slV, ptV] <;> rfl) | rfl)) (Ent.sub goSub), ?_⟩
        clear hf
        generalize vAd (ξ 7) = ad130
        generalize vCap (ξ 7) = cap130
        generalize vAd (ξ 15) = ad138
        generalize vCap (ξ 15) = cap138
        rw [htk, hR2, hU2]
        repeat' (first | refine goH ?_ | refine goV ?_ | refine goB (fun b => ?_) | refine goC (fun ad cap => ?_) | refine goG ?_ | (refine Ops.k_guard ?_; first | (refine Ops.guard_dec rfl rfl (fun hc => ?_) (fun hc => ?_) <;> try (exfalso; omega)) | refine Ops.guard_split rfl rfl (fun hc => ?_) (fun hc => ?_)) | refine goI ?_ | (refine Cw.k_cond ?_; first | (refine Cw.cond_dec rfl (fun hc => ?_) (fun hc => ?_) <;> try (exfalso; omega)) | refine Cw.cond_bool rfl (fun hc => ?_) (fun hc => ?_)) | refine goR ?_ | refine goP ?_ | apply PSeq.cons | apply PSeq.yes rfl rfl rfl | exact goW | fail)
        exact ⟨_, _, _, (Ent.mk goSub goTk), ⟨i + 1, r2, _, _, _, _, _, _, _, _, rfl, ⟨by omega, by omega, hP, ⟨rfl, rfl⟩, ⟨hR3, hU3⟩, hRn2⟩, rfl, rfl⟩, by omega⟩
    · have hin : i = tl.length := by omega
      subst hin
      have kF1 := kF (((strRows tl).length : Int) + 1)
      by_cases hre : r = eLw
      · subst hre
        rw [show splS 10 eLw = [eLw] from rfl, psL_one, if_pos ⟨rfl, rfl⟩] at hP
        rw [← hP]
        have hRR : R.length = tl.length := by rw [← intsR_len, hRl2]
        have hUU : U.length = tl.length := by rw [← intRows_len, hUl]
        have kW := checkAny_fn ⟨tl, R, U⟩ (by show tl.length ≤ 1000000; omega) hRR hUU hRn
        have hRs := hRl2.symm
        have hUs := hUl.symm
        refine Cw.ent (Ent.trans (Ent.settle_box (b := b) (i := 1) (ad := adR) (kk := 1) (rows := intsR R) (by exact Perm.cons' goPk (Perm.cons' goPk (List.Perm.refl _))) rfl hRs rfl) (Ent.settle_box (b := b) (i := 2) (ad := adU) (kk := 1) (rows := intRows U) (by exact Perm.cons' goPk (Perm.cons' goPk (List.Perm.refl _))) rfl hUs rfl)) ?_
        unfold finW
        clear hP hRn hRl2 hUl hRs hUs
        by_cases hw : walE ⟨tl, R, U⟩ = 0
        · rw [if_neg (by omega)]
          rw [hw] at kW
          repeat' (first | refine goH ?_ | (refine Ops.k_b_neq ?_; first | (first | refine Ops.val' rfl (OpV.neqS_f rfl rfl rfl) ?_ | refine Ops.val' rfl (OpV.neq_f rfl rfl rfl) ?_)) | refine goV ?_ | refine goB (fun b => ?_) | refine goC (fun ad cap => ?_) | refine goG ?_ | (refine Ops.k_guard ?_; first | (refine Ops.guard_dec rfl rfl (fun hc => ?_) (fun hc => ?_) <;> try (exfalso; omega)) | refine Ops.guard_split rfl rfl (fun hc => ?_) (fun hc => ?_)) | refine goI ?_ | (refine Cw.k_cond ?_; first | (refine Cw.cond_dec rfl (fun hc => ?_) (fun hc => ?_) <;> try (exfalso; omega)) | refine Cw.cond_bool rfl (fun hc => ?_) (fun hc => ?_)) | (refine Ops.k_calla ?_; first | (refine Ops.k_callf 21 ?_; refine Ops.callV kW (Evs.cons rfl Evs.nil) rfl ?_)) | (apply OpW.k_call; first | (apply OpW.k_callf 21; exact OpW.callV kW (Evs.cons rfl Evs.nil))) | refine goR ?_ | refine goP ?_ | apply PSeq.cons | apply PSeq.yes rfl rfl rfl | exact goW | fail)
          all_goals first | (exfalso; omega) | (refine Fin.ret (Ent.trans (Ent.setbox (s := 2) rfl goPk) (Ent.take goTk)) (Outs.many rfl (OutL.cons goOe (OutL.cons goOe (OutL.cons goOe OutL.nil))) rfl) ⟨rfl, rfl⟩)
        · rw [if_pos hw]
          generalize walE ⟨tl, R, U⟩ = e at *
          repeat' (first | refine goH ?_ | (refine Ops.k_b_neq ?_; first | (first | refine Ops.val' rfl (OpV.neqS_f rfl rfl rfl) ?_ | refine Ops.val' rfl (OpV.neq_t rfl rfl hw) ?_)) | refine goV ?_ | refine goB (fun b => ?_) | refine goC (fun ad cap => ?_) | refine goG ?_ | (refine Ops.k_guard ?_; first | (refine Ops.guard_dec rfl rfl (fun hc => ?_) (fun hc => ?_) <;> try (exfalso; omega)) | refine Ops.guard_split rfl rfl (fun hc => ?_) (fun hc => ?_)) | refine goI ?_ | (refine Cw.k_cond ?_; first | (refine Cw.cond_dec rfl (fun hc => ?_) (fun hc => ?_) <;> try (exfalso; omega)) | refine Cw.cond_bool rfl (fun hc => ?_) (fun hc => ?_)) | (refine Ops.k_calla ?_; first | (refine Ops.k_callf 21 ?_; refine Ops.callV kW (Evs.cons rfl Evs.nil) rfl ?_)) | (apply OpW.k_call; first | (apply OpW.k_callf 21; exact OpW.callV kW (Evs.cons rfl Evs.nil))) | refine goR ?_ | refine goP ?_ | apply PSeq.cons | apply PSeq.yes rfl rfl rfl | exact goW | fail)
          all_goals first | (exfalso; omega) | (refine Fin.ret (Ent.trans (Ent.imp_box goPk impW0) (Ent.trans (Ent.setbox (s := 2) rfl goPk) (Ent.take goTk))) (Outs.many rfl (OutL.cons goOe (OutL.cons goOe (OutL.cons goOe OutL.nil))) rfl) ⟨rfl, rfl⟩)
      · rw [psL_end (by omega) (fun h => hre (splS_single h))] at hP
        rw [← hP, show ((tl.length : Nat) : Int) + 1 = (((strRows tl).length : Nat) : Int) + 1 by rw [hTl]]
        repeat' (first | refine goH ?_ | (refine Ops.k_b_neq ?_; first | (refine Ops.val' rfl (OpV.neqS_t rfl rfl hre) ?_)) | refine goV ?_ | refine goB (fun b => ?_) | refine goC (fun ad cap => ?_) | refine goG ?_ | (refine Ops.k_guard ?_; first | (refine Ops.guard_dec rfl rfl (fun hc => ?_) (fun hc => ?_) <;> try (exfalso; omega)) | refine Ops.guard_split rfl rfl (fun hc => ?_) (fun hc => ?_)) | refine goI ?_ | (refine Cw.k_cond ?_; first | (refine Cw.cond_dec rfl (fun hc => ?_) (fun hc => ?_) <;> try (exfalso; omega)) | refine Cw.cond_bool rfl (fun hc => ?_) (fun hc => ?_)) | (refine Ops.k_calla ?_; first | refine Ops.callS_fn (caps := []) (args := [.int (((strRows tl).length : Int) + 1)]) rfl kF1 (Evs.cons rfl Evs.nil) (List.Perm.refl _) rfl ?_) | refine goR ?_ | refine goP ?_ | apply PSeq.cons | apply PSeq.yes rfl rfl rfl | exact goW | fail)
        all_goals first | (exfalso; omega) | (refine Fin.ret (Ent.trans (Ent.setbox (s := 2) rfl goPk) (Ent.take goTk)) (Outs.many rfl (OutL.cons goOe (OutL.cons goOe (OutL.cons goOe OutL.nil))) rfl) ⟨rfl, rfl⟩)
end Lg
