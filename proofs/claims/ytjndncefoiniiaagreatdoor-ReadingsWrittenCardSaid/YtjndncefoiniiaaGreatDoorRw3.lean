/- A part of the proof of a law of this seat: it adds no condition. By an AI agent. -/
import Derived.Test.YtjndncefoiniiaaGreatDoorRw2
set_option linter.all false
set_option maxRecDepth 100000
set_option maxHeartbeats 4000000
namespace Lg
open Go Go.Proofs

/-! ### a line as a reading -/
def okN (f : ByteArray) : Bool := okNum 9 f.data.toList
def nfN (f : ByteArray) : Int := valNum f.data.toList
def rdg0 : Rdg := ⟨0, []⟩
def decOk (w0 w1 : ByteArray) : Bool := okN w0 && (splS 44 w1).all okN
def decW (w0 w1 : ByteArray) : Rdg := ⟨nfN w0, (splS 44 w1).map nfN⟩
def decV (w0 w1 w2 : ByteArray) : Rdg × Int := if w2.size ≠ 3 then (rdg0, 9) else if sby w2 0 ≠ 42 then (rdg0, 9) else if allIn (w2.extract 1 w2.size) hexB = false then (rdg0, 9) else if decOk w0 w1 = false then (rdg0, 9) else if chkS ((w0 ++ ⟨#[32]⟩) ++ w1) ≠ w2.extract 1 w2.size then (rdg0, 15) else if encE (decW w0 w1) ≠ 0 then (rdg0, encE (decW w0 w1)) else (decW w0 w1, 0)
def decQ : List ByteArray → Rdg × Int
  | [w0, w1, w2] => decV w0 w1 w2
  | _ => (rdg0, 9)
def decP (s : ByteArray) : Rdg × Int := if 1000 < s.size then (rdg0, 2) else decQ (splS 32 s)
def decT (p : Rdg × Int) : Tr := .tup [.rdg p.1, .int p.2]
theorem decQ_ne {W : List ByteArray} (h : W.length ≠ 3) : decQ W = (rdg0, 9) := by
  match W, h with
  | [], _ => rfl
  | [_], _ => rfl
  | [_, _], _ => rfl
  | [_, _, _], h => exact absurd rfl h
  | _ :: _ :: _ :: _ :: _, _ => rfl
theorem rdg0_imp : ImpL [.int 0, Tr.raw (.slice none 0 0)] [.int 0, .ints []] := .cons Imp.refl (.cons Imp.nil .nil)
theorem trim_hex (s : ByteArray) : (⟨(Lib.trimS s.data.toList hexB.data.toList).toArray⟩ : ByteArray) = ⟨#[]⟩ ↔ allIn s hexB = true := by
  unfold allIn
  rw [← trimS_nil, str_empty]
  cases Lib.trimS s.data.toList hexB.data.toList with
  | nil => simp [ByteArray.size]
  | cons a l => simp [ByteArray.size]
def nDV (f : ByteArray) : Int := numDV 9 f.data.toList
def nRV (f : ByteArray) : Int := atoiV f.data.toList
theorem nDV_ok {f : ByteArray} (h : okN f = true) : nDV f = nfN f := if_pos h
theorem nRV_ok {f : ByteArray} (h : okN f = true) : nRV f = nfN f := (ok_atoiB (n := 9) (by omega) h).2
theorem numD9 (s : ByteArray) (hs : s.size ≤ 1000000000) : Spec Tryz.prog 33 [.str s, .int 9] [numC] (fun r cs => r = .tup [.int (nDV s), .bool (okN s)] ∧ cs = [numC]) := numberD_fn s hs 9 (by omega)
theorem numR9 (s : ByteArray) (hs : s.size ≤ 1000000000) : Spec Tryz.prog 35 [.str s, .int 9] [numC] (fun r cs => r = .tup [.int (nRV s), .bool (okN s)] ∧ cs = [numC]) := numberR_fn s hs 9 (by omega)
theorem trimX_fn (s : ByteArray) (hs : s.size ≤ 1000000) : PFn Tryz.prog 32 [.str s, .str hexB] (· = .str ⟨(Lib.trimS s.data.toList hexB.data.toList).toArray⟩) := trim_fn s hexB (by omega) (by decide) (by decide) (by decide)
theorem madeX_fn (s : ByteArray) (hs : s.size ≤ 1000000) : PFn Tryz.prog 34 [.str s, .str hexB] (· = .bool (allIn s hexB)) := made_fn s hexB (by omega) (by decide) (by decide) (by decide)
theorem decode_fn (s : ByteArray) (hs : s.size ≤ 1000000) : Spec Tryz.prog 10 [.str s] [numC] (fun r cs => r = decT (decP s) ∧ cs = [numC]) := by
  have kS := split1_fn s (by omega) 32
  unfold decT decP
  by_cases h1 : 1000 < s.size
  · rw [if_pos h1]
    refine Spec.body Tryz.func10 rfl rfl (Tryz.ntmps10) rfl fun w0 own0 M => ?_
    repeat' (first | refine goH ?_ | refine goV ?_ | refine goB (fun b => ?_) | refine goC (fun ad cap => ?_) | refine goG ?_ | (refine Ops.k_guard ?_; first | (refine Ops.guard_dec rfl rfl (fun hc => ?_) (fun hc => ?_) <;> try (exfalso; omega)) | refine Ops.guard_split rfl rfl (fun hc => ?_) (fun hc => ?_)) | refine goI ?_ | (refine Cw.k_cond ?_; first | (refine Cw.cond_dec rfl (fun hc => ?_) (fun hc => ?_) <;> try (exfalso; omega)) | refine Cw.cond_bool rfl (fun hc => ?_) (fun hc => ?_)) | refine goR ?_ | refine goP ?_ | apply PSeq.cons | apply PSeq.yes rfl rfl rfl | exact goW | fail)
    all_goals first | (exfalso; omega) | (refine Fin.ret (Ent.trans (Ent.imp_box goPk rdg0_imp) (Ent.trans (Ent.setbox (s := 2) rfl goPk) (Ent.take goTk))) (Outs.many rfl (OutL.cons goOe (OutL.cons goOe OutL.nil)) rfl) ⟨rfl, rfl⟩)
  rw [if_neg h1]
  by_cases h3 : (splS 32 s).length = 3
  rotate_left
  · rw [decQ_ne h3]
    have hL := strRows_len (splS 32 s)
    generalize splS 32 s = W at *
    refine Spec.body Tryz.func10 rfl rfl (Tryz.ntmps10) rfl fun w0 own0 M => ?_
    repeat' (first | refine goH ?_ | refine goV ?_ | refine goB (fun b => ?_) | refine goC (fun ad cap => ?_) | refine goG ?_ | (refine Ops.k_guard ?_; first | (refine Ops.guard_dec rfl rfl (fun hc => ?_) (fun hc => ?_) <;> try (exfalso; omega)) | refine Ops.guard_split rfl rfl (fun hc => ?_) (fun hc => ?_)) | refine goI ?_ | (refine Cw.k_cond ?_; first | (refine Cw.cond_dec rfl (fun hc => ?_) (fun hc => ?_) <;> try (exfalso; omega)) | refine Cw.cond_bool rfl (fun hc => ?_) (fun hc => ?_)) | (refine Ops.k_calla ?_; first | (refine Ops.k_callf 31 ?_; refine Ops.callV kS (Evs.cons rfl (Evs.cons rfl Evs.nil)) rfl ?_)) | (apply OpW.k_call; first | (apply OpW.k_callf 31; exact OpW.callV kS (Evs.cons rfl (Evs.cons rfl Evs.nil)))) | refine goR ?_ | refine goP ?_ | apply PSeq.cons | apply PSeq.yes rfl rfl rfl | exact goW | fail)
    all_goals first | (exfalso; omega) | (refine Fin.ret (Ent.trans (Ent.imp_box goPk rdg0_imp) (Ent.trans (Ent.setbox (s := 2) rfl goPk) (Ent.take goTk))) (Outs.many rfl (OutL.cons goOe (OutL.cons goOe OutL.nil)) rfl) ⟨rfl, rfl⟩)
  obtain ⟨a0, a1, a2, hW⟩ : ∃ a0 a1 a2, splS 32 s = [a0, a1, a2] := by
    match splS 32 s, h3 with
    | [a, b, c], _ => exact ⟨a, b, c, rfl⟩
  have z0 : a0.size ≤ s.size := splS_size (c := 32) (by rw [hW]; simp)
  have z1 : a1.size ≤ s.size := splS_size (c := 32) (by rw [hW]; simp)
  have z2 : a2.size ≤ s.size := splS_size (c := 32) (by rw [hW]; simp)
  rw [hW] at kS ⊢
  rw [show decQ [a0, a1, a2] = decV a0 a1 a2 from rfl]
  have kS : PFn Tryz.prog 31 [.str s, .str ⟨#[32]⟩] (· = .sl 1 (strRows [a0, a1, a2])) := kS
  have r0 : (strRows [a0, a1, a2])[0]? = some [Tr.str a0] := rfl
  have r1 : (strRows [a0, a1, a2])[1]? = some [Tr.str a1] := rfl
  have r2 : (strRows [a0, a1, a2])[2]? = some [Tr.str a2] := rfl
  have rL : (strRows [a0, a1, a2]).length = 3 := rfl
  generalize strRows [a0, a1, a2] = R at *
  clear hW h3
  by_cases g2 : a2.size = 3
  rotate_left
  · rw [show decV a0 a1 a2 = (rdg0, 9) by unfold decV; rw [if_pos g2]]
    refine Spec.body Tryz.func10 rfl rfl (Tryz.ntmps10) rfl fun w0 own0 M => ?_
    repeat' (first | refine goH ?_ | refine goV ?_ | refine goB (fun b => ?_) | refine goC (fun ad cap => ?_) | refine goG ?_ | (refine Ops.k_guard ?_; first | (refine Ops.guard_dec rfl rfl (fun hc => ?_) (fun hc => ?_) <;> try (exfalso; omega)) | refine Ops.guard_split rfl rfl (fun hc => ?_) (fun hc => ?_)) | refine goI ?_ | (refine Cw.k_cond ?_; first | (refine Cw.cond_dec rfl (fun hc => ?_) (fun hc => ?_) <;> try (exfalso; omega)) | refine Cw.cond_bool rfl (fun hc => ?_) (fun hc => ?_)) | (refine Ops.k_calla ?_; first | (refine Ops.k_callf 31 ?_; refine Ops.callV kS (Evs.cons rfl (Evs.cons rfl Evs.nil)) rfl ?_)) | (apply OpW.k_call; first | (apply OpW.k_callf 31; exact OpW.callV kS (Evs.cons rfl (Evs.cons rfl Evs.nil)))) | refine goR ?_ | refine goP ?_ | apply PSeq.cons | apply PSeq.yes rfl rfl rfl | exact goW | fail)
    all_goals first | (exfalso; omega) | (refine Fin.ret (Ent.trans (Ent.imp_box goPk rdg0_imp) (Ent.trans (Ent.setbox (s := 2) rfl goPk) (Ent.take goTk))) (Outs.many rfl (OutL.cons goOe (OutL.cons goOe OutL.nil)) rfl) ⟨rfl, rfl⟩)
  by_cases g3 : sby a2 0 = 42
  rotate_left
  · rw [show decV a0 a1 a2 = (rdg0, 9) by unfold decV; rw [if_neg (by omega), if_pos g3]]
    refine Spec.body Tryz.func10 rfl rfl (Tryz.ntmps10) rfl fun w0 own0 M => ?_
    repeat' (first | refine goH ?_ | refine goV ?_ | refine goB (fun b => ?_) | refine goC (fun ad cap => ?_) | refine goG ?_ | (refine Ops.k_guard ?_; first | (refine Ops.guard_dec rfl rfl (fun hc => ?_) (fun hc => ?_) <;> try (exfalso; omega)) | refine Ops.guard_split rfl rfl (fun hc => ?_) (fun hc => ?_)) | refine goI ?_ | (refine Cw.k_cond ?_; first | (refine Cw.cond_dec rfl (fun hc => ?_) (fun hc => ?_) <;> try (exfalso; omega)) | refine Cw.cond_bool rfl (fun hc => ?_) (fun hc => ?_)) | (refine Ops.k_calla ?_; first | (refine Ops.k_callf 31 ?_; refine Ops.callV kS (Evs.cons rfl (Evs.cons rfl Evs.nil)) rfl ?_)) | (apply OpW.k_call; first | (apply OpW.k_callf 31; exact OpW.callV kS (Evs.cons rfl (Evs.cons rfl Evs.nil)))) | refine goR ?_ | refine goP ?_ | apply PSeq.cons | apply PSeq.yes rfl rfl rfl | exact goW | fail)
    all_goals first | (exfalso; omega) | (refine Fin.ret (Ent.trans (Ent.imp_box goPk rdg0_imp) (Ent.trans (Ent.setbox (s := 2) rfl goPk) (Ent.take goTk))) (Outs.many rfl (OutL.cons goOe (OutL.cons goOe OutL.nil)) rfl) ⟨rfl, rfl⟩)
  have zx : (a2.extract 1 a2.size).size ≤ 1000000 := by rw [ByteArray.size_extract]; omega
  have hZ := trim_hex (a2.extract 1 a2.size)
  have kT := trimX_fn _ zx
  have kM := madeX_fn _ zx
  generalize (⟨(Lib.trimS (a2.extract 1 a2.size).data.toList hexB.data.toList).toArray⟩ : ByteArray) = Z at *
  cases g4 : allIn (a2.extract 1 a2.size) hexB
  · rw [show decV a0 a1 a2 = (rdg0, 9) by unfold decV; rw [if_neg (by omega), if_neg (by omega), if_pos g4]]
    rw [g4] at kM hZ
    have hZn : ¬ Z = ⟨#[]⟩ := fun h => by have := hZ.1 h; cases this
    refine Spec.body Tryz.func10 rfl rfl (Tryz.ntmps10) rfl fun w0 own0 M => ?_
    repeat' (first | refine goH ?_ | (refine Ops.k_slice ?_; first | (refine Ops.sliceS_l Tryz.underlying9 rfl rfl (by omega) rfl ?_)) | (refine Ops.k_b_neq ?_; first | (refine Ops.val' rfl (OpV.neqS_t rfl rfl hZn) ?_)) | refine goV ?_ | refine goB (fun b => ?_) | refine goC (fun ad cap => ?_) | refine goG ?_ | (refine Ops.k_guard ?_; first | (refine Ops.guard_dec rfl rfl (fun hc => ?_) (fun hc => ?_) <;> try (exfalso; omega)) | refine Ops.guard_split rfl rfl (fun hc => ?_) (fun hc => ?_)) | refine goI ?_ | (refine Cw.k_cond ?_; first | (refine Cw.cond_dec rfl (fun hc => ?_) (fun hc => ?_) <;> try (exfalso; omega)) | refine Cw.cond_bool rfl (fun hc => ?_) (fun hc => ?_)) | (refine Ops.k_calla ?_; first | (refine Ops.k_callf 31 ?_; refine Ops.callV kS (Evs.cons rfl (Evs.cons rfl Evs.nil)) rfl ?_) | (refine Ops.k_callf 32 ?_; refine Ops.callV kT (Evs.cons rfl (Evs.cons rfl Evs.nil)) rfl ?_) | (refine Ops.k_callf 34 ?_; refine Ops.callV kM (Evs.cons rfl (Evs.cons rfl Evs.nil)) rfl ?_)) | (apply OpW.k_call; first | (apply OpW.k_callf 31; exact OpW.callV kS (Evs.cons rfl (Evs.cons rfl Evs.nil))) | (apply OpW.k_callf 32; exact OpW.callV kT (Evs.cons rfl (Evs.cons rfl Evs.nil))) | (apply OpW.k_callf 34; exact OpW.callV kM (Evs.cons rfl (Evs.cons rfl Evs.nil)))) | refine goR ?_ | refine goP ?_ | apply PSeq.cons | apply PSeq.yes rfl rfl rfl | exact goW | fail)
    all_goals first | (exfalso; omega) | (refine Fin.ret (Ent.trans (Ent.imp_box goPk rdg0_imp) (Ent.trans (Ent.setbox (s := 2) rfl goPk) (Ent.take goTk))) (Outs.many rfl (OutL.cons goOe (OutL.cons goOe OutL.nil)) rfl) ⟨rfl, rfl⟩)
  rw [g4] at kM hZ
  have hZn : Z = ⟨#[]⟩ := hZ.2 rfl
  subst hZn
  clear hZ
  have kN := numD9 a0 (by omega)
  have hV : okN a0 = true → nDV a0 = nfN a0 := fun h => nDV_ok h
  generalize nDV a0 = V at *
  have kF := split1_fn a1 (by omega) 44
  have hFl := splS_len 44 a1
  have hFc := countByte_le a1.data.toList 44
  rw [← str_list] at hFc
  have hFz : ∀ f ∈ splS 44 a1, f.size ≤ a1.size := fun f hf => splS_size hf
  have hdO : decOk a0 a1 = (okN a0 && (splS 44 a1).all okN) := rfl
  have hdW : decW a0 a1 = ⟨nfN a0, (splS 44 a1).map nfN⟩ := rfl
  have hFR := strRows_len (splS 44 a1)
  have zy : ((a0 ++ ⟨#[32]⟩) ++ a1).size ≤ 1000000000 := by rw [ByteArray.size_append, ByteArray.size_append, show ByteArray.size ⟨#[32]⟩ = 1 from rfl]; omega
  have zy1 : (a0 ++ ⟨#[32]⟩).size = a0.size + 1 := by rw [ByteArray.size_append]; rfl
  have zy2 : ByteArray.size ⟨#[32]⟩ = 1 := rfl
  have kC := folded_fn ((a0 ++ ⟨#[32]⟩) ++ a1) zy
  have hD : decV a0 a1 a2 = if decOk a0 a1 = false then (rdg0, 9) else if chkS ((a0 ++ ⟨#[32]⟩) ++ a1) ≠ a2.extract 1 a2.size then (rdg0, 15) else if encE (decW a0 a1) ≠ 0 then (rdg0, encE (decW a0 a1)) else (decW a0 a1, 0) := by
    unfold decV
    rw [if_neg (by omega), if_neg (by omega), if_neg (by rw [g4]; simp)]
  rw [hD]
  clear hD
  generalize chkS ((a0 ++ ⟨#[32]⟩) ++ a1) = C at *
  have kF : PFn Tryz.prog 31 [.str a1, .str ⟨#[44]⟩] (· = .sl 1 (strRows (splS 44 a1))) := kF
  generalize splS 44 a1 = F at *
  refine Spec.body Tryz.func10 rfl rfl (Tryz.ntmps10) rfl fun w0 own0 M => ?_
  repeat' (first | refine goH ?_ | (refine Ops.k_slice ?_; first | (refine Ops.sliceS_l Tryz.underlying9 rfl rfl (by omega) rfl ?_)) | (refine Ops.k_b_neq ?_; first | (refine Ops.val' rfl (OpV.neqS_f rfl rfl rfl) ?_)) | refine goV ?_ | refine goB (fun b => ?_) | refine goC (fun ad cap => ?_) | refine goG ?_ | (refine Ops.k_guard ?_; first | (refine Ops.guard_dec rfl rfl (fun hc => ?_) (fun hc => ?_) <;> try (exfalso; omega)) | refine Ops.guard_split rfl rfl (fun hc => ?_) (fun hc => ?_)) | refine goI ?_ | (refine Cw.k_cond ?_; first | (refine Cw.cond_dec rfl (fun hc => ?_) (fun hc => ?_) <;> try (exfalso; omega)) | refine Cw.cond_bool rfl (fun hc => ?_) (fun hc => ?_)) | (refine Ops.k_calla ?_; first | (refine Ops.k_callf 31 ?_; refine Ops.callV kS (Evs.cons rfl (Evs.cons rfl Evs.nil)) rfl ?_) | (refine Ops.k_callf 31 ?_; refine Ops.callV kF (Evs.cons rfl (Evs.cons rfl Evs.nil)) rfl ?_) | (refine Ops.k_callf 32 ?_; refine Ops.callV kT (Evs.cons rfl (Evs.cons rfl Evs.nil)) rfl ?_) | (refine Ops.k_callf 34 ?_; refine Ops.callV kM (Evs.cons rfl (Evs.cons rfl Evs.nil)) rfl ?_) | (refine Ops.k_callf 33 ?_; (refine Ops.call kN (Evs.cons rfl (Evs.cons rfl Evs.nil)) goPm rfl ?_; rintro r cs' ⟨rfl, rfl⟩))) | (apply OpW.k_call; first | (apply OpW.k_callf 31; exact OpW.callV kS (Evs.cons rfl (Evs.cons rfl Evs.nil))) | (apply OpW.k_callf 31; exact OpW.callV kF (Evs.cons rfl (Evs.cons rfl Evs.nil))) | (apply OpW.k_callf 32; exact OpW.callV kT (Evs.cons rfl (Evs.cons rfl Evs.nil))) | (apply OpW.k_callf 34; exact OpW.callV kM (Evs.cons rfl (Evs.cons rfl Evs.nil)))) | refine goR ?_ | refine goP ?_ | apply PSeq.cons | apply PSeq.yes rfl rfl rfl | exact goW | fail)
  all_goals try (exfalso; omega)
  refine Cw.loopI [(2, _), (4, _), (7, _), (58, _), (59, _)] _ (fun q e cc => ∃ (k : Nat) (o : Bool) (L : List Int) (ad : Option Addr) (cap : Nat), q = F.length - k ∧ (k ≤ F.length ∧ o = (okN a0 && (F.take k).all okN) ∧ (o = true → L = (F.take k).map nfN) ∧ (intRows L).length = k) ∧ e = [(6, .bool o), (60, .int k)] ∧ cc = [Chunk.box b 27 [.int V, Tr.raw (.slice ad k cap)], Chunk.own ad cap 1 3 (intRows L)])
    ⟨_, _, _, Ent.trans (Ent.nil 1 3) (Ent.mkP goSub goPm), 0, _, [], none, 0, rfl, ⟨by omega, by rw [List.take_zero, List.all_nil, Bool.and_true], fun _ => by rw [List.take_zero]; rfl, rfl⟩, rfl, rfl⟩ ?_
  rintro _ _ _ ⟨k, o, L, ad, cap, rfl, ⟨hk, ho, hL, hLl⟩, rfl, rfl⟩
  by_cases hkl : k < F.length
  · obtain ⟨f, hf⟩ := at_lt hkl
    have hr1 : (strRows F)[k]? = some [.str f] := strRows_at hf
    have hfz := hFz f (List.mem_of_getElem? hf)
    have kV := numD9 f (by omega)
    have hW := fun h => nDV_ok (f := f) h
    have htk : F.take (k + 1) = F.take k ++ [f] := by rw [List.take_add_one, hf]; rfl
    have ho2 : (o && okN f) = (okN a0 && (F.take (k + 1)).all okN) := by rw [htk, List.all_append, List.all_cons, List.all_nil, Bool.and_true, ho, Bool.and_assoc]
    have hL2 : (o && okN f) = true → L ++ [nDV f] = (F.take (k + 1)).map nfN := fun h => by
      rw [Bool.and_eq_true] at h
      rw [htk, List.map_append, List.map_cons, List.map_nil, hL h.1, hW h.2]
    have hLn : (intRows (L ++ [nDV f])).length = k + 1 := by rw [intRows_len, List.length_append, ← intRows_len, hLl]; rfl
    generalize nDV f = v at *
    generalize okN f = g at *
    clear ho hL htk hW hV kN kC hdO hdW
    cases o <;> cases g
    all_goals
      repeat' (first | refine goH ?_ | refine goV ?_ | refine goB (fun b => ?_) | refine goC (fun ad cap => ?_) | refine goG ?_ | (refine Ops.k_guard ?_; first | (refine Ops.guard_dec rfl rfl (fun hc => ?_) (fun hc => ?_) <;> try (exfalso; omega)) | refine Ops.guard_split rfl rfl (fun hc => ?_) (fun hc => ?_)) | refine goI ?_ | (refine Cw.k_cond ?_; first | (refine Cw.cond_dec rfl (fun hc => ?_) (fun hc => ?_) <;> try (exfalso; omega)) | refine Cw.cond_bool rfl (fun hc => ?_) (fun hc => ?_)) | (refine Ops.k_calla ?_; first | (refine Ops.k_callf 33 ?_; (refine Ops.call kV (Evs.cons rfl (Evs.cons rfl Evs.nil)) goPm rfl ?_; rintro r cs' ⟨rfl, rfl⟩))) | refine goR ?_ | refine goP ?_ | apply PSeq.cons | apply PSeq.yes rfl rfl rfl | exact goW | fail)
      rw [intRows_snoc, hLn]
      exact ⟨_, _, _, (Ent.mk goSub goTk), ⟨k + 1, _, _, _, _, rfl, ⟨by omega, ho2, hL2, hLn⟩, rfl, rfl⟩, by omega⟩
  have hkn : k = F.length := by omega
  rw [hkn, List.take_length, ← hdO] at ho
  rw [hkn, List.take_length] at hL
  have hLl2 := hLl.symm
  clear hLl
  refine Cw.ent (Ent.settle_box (b := b) (i := 1) (ad := ad) (kk := 1) (rows := intRows L) (by exact Perm.cons' goPk (Perm.cons' goPk (List.Perm.refl _))) rfl hLl2 rfl) ?_
  clear kN
  rw [← ho]
  cases o
  · rw [if_pos rfl]
    repeat' (first | refine goH ?_ | refine goV ?_ | refine goB (fun b => ?_) | refine goC (fun ad cap => ?_) | refine goG ?_ | (refine Ops.k_guard ?_; first | (refine Ops.guard_dec rfl rfl (fun hc => ?_) (fun hc => ?_) <;> try (exfalso; omega)) | refine Ops.guard_split rfl rfl (fun hc => ?_) (fun hc => ?_)) | refine goI ?_ | (refine Cw.k_cond ?_; first | (refine Cw.cond_dec rfl (fun hc => ?_) (fun hc => ?_) <;> try (exfalso; omega)) | refine Cw.cond_bool rfl (fun hc => ?_) (fun hc => ?_)) | refine goR ?_ | refine goP ?_ | apply PSeq.cons | apply PSeq.yes rfl rfl rfl | exact goW | fail)
    refine Fin.ret (Ent.trans (Ent.imp_box goPk rdg0_imp) (Ent.trans (Ent.setbox (s := 2) rfl goPk) (Ent.take goTk))) (Outs.many rfl (OutL.cons goOe (OutL.cons goOe OutL.nil)) rfl) ⟨rfl, rfl⟩
  rw [if_neg (by simp)]
  have hall : okN a0 = true := by
    have : true = (okN a0 && F.all okN) := ho.trans hdO
    rw [eq_comm, Bool.and_eq_true] at this
    exact this.1
  have kE : ∀ D, D = decW a0 a1 → D.vs.length ≤ 100000 := fun D h => by rw [h, hdW]; show (F.map nfN).length ≤ 100000; rw [List.length_map]; omega
  have hdW2 : decW a0 a1 = ⟨V, L⟩ := by rw [hdW, hV hall, hL rfl]
  rw [hdW2]
  have kE : (Rdg.mk V L).vs.length ≤ 100000 := kE _ hdW2.symm
  have kE1 := encode_fn ⟨V, L⟩ kE
  have kE2 := kE1
  clear kE kE1 hL hdO hdW ho hV hdW2
  by_cases h6 : C = a2.extract 1 a2.size
  rotate_left
  · rw [if_pos h6]
    repeat' (first | refine goH ?_ | refine goV ?_ | refine goB (fun b => ?_) | refine goC (fun ad cap => ?_) | refine goG ?_ | (refine Ops.k_guard ?_; first | (refine Ops.guard_dec rfl rfl (fun hc => ?_) (fun hc => ?_) <;> try (exfalso; omega)) | refine Ops.guard_split rfl rfl (fun hc => ?_) (fun hc => ?_)) | refine goI ?_ | (refine Cw.k_cond ?_; first | (refine Cw.cond_dec rfl (fun hc => ?_) (fun hc => ?_) <;> try (exfalso; omega)) | refine Cw.cond_bool rfl (fun hc => ?_) (fun hc => ?_)) | exact OpV.w (OpV.catB rfl rfl (by omega)) | exact OpW.callV kC (Evs.cons rfl Evs.nil) | exact OpV.w (OpV.sliceS_l Tryz.underlying9 rfl rfl (by omega)) | exact OpV.w (OpV.neqS_t rfl rfl h6) | refine goR ?_ | refine goP ?_ | apply PSeq.cons | apply PSeq.yes rfl rfl rfl | exact goW | fail)
    refine Fin.ret (Ent.trans (Ent.imp_box goPk rdg0_imp) (Ent.trans (Ent.setbox (s := 2) rfl goPk) (Ent.take goTk))) (Outs.many rfl (OutL.cons goOe (OutL.cons goOe OutL.nil)) rfl) ⟨rfl, rfl⟩
  rw [if_neg (by simpa using h6)]
  by_cases h7 : encE ⟨V, L⟩ = 0
  rotate_left
  · rw [if_pos h7]
    generalize encE ⟨V, L⟩ = E at *
    repeat' (first | refine goH ?_ | refine goV ?_ | refine goB (fun b => ?_) | refine goC (fun ad cap => ?_) | refine goG ?_ | (refine Ops.k_guard ?_; first | (refine Ops.guard_dec rfl rfl (fun hc => ?_) (fun hc => ?_) <;> try (exfalso; omega)) | refine Ops.guard_split rfl rfl (fun hc => ?_) (fun hc => ?_)) | refine goI ?_ | (refine Cw.k_cond ?_; first | (refine Cw.cond_dec rfl (fun hc => ?_) (fun hc => ?_) <;> try (exfalso; omega)) | refine Cw.cond_bool rfl (fun hc => ?_) (fun hc => ?_)) | exact OpV.w (OpV.catB rfl rfl (by omega)) | exact OpW.callV kC (Evs.cons rfl Evs.nil) | exact OpV.w (OpV.sliceS_l Tryz.underlying9 rfl rfl (by omega)) | exact OpV.w (OpV.neqS_f rfl rfl h6) | (refine Ops.k_calla ?_; first | (refine Ops.k_callf 6 ?_; (refine Ops.call kE2 (Evs.cons rfl Evs.nil) goPm rfl ?_; rintro r cs' ⟨rfl, rfl⟩)) | (refine Ops.k_callf 6 ?_; refine Ops.callV kE2 (Evs.cons rfl Evs.nil) rfl ?_)) | (apply OpW.k_call; first | (apply OpW.k_callf 6; exact OpW.callV kE2 (Evs.cons rfl Evs.nil))) | refine goR ?_ | refine goP ?_ | apply PSeq.cons | apply PSeq.yes rfl rfl rfl | exact goW | fail)
    all_goals first | (exfalso; omega) | (refine Fin.ret (Ent.trans (Ent.imp_box goPk rdg0_imp) (Ent.trans (Ent.setbox (s := 2) rfl goPk) (Ent.take goTk))) (Outs.many rfl (OutL.cons goOe (OutL.cons goOe OutL.nil)) rfl) ⟨rfl, rfl⟩)
  rw [if_neg (by omega)]
  rw [h7] at kE2
  repeat' (first | refine goH ?_ | refine goV ?_ | refine goB (fun b => ?_) | refine goC (fun ad cap => ?_) | refine goG ?_ | (refine Ops.k_guard ?_; first | (refine Ops.guard_dec rfl rfl (fun hc => ?_) (fun hc => ?_) <;> try (exfalso; omega)) | refine Ops.guard_split rfl rfl (fun hc => ?_) (fun hc => ?_)) | refine goI ?_ | (refine Cw.k_cond ?_; first | (refine Cw.cond_dec rfl (fun hc => ?_) (fun hc => ?_) <;> try (exfalso; omega)) | refine Cw.cond_bool rfl (fun hc => ?_) (fun hc => ?_)) | exact OpV.w (OpV.catB rfl rfl (by omega)) | exact OpW.callV kC (Evs.cons rfl Evs.nil) | exact OpV.w (OpV.sliceS_l Tryz.underlying9 rfl rfl (by omega)) | exact OpV.w (OpV.neqS_f rfl rfl h6) | (refine Ops.k_calla ?_; first | (refine Ops.k_callf 6 ?_; (refine Ops.call kE2 (Evs.cons rfl Evs.nil) goPm rfl ?_; rintro r cs' ⟨rfl, rfl⟩)) | (refine Ops.k_callf 6 ?_; refine Ops.callV kE2 (Evs.cons rfl Evs.nil) rfl ?_)) | (apply OpW.k_call; first | (apply OpW.k_callf 6; exact OpW.callV kE2 (Evs.cons rfl Evs.nil))) | refine goR ?_ | refine goP ?_ | apply PSeq.cons | apply PSeq.yes rfl rfl rfl | exact goW | fail)
  all_goals first | (exfalso; omega) | (refine Fin.ret (Ent.trans (Ent.setbox (s := 2) rfl goPk) (Ent.take goTk)) (Outs.many rfl (OutL.cons goOe (OutL.cons goOe OutL.nil)) rfl) ⟨rfl, rfl⟩)
theorem readingFrom_fn (s : ByteArray) (hs : s.size ≤ 1000000) : Spec Tryz.prog 11 [.str s] [numC] (fun r cs => r = decT (decP s) ∧ cs = [numC]) := by
  have kS := split1_fn s (by omega) 32
  unfold decT decP
  by_cases h1 : 1000 < s.size
  · rw [if_pos h1]
    refine Spec.body Tryz.func11 rfl rfl (Tryz.ntmps11) rfl fun w0 own0 M => ?_
    repeat' (first | refine goH ?_ | refine goV ?_ | refine goB (fun b => ?_) | refine goC (fun ad cap => ?_) | refine goG ?_ | (refine Ops.k_guard ?_; first | (refine Ops.guard_dec rfl rfl (fun hc => ?_) (fun hc => ?_) <;> try (exfalso; omega)) | refine Ops.guard_split rfl rfl (fun hc => ?_) (fun hc => ?_)) | refine goI ?_ | (refine Cw.k_cond ?_; first | (refine Cw.cond_dec rfl (fun hc => ?_) (fun hc => ?_) <;> try (exfalso; omega)) | refine Cw.cond_bool rfl (fun hc => ?_) (fun hc => ?_)) | refine goR ?_ | refine goP ?_ | apply PSeq.cons | apply PSeq.yes rfl rfl rfl | exact goW | fail)
    all_goals first | (exfalso; omega) | (refine Fin.ret (Ent.trans (Ent.imp_box goPk rdg0_imp) (Ent.trans (Ent.setbox (s := 2) rfl goPk) (Ent.take goTk))) (Outs.many rfl (OutL.cons goOe (OutL.cons goOe OutL.nil)) rfl) ⟨rfl, rfl⟩)
  rw [if_neg h1]
  by_cases h3 : (splS 32 s).length = 3
  rotate_left
  · rw [decQ_ne h3]
    have hL := strRows_len (splS 32 s)
    generalize splS 32 s = W at *
    refine Spec.body Tryz.func11 rfl rfl (Tryz.ntmps11) rfl fun w0 own0 M => ?_
    repeat' (first | refine goH ?_ | refine goV ?_ | refine goB (fun b => ?_) | refine goC (fun ad cap => ?_) | refine goG ?_ | (refine Ops.k_guard ?_; first | (refine Ops.guard_dec rfl rfl (fun hc => ?_) (fun hc => ?_) <;> try (exfalso; omega)) | refine Ops.guard_split rfl rfl (fun hc => ?_) (fun hc => ?_)) | refine goI ?_ | (refine Cw.k_cond ?_; first | (refine Cw.cond_dec rfl (fun hc => ?_) (fun hc => ?_) <;> try (exfalso; omega)) | refine Cw.cond_bool rfl (fun hc => ?_) (fun hc => ?_)) | (refine Ops.k_calla ?_; first | (refine Ops.k_callf 31 ?_; refine Ops.callV kS (Evs.cons rfl (Evs.cons rfl Evs.nil)) rfl ?_)) | (apply OpW.k_call; first | (apply OpW.k_callf 31; exact OpW.callV kS (Evs.cons rfl (Evs.cons rfl Evs.nil)))) | refine goR ?_ | refine goP ?_ | apply PSeq.cons | apply PSeq.yes rfl rfl rfl | exact goW | fail)
    all_goals first | (exfalso; omega) | (refine Fin.ret (Ent.trans (Ent.imp_box goPk rdg0_imp) (Ent.trans (Ent.setbox (s := 2) rfl goPk) (Ent.take goTk))) (Outs.many rfl (OutL.cons goOe (OutL.cons goOe OutL.nil)) rfl) ⟨rfl, rfl⟩)
  obtain ⟨a0, a1, a2, hW⟩ : ∃ a0 a1 a2, splS 32 s = [a0, a1, a2] := by
    match splS 32 s, h3 with
    | [a, b, c], _ => exact ⟨a, b, c, rfl⟩
  have z0 : a0.size ≤ s.size := splS_size (c := 32) (by rw [hW]; simp)
  have z1 : a1.size ≤ s.size := splS_size (c := 32) (by rw [hW]; simp)
  have z2 : a2.size ≤ s.size := splS_size (c := 32) (by rw [hW]; simp)
  rw [hW] at kS ⊢
  rw [show decQ [a0, a1, a2] = decV a0 a1 a2 from rfl]
  have kS : PFn Tryz.prog 31 [.str s, .str ⟨#[32]⟩] (· = .sl 1 (strRows [a0, a1, a2])) := kS
  have r0 : (strRows [a0, a1, a2])[0]? = some [Tr.str a0] := rfl
  have r1 : (strRows [a0, a1, a2])[1]? = some [Tr.str a1] := rfl
  have r2 : (strRows [a0, a1, a2])[2]? = some [Tr.str a2] := rfl
  have rL : (strRows [a0, a1, a2]).length = 3 := rfl
  generalize strRows [a0, a1, a2] = R at *
  clear hW h3
  by_cases g2 : a2.size = 3
  rotate_left
  · rw [show decV a0 a1 a2 = (rdg0, 9) by unfold decV; rw [if_pos g2]]
    refine Spec.body Tryz.func11 rfl rfl (Tryz.ntmps11) rfl fun w0 own0 M => ?_
    repeat' (first | refine goH ?_ | refine goV ?_ | refine goB (fun b => ?_) | refine goC (fun ad cap => ?_) | refine goG ?_ | (refine Ops.k_guard ?_; first | (refine Ops.guard_dec rfl rfl (fun hc => ?_) (fun hc => ?_) <;> try (exfalso; omega)) | refine Ops.guard_split rfl rfl (fun hc => ?_) (fun hc => ?_)) | refine goI ?_ | (refine Cw.k_cond ?_; first | (refine Cw.cond_dec rfl (fun hc => ?_) (fun hc => ?_) <;> try (exfalso; omega)) | refine Cw.cond_bool rfl (fun hc => ?_) (fun hc => ?_)) | (refine Ops.k_calla ?_; first | (refine Ops.k_callf 31 ?_; refine Ops.callV kS (Evs.cons rfl (Evs.cons rfl Evs.nil)) rfl ?_)) | (apply OpW.k_call; first | (apply OpW.k_callf 31; exact OpW.callV kS (Evs.cons rfl (Evs.cons rfl Evs.nil)))) | refine goR ?_ | refine goP ?_ | apply PSeq.cons | apply PSeq.yes rfl rfl rfl | exact goW | fail)
    all_goals first | (exfalso; omega) | (refine Fin.ret (Ent.trans (Ent.imp_box goPk rdg0_imp) (Ent.trans (Ent.setbox (s := 2) rfl goPk) (Ent.take goTk))) (Outs.many rfl (OutL.cons goOe (OutL.cons goOe OutL.nil)) rfl) ⟨rfl, rfl⟩)
  by_cases g3 : sby a2 0 = 42
  rotate_left
  · rw [show decV a0 a1 a2 = (rdg0, 9) by unfold decV; rw [if_neg (by omega), if_pos g3]]
    refine Spec.body Tryz.func11 rfl rfl (Tryz.ntmps11) rfl fun w0 own0 M => ?_
    repeat' (first | refine goH ?_ | refine goV ?_ | refine goB (fun b => ?_) | refine goC (fun ad cap => ?_) | refine goG ?_ | (refine Ops.k_guard ?_; first | (refine Ops.guard_dec rfl rfl (fun hc => ?_) (fun hc => ?_) <;> try (exfalso; omega)) | refine Ops.guard_split rfl rfl (fun hc => ?_) (fun hc => ?_)) | refine goI ?_ | (refine Cw.k_cond ?_; first | (refine Cw.cond_dec rfl (fun hc => ?_) (fun hc => ?_) <;> try (exfalso; omega)) | refine Cw.cond_bool rfl (fun hc => ?_) (fun hc => ?_)) | (refine Ops.k_calla ?_; first | (refine Ops.k_callf 31 ?_; refine Ops.callV kS (Evs.cons rfl (Evs.cons rfl Evs.nil)) rfl ?_)) | (apply OpW.k_call; first | (apply OpW.k_callf 31; exact OpW.callV kS (Evs.cons rfl (Evs.cons rfl Evs.nil)))) | refine goR ?_ | refine goP ?_ | apply PSeq.cons | apply PSeq.yes rfl rfl rfl | exact goW | fail)
    all_goals first | (exfalso; omega) | (refine Fin.ret (Ent.trans (Ent.imp_box goPk rdg0_imp) (Ent.trans (Ent.setbox (s := 2) rfl goPk) (Ent.take goTk))) (Outs.many rfl (OutL.cons goOe (OutL.cons goOe OutL.nil)) rfl) ⟨rfl, rfl⟩)
  have zx : (a2.extract 1 a2.size).size ≤ 1000000 := by rw [ByteArray.size_extract]; omega
  have hZ := trim_hex (a2.extract 1 a2.size)
  have kT := trimX_fn _ zx
  have kM := madeX_fn _ zx
  generalize (⟨(Lib.trimS (a2.extract 1 a2.size).data.toList hexB.data.toList).toArray⟩ : ByteArray) = Z at *
  cases g4 : allIn (a2.extract 1 a2.size) hexB
  · rw [show decV a0 a1 a2 = (rdg0, 9) by unfold decV; rw [if_neg (by omega), if_neg (by omega), if_pos g4]]
    rw [g4] at kM hZ
    have hZn : ¬ Z = ⟨#[]⟩ := fun h => by have := hZ.1 h; cases this
    refine Spec.body Tryz.func11 rfl rfl (Tryz.ntmps11) rfl fun w0 own0 M => ?_
    repeat' (first | refine goH ?_ | (refine Ops.k_slice ?_; first | (refine Ops.sliceS_l Tryz.underlying9 rfl rfl (by omega) rfl ?_)) | (refine Ops.k_b_neq ?_; first | (refine Ops.val' rfl (OpV.neqS_t rfl rfl hZn) ?_)) | refine goV ?_ | refine goB (fun b => ?_) | refine goC (fun ad cap => ?_) | refine goG ?_ | (refine Ops.k_guard ?_; first | (refine Ops.guard_dec rfl rfl (fun hc => ?_) (fun hc => ?_) <;> try (exfalso; omega)) | refine Ops.guard_split rfl rfl (fun hc => ?_) (fun hc => ?_)) | refine goI ?_ | (refine Cw.k_cond ?_; first | (refine Cw.cond_dec rfl (fun hc => ?_) (fun hc => ?_) <;> try (exfalso; omega)) | refine Cw.cond_bool rfl (fun hc => ?_) (fun hc => ?_)) | (refine Ops.k_calla ?_; first | (refine Ops.k_callf 31 ?_; refine Ops.callV kS (Evs.cons rfl (Evs.cons rfl Evs.nil)) rfl ?_) | (refine Ops.k_callf 32 ?_; refine Ops.callV kT (Evs.cons rfl (Evs.cons rfl Evs.nil)) rfl ?_) | (refine Ops.k_callf 34 ?_; refine Ops.callV kM (Evs.cons rfl (Evs.cons rfl Evs.nil)) rfl ?_)) | (apply OpW.k_call; first | (apply OpW.k_callf 31; exact OpW.callV kS (Evs.cons rfl (Evs.cons rfl Evs.nil))) | (apply OpW.k_callf 32; exact OpW.callV kT (Evs.cons rfl (Evs.cons rfl Evs.nil))) | (apply OpW.k_callf 34; exact OpW.callV kM (Evs.cons rfl (Evs.cons rfl Evs.nil)))) | refine goR ?_ | refine goP ?_ | apply PSeq.cons | apply PSeq.yes rfl rfl rfl | exact goW | fail)
    all_goals first | (exfalso; omega) | (refine Fin.ret (Ent.trans (Ent.imp_box goPk rdg0_imp) (Ent.trans (Ent.setbox (s := 2) rfl goPk) (Ent.take goTk))) (Outs.many rfl (OutL.cons goOe (OutL.cons goOe OutL.nil)) rfl) ⟨rfl, rfl⟩)
  rw [g4] at kM hZ
  have hZn : Z = ⟨#[]⟩ := hZ.2 rfl
  subst hZn
  clear hZ
  have kN := numR9 a0 (by omega)
  have hV : okN a0 = true → nRV a0 = nfN a0 := fun h => nRV_ok h
  generalize nRV a0 = V at *
  have kF := split1_fn a1 (by omega) 44
  have hFl := splS_len 44 a1
  have hFc := countByte_le a1.data.toList 44
  rw [← str_list] at hFc
  have hFz : ∀ f ∈ splS 44 a1, f.size ≤ a1.size := fun f hf => splS_size hf
  have hdO : decOk a0 a1 = (okN a0 && (splS 44 a1).all okN) := rfl
  have hdW : decW a0 a1 = ⟨nfN a0, (splS 44 a1).map nfN⟩ := rfl
  have hFR := strRows_len (splS 44 a1)
  have zy : ((a0 ++ ⟨#[32]⟩) ++ a1).size ≤ 1000000000 := by rw [ByteArray.size_append, ByteArray.size_append, show ByteArray.size ⟨#[32]⟩ = 1 from rfl]; omega
  have zy1 : (a0 ++ ⟨#[32]⟩).size = a0.size + 1 := by rw [ByteArray.size_append]; rfl
  have zy2 : ByteArray.size ⟨#[32]⟩ = 1 := rfl
  have kC := checkDigits_fn ((a0 ++ ⟨#[32]⟩) ++ a1) zy
  have hD : decV a0 a1 a2 = if decOk a0 a1 = false then (rdg0, 9) else if chkS ((a0 ++ ⟨#[32]⟩) ++ a1) ≠ a2.extract 1 a2.size then (rdg0, 15) else if encE (decW a0 a1) ≠ 0 then (rdg0, encE (decW a0 a1)) else (decW a0 a1, 0) := by
    unfold decV
    rw [if_neg (by omega), if_neg (by omega), if_neg (by rw [g4]; simp)]
  rw [hD]
  clear hD
  generalize chkS ((a0 ++ ⟨#[32]⟩) ++ a1) = C at *
  have kF : PFn Tryz.prog 31 [.str a1, .str ⟨#[44]⟩] (· = .sl 1 (strRows (splS 44 a1))) := kF
  generalize splS 44 a1 = F at *
  refine Spec.body Tryz.func11 rfl rfl (Tryz.ntmps11) rfl fun w0 own0 M => ?_
  repeat' (first | refine goH ?_ | (refine Ops.k_slice ?_; first | (refine Ops.sliceS_l Tryz.underlying9 rfl rfl (by omega) rfl ?_)) | (refine Ops.k_b_neq ?_; first | (refine Ops.val' rfl (OpV.neqS_f rfl rfl rfl) ?_)) | refine goV ?_ | refine goB (fun b => ?_) | refine goC (fun ad cap => ?_) | refine goG ?_ | (refine Ops.k_guard ?_; first | (refine Ops.guard_dec rfl rfl (fun hc => ?_) (fun hc => ?_) <;> try (exfalso; omega)) | refine Ops.guard_split rfl rfl (fun hc => ?_) (fun hc => ?_)) | refine goI ?_ | (refine Cw.k_cond ?_; first | (refine Cw.cond_dec rfl (fun hc => ?_) (fun hc => ?_) <;> try (exfalso; omega)) | refine Cw.cond_bool rfl (fun hc => ?_) (fun hc => ?_)) | (refine Ops.k_calla ?_; first | (refine Ops.k_callf 31 ?_; refine Ops.callV kS (Evs.cons rfl (Evs.cons rfl Evs.nil)) rfl ?_) | (refine Ops.k_callf 31 ?_; refine Ops.callV kF (Evs.cons rfl (Evs.cons rfl Evs.nil)) rfl ?_) | (refine Ops.k_callf 32 ?_; refine Ops.callV kT (Evs.cons rfl (Evs.cons rfl Evs.nil)) rfl ?_) | (refine Ops.k_callf 34 ?_; refine Ops.callV kM (Evs.cons rfl (Evs.cons rfl Evs.nil)) rfl ?_) | (refine Ops.k_callf 35 ?_; (refine Ops.call kN (Evs.cons rfl (Evs.cons rfl Evs.nil)) goPm rfl ?_; rintro r cs' ⟨rfl, rfl⟩))) | (apply OpW.k_call; first | (apply OpW.k_callf 31; exact OpW.callV kS (Evs.cons rfl (Evs.cons rfl Evs.nil))) | (apply OpW.k_callf 31; exact OpW.callV kF (Evs.cons rfl (Evs.cons rfl Evs.nil))) | (apply OpW.k_callf 32; exact OpW.callV kT (Evs.cons rfl (Evs.cons rfl Evs.nil))) | (apply OpW.k_callf 34; exact OpW.callV kM (Evs.cons rfl (Evs.cons rfl Evs.nil)))) | refine goR ?_ | refine goP ?_ | apply PSeq.cons | apply PSeq.yes rfl rfl rfl | exact goW | fail)
  all_goals try (exfalso; omega)
  refine Cw.loopI [(2, _), (4, _), (7, _), (57, _), (58, _)] _ (fun q e cc => ∃ (k : Nat) (o : Bool) (L : List Int) (ad : Option Addr) (cap : Nat), q = F.length - k ∧ (k ≤ F.length ∧ o = (okN a0 && (F.take k).all okN) ∧ (o = true → L = (F.take k).map nfN) ∧ (intRows L).length = k) ∧ e = [(6, .bool o), (59, .int k)] ∧ cc = [Chunk.box b 27 [.int V, Tr.raw (.slice ad k cap)], Chunk.own ad cap 1 3 (intRows L)])
    ⟨_, _, _, Ent.trans (Ent.nil 1 3) (Ent.mkP goSub goPm), 0, _, [], none, 0, rfl, ⟨by omega, by rw [List.take_zero, List.all_nil, Bool.and_true], fun _ => by rw [List.take_zero]; rfl, rfl⟩, rfl, rfl⟩ ?_
  rintro _ _ _ ⟨k, o, L, ad, cap, rfl, ⟨hk, ho, hL, hLl⟩, rfl, rfl⟩
  by_cases hkl : k < F.length
  · obtain ⟨f, hf⟩ := at_lt hkl
    have hr1 : (strRows F)[k]? = some [.str f] := strRows_at hf
    have hfz := hFz f (List.mem_of_getElem? hf)
    have kV := numR9 f (by omega)
    have hW := fun h => nRV_ok (f := f) h
    have htk : F.take (k + 1) = F.take k ++ [f] := by rw [List.take_add_one, hf]; rfl
    have ho2 : (o && okN f) = (okN a0 && (F.take (k + 1)).all okN) := by rw [htk, List.all_append, List.all_cons, List.all_nil, Bool.and_true, ho, Bool.and_assoc]
    have hL2 : (o && okN f) = true → L ++ [nRV f] = (F.take (k + 1)).map nfN := fun h => by
      rw [Bool.and_eq_true] at h
      rw [htk, List.map_append, List.map_cons, List.map_nil, hL h.1, hW h.2]
    have hLn : (intRows (L ++ [nRV f])).length = k + 1 := by rw [intRows_len, List.length_append, ← intRows_len, hLl]; rfl
    generalize nRV f = v at *
    generalize okN f = g at *
    clear ho hL htk hW hV kN kC hdO hdW
    cases o <;> cases g
    all_goals
      repeat' (first | refine goH ?_ | refine goV ?_ | refine goB (fun b => ?_) | refine goC (fun ad cap => ?_) | refine goG ?_ | (refine Ops.k_guard ?_; first | (refine Ops.guard_dec rfl rfl (fun hc => ?_) (fun hc => ?_) <;> try (exfalso; omega)) | refine Ops.guard_split rfl rfl (fun hc => ?_) (fun hc => ?_)) | refine goI ?_ | (refine Cw.k_cond ?_; first | (refine Cw.cond_dec rfl (fun hc => ?_) (fun hc => ?_) <;> try (exfalso; omega)) | refine Cw.cond_bool rfl (fun hc => ?_) (fun hc => ?_)) | (refine Ops.k_calla ?_; first | (refine Ops.k_callf 35 ?_; (refine Ops.call kV (Evs.cons rfl (Evs.cons rfl Evs.nil)) goPm rfl ?_; rintro r cs' ⟨rfl, rfl⟩))) | refine goR ?_ | refine goP ?_ | apply PSeq.cons | apply PSeq.yes rfl rfl rfl | exact goW | fail)
      rw [intRows_snoc, hLn]
      exact ⟨_, _, _, (Ent.mk goSub goTk), ⟨k + 1, _, _, _, _, rfl, ⟨by omega, ho2, hL2, hLn⟩, rfl, rfl⟩, by omega⟩
  have hkn : k = F.length := by omega
  rw [hkn, List.take_length, ← hdO] at ho
  rw [hkn, List.take_length] at hL
  have hLl2 := hLl.symm
  clear hLl
  refine Cw.ent (Ent.settle_box (b := b) (i := 1) (ad := ad) (kk := 1) (rows := intRows L) (by exact Perm.cons' goPk (Perm.cons' goPk (List.Perm.refl _))) rfl hLl2 rfl) ?_
  clear kN
  rw [← ho]
  cases o
  · rw [if_pos rfl]
    repeat' (first | refine goH ?_ | refine goV ?_ | refine goB (fun b => ?_) | refine goC (fun ad cap => ?_) | refine goG ?_ | (refine Ops.k_guard ?_; first | (refine Ops.guard_dec rfl rfl (fun hc => ?_) (fun hc => ?_) <;> try (exfalso; omega)) | refine Ops.guard_split rfl rfl (fun hc => ?_) (fun hc => ?_)) | refine goI ?_ | (refine Cw.k_cond ?_; first | (refine Cw.cond_dec rfl (fun hc => ?_) (fun hc => ?_) <;> try (exfalso; omega)) | refine Cw.cond_bool rfl (fun hc => ?_) (fun hc => ?_)) | refine goR ?_ | refine goP ?_ | apply PSeq.cons | apply PSeq.yes rfl rfl rfl | exact goW | fail)
    refine Fin.ret (Ent.trans (Ent.imp_box goPk rdg0_imp) (Ent.trans (Ent.setbox (s := 2) rfl goPk) (Ent.take goTk))) (Outs.many rfl (OutL.cons goOe (OutL.cons goOe OutL.nil)) rfl) ⟨rfl, rfl⟩
  rw [if_neg (by simp)]
  have hall : okN a0 = true := by
    have : true = (okN a0 && F.all okN) := ho.trans hdO
    rw [eq_comm, Bool.and_eq_true] at this
    exact this.1
  have kE : ∀ D, D = decW a0 a1 → D.vs.length ≤ 100000 := fun D h => by rw [h, hdW]; show (F.map nfN).length ≤ 100000; rw [List.length_map]; omega
  have hdW2 : decW a0 a1 = ⟨V, L⟩ := by rw [hdW, hV hall, hL rfl]
  rw [hdW2]
  have kE : (Rdg.mk V L).vs.length ≤ 100000 := kE _ hdW2.symm
  have kE1 := lineFault_fn ⟨V, L⟩ kE
  have kE2 := kE1
  clear kE kE1 hL hdO hdW ho hV hdW2
  by_cases h6 : C = a2.extract 1 a2.size
  rotate_left
  · rw [if_pos h6]
    repeat' (first | refine goH ?_ | refine goV ?_ | refine goB (fun b => ?_) | refine goC (fun ad cap => ?_) | refine goG ?_ | (refine Ops.k_guard ?_; first | (refine Ops.guard_dec rfl rfl (fun hc => ?_) (fun hc => ?_) <;> try (exfalso; omega)) | refine Ops.guard_split rfl rfl (fun hc => ?_) (fun hc => ?_)) | refine goI ?_ | (refine Cw.k_cond ?_; first | (refine Cw.cond_dec rfl (fun hc => ?_) (fun hc => ?_) <;> try (exfalso; omega)) | refine Cw.cond_bool rfl (fun hc => ?_) (fun hc => ?_)) | exact OpV.w (OpV.catB rfl rfl (by omega)) | exact OpW.callV kC (Evs.cons rfl Evs.nil) | exact OpV.w (OpV.sliceS_l Tryz.underlying9 rfl rfl (by omega)) | exact OpV.w (OpV.neqS_t rfl rfl h6) | refine goR ?_ | refine goP ?_ | apply PSeq.cons | apply PSeq.yes rfl rfl rfl | exact goW | fail)
    refine Fin.ret (Ent.trans (Ent.imp_box goPk rdg0_imp) (Ent.trans (Ent.setbox (s := 2) rfl goPk) (Ent.take goTk))) (Outs.many rfl (OutL.cons goOe (OutL.cons goOe OutL.nil)) rfl) ⟨rfl, rfl⟩
  rw [if_neg (by simpa using h6)]
  by_cases h7 : encE ⟨V, L⟩ = 0
  rotate_left
  · rw [if_pos h7]
    generalize encE ⟨V, L⟩ = E at *
    repeat' (first | refine goH ?_ | refine goV ?_ | refine goB (fun b => ?_) | refine goC (fun ad cap => ?_) | refine goG ?_ | (refine Ops.k_guard ?_; first | (refine Ops.guard_dec rfl rfl (fun hc => ?_) (fun hc => ?_) <;> try (exfalso; omega)) | refine Ops.guard_split rfl rfl (fun hc => ?_) (fun hc => ?_)) | refine goI ?_ | (refine Cw.k_cond ?_; first | (refine Cw.cond_dec rfl (fun hc => ?_) (fun hc => ?_) <;> try (exfalso; omega)) | refine Cw.cond_bool rfl (fun hc => ?_) (fun hc => ?_)) | exact OpV.w (OpV.catB rfl rfl (by omega)) | exact OpW.callV kC (Evs.cons rfl Evs.nil) | exact OpV.w (OpV.sliceS_l Tryz.underlying9 rfl rfl (by omega)) | exact OpV.w (OpV.neqS_f rfl rfl h6) | (refine Ops.k_calla ?_; first | (refine Ops.k_callf 7 ?_; (refine Ops.call kE2 (Evs.cons rfl Evs.nil) goPm rfl ?_; rintro r cs' ⟨rfl, rfl⟩)) | (refine Ops.k_callf 7 ?_; refine Ops.callV kE2 (Evs.cons rfl Evs.nil) rfl ?_)) | (apply OpW.k_call; first | (apply OpW.k_callf 7; exact OpW.callV kE2 (Evs.cons rfl Evs.nil))) | refine goR ?_ | refine goP ?_ | apply PSeq.cons | apply PSeq.yes rfl rfl rfl | exact goW | fail)
    all_goals first | (exfalso; omega) | (refine Fin.ret (Ent.trans (Ent.imp_box goPk rdg0_imp) (Ent.trans (Ent.setbox (s := 2) rfl goPk) (Ent.take goTk))) (Outs.many rfl (OutL.cons goOe (OutL.cons goOe OutL.nil)) rfl) ⟨rfl, rfl⟩)
  rw [if_neg (by omega)]
  rw [h7] at kE2
  repeat' (first | refine goH ?_ | refine goV ?_ | refine goB (fun b => ?_) | refine goC (fun ad cap => ?_) | refine goG ?_ | (refine Ops.k_guard ?_; first | (refine Ops.guard_dec rfl rfl (fun hc => ?_) (fun hc => ?_) <;> try (exfalso; omega)) | refine Ops.guard_split rfl rfl (fun hc => ?_) (fun hc => ?_)) | refine goI ?_ | (refine Cw.k_cond ?_; first | (refine Cw.cond_dec rfl (fun hc => ?_) (fun hc => ?_) <;> try (exfalso; omega)) | refine Cw.cond_bool rfl (fun hc => ?_) (fun hc => ?_)) | exact OpV.w (OpV.catB rfl rfl (by omega)) | exact OpW.callV kC (Evs.cons rfl Evs.nil) | exact OpV.w (OpV.sliceS_l Tryz.underlying9 rfl rfl (by omega)) | exact OpV.w (OpV.neqS_f rfl rfl h6) | (refine Ops.k_calla ?_; first | (refine Ops.k_callf 7 ?_; (refine Ops.call kE2 (Evs.cons rfl Evs.nil) goPm rfl ?_; rintro r cs' ⟨rfl, rfl⟩)) | (refine Ops.k_callf 7 ?_; refine Ops.callV kE2 (Evs.cons rfl Evs.nil) rfl ?_)) | (apply OpW.k_call; first | (apply OpW.k_callf 7; exact OpW.callV kE2 (Evs.cons rfl Evs.nil))) | refine goR ?_ | refine goP ?_ | apply PSeq.cons | apply PSeq.yes rfl rfl rfl | exact goW | fail)
  all_goals first | (exfalso; omega) | (refine Fin.ret (Ent.trans (Ent.setbox (s := 2) rfl goPk) (Ent.take goTk)) (Outs.many rfl (OutL.cons goOe (OutL.cons goOe OutL.nil)) rfl) ⟨rfl, rfl⟩)
end Lg
