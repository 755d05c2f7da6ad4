/- A part of the proof of a law of this seat: it adds no condition. By an AI agent. -/
import Derived.Shelf.Strings.Search3
import Derived.Shelf.Strings.Count
import Derived.Test.YtjonpkaojmpmiaaDoorShelf2
set_option linter.all false
set_option maxRecDepth 100000
set_option maxHeartbeats 4000000
namespace Lg
open Go Go.Proofs

/-! ### strings.Index, Count, Split and Cut at a separator of one byte -/
theorem index1_fn (s : ByteArray) (c : UInt8) : PFn Tryd.prog 68 [.str s, .str ⟨#[c]⟩] (· = .int (Lib.indexByte s.data.toList c)) := by
  refine PFn.of_calls (args := [.string s, .string ⟨#[c]⟩]) (fun vs w => rfl) (fun w => ?_)
  refine (Any.strings_Index_one Tryd.lays143 s c w).mono ?_
  rintro e w' ⟨rfl, rfl⟩
  exact ⟨rfl, Go.RowKit.Below.refl _ _, fun _ => Nat.le_refl _⟩
theorem count1_fn (s : ByteArray) (c : UInt8) : PFn Tryd.prog 67 [.str s, .str ⟨#[c]⟩] (· = .int ((Lib.countByte s.data.toList c : Nat) : Int)) := by
  refine PFn.of_calls (args := [.string s, .string ⟨#[c]⟩]) (fun vs w => rfl) (fun w => ?_)
  refine (Any.strings_Count_one Tryd.lays138 s c w).mono ?_
  rintro e w' ⟨rfl, rfl⟩
  exact ⟨rfl, Go.RowKit.Below.refl _ _, fun _ => Nat.le_refl _⟩
theorem indexL1_fn (s : ByteArray) (c : UInt8) : PFn Tryd.prog 65 [.str s, .str ⟨#[c]⟩] (· = .int (Lib.indexByte s.data.toList c)) := by
  refine PFn.of_calls (args := [.string s, .string ⟨#[c]⟩]) (fun vs w => rfl) (fun w => ?_)
  refine (Any.stringslite_Index_one Tryd.lays219 s c w).mono ?_
  rintro e w' ⟨rfl, rfl⟩
  exact ⟨rfl, Go.RowKit.Below.refl _ _, fun _ => Nat.le_refl _⟩
theorem one_ne (c : UInt8) : ¬ (⟨#[c]⟩ : ByteArray) = ⟨#[]⟩ := by
  intro h
  have := congrArg ByteArray.size h
  cases this
theorem idx_lt {s : ByteArray} {c : UInt8} {m : Nat} (h : Lib.indexByte s.data.toList c = (m : Int)) : m < s.size := (splS_some h).2
theorem splR_set (d : List ByteArray) (n : Nat) (z : List Tr) (x : ByteArray) : (strRows d ++ List.replicate (n + 1) z).set d.length [Tr.str x] = strRows (d ++ [x]) ++ List.replicate n z := by
  rw [List.set_append_right _ _ (by rw [strRows_len]; exact Nat.le_refl _), strRows_len, Nat.sub_self, List.replicate_succ, List.set_cons_zero, strRows_app, List.append_assoc]
  rfl
theorem splR_at (d : List ByteArray) (n : Nat) (z : List Tr) : (strRows d ++ List.replicate (n + 1) z)[d.length]? = some z := by
  rw [List.getElem?_append_right (by rw [strRows_len]; exact Nat.le_refl _), strRows_len, Nat.sub_self, List.replicate_succ]
  rfl
theorem splR_len (d : List ByteArray) (n : Nat) (z : List Tr) : (strRows d ++ List.replicate n z).length = d.length + n := by
  rw [List.length_append, strRows_len, List.length_replicate]
theorem genSplit1_fn (s0 : ByteArray) (hs : s0.size ≤ 1000000000) (c : UInt8) : PFn Tryd.prog 58 [.str s0, .str ⟨#[c]⟩, .int 0, .int (-1)] (· = .strs (splS c s0)) := by
  have kC := count1_fn s0 c
  have hle := countByte_le s0.data.toList c
  have hsl := str_list s0
  have hlen := splS_len c s0
  generalize Lib.countByte s0.data.toList c = N at *
  have hmin : min ((N : Int) + 1) ((s0.size : Int) + 1) = ((N + 1 : Nat) : Int) := by omega
  have hsub : ((N + 1 : Nat) : Int) - 1 = (N : Int) := by omega
  have hne := one_ne c
  have h1 : ByteArray.size ⟨#[c]⟩ = 1 := rfl
  refine PFn.mk (Spec.body Tryd.func58 rfl rfl (Tryd.ntmps58) rfl fun w0 own0 M => ?_)
  repeat' (first | refine goH ?_ | (refine Ops.k_c_min ?_; first | (refine Ops.min2 rfl rfl rfl ?_; rw [hmin])) | (refine Ops.k_makeSlice ?_; first | (refine Ops.makeSlice rfl rfl (by omega) (by omega) (by omega) rfl (fun ad cap => ?_); rw [Int.toNat_natCast, show List.map Tr.raw [Value.string ByteArray.empty] = [Tr.str ⟨#[]⟩] from rfl])) | (refine Ops.k_b_sub ?_; first | (refine Ops.sub rfl rfl (by omega) rfl ?_; rw [hsub])) | refine goV ?_ | refine goC (fun ad cap => ?_) | refine goI ?_ | (refine Cw.k_cond ?_; first | (refine Cw.cond_dec rfl (fun hc => ?_) (fun hc => ?_) <;> try (exfalso; omega)) | refine Cw.cond_bool rfl (fun hc => ?_) (fun hc => ?_)) | (refine Ops.k_calla ?_; first | (refine Ops.k_callf 67 ?_; refine Ops.callV kC (Evs.cons rfl (Evs.cons rfl Evs.nil)) rfl ?_)) | fail)
  refine Cw.loopI [(1, _), (2, _), (3, _), (9, _)] _ (fun q e cc => ∃ (i : Nat) (s : ByteArray) (d : List ByteArray) (rows : List (List Tr)), q = N - i ∧ (i ≤ N ∧ d.length = i ∧ s.size ≤ s0.size ∧ splS c s0 = d ++ splS c s ∧ rows = strRows d ++ List.replicate (N + 1 - i) [Tr.str ⟨#[]⟩] ∧ rows.length = N + 1) ∧ e = [(0, .str s), (10, .int i)] ∧ cc = [Chunk.own ad cap 1 9 rows])
    ⟨_, _, _, (Ent.mkP goSub goPm), 0, s0, [], _, rfl, ⟨by omega, rfl, by omega, rfl, by simp [strRows], by simp⟩, rfl, rfl⟩ ?_
  clear kC
  rintro _ _ _ ⟨i, s, d, rows, rfl, ⟨hi, hd, hss, hsp, hrows, hrl⟩, rfl, rfl⟩
  have hln2 := splS_len c s
  have hl3 : N + 1 = d.length + (splS c s).length := by rw [← hlen, hsp, List.length_append]
  have hat : rows[(i : Int).toNat]? = some [Tr.str ⟨#[]⟩] := by
    rw [hrows, Int.toNat_natCast, ← hd, show N + 1 - d.length = (N - d.length) + 1 by omega]
    exact splR_at _ _ _
  have hset : ∀ x : ByteArray, rows.set (i : Int).toNat [Tr.str x] = strRows (d ++ [x]) ++ List.replicate (N + 1 - (i + 1)) [Tr.str ⟨#[]⟩] := fun x => by
    rw [hrows, Int.toNat_natCast, ← hd, show N + 1 - d.length = (N - d.length) + 1 by omega, show N + 1 - (d.length + 1) = N - d.length by omega]
    exact splR_set _ _ _ _
  have hsl2 : ∀ x : ByteArray, (strRows (d ++ [x]) ++ List.replicate (N + 1 - (i + 1)) [Tr.str ⟨#[]⟩]).length = N + 1 := fun x => by rw [splR_len, List.length_append]; simp; omega
  have hdl : ∀ x : ByteArray, (d ++ [x]).length = i + 1 := fun x => by rw [List.length_append, hd]; rfl
  have kI := index1_fn s c
  clear hrows hlen
  rcases idx_cases s.data.toList c with h | ⟨m, h⟩
  · have h2 := splS_none h
    rw [h2] at hsp hl3
    simp only [List.length_cons, List.length_nil] at hl3
    have hiN : i = N := by omega
    subst hiN
    have e1 := hset s
    rw [show i + 1 - (i + 1) = 0 by omega, List.replicate_zero, List.append_nil, ← hsp] at e1
    have hle : (strRows (splS c s0)).length = i + 1 := by rw [hsp, strRows_len]; exact hdl s
    generalize hZ : strRows (splS c s0) = Z at *
    clear hset hsl2 hdl
    repeat' (first | refine goH ?_ | (refine Ops.k_store ?_; first | (refine Ops.store_own1 rfl rfl goPk (by first | rfl | assumption | (simp [*]; done)) (by decide) ?_; erw [e1])) | refine goV ?_ | refine goC (fun ad cap => ?_) | refine goI ?_ | (refine Cw.k_cond ?_; first | (refine Cw.cond_dec rfl (fun hc => ?_) (fun hc => ?_) <;> try (exfalso; omega)) | refine Cw.cond_bool rfl (fun hc => ?_) (fun hc => ?_)) | fail)
    rw [show List.take ((i : Int) + 1).toNat Z = Z from List.take_of_length_le (by omega)]
    refine Fin.ret (Ent.trans (Ent.settle (s := 8) rfl goPk rfl) (Ent.take goTk)) (Outs.sole rfl goOe) ⟨rfl, congrArg (Tr.sl 1) hZ.symm⟩
  · have h2 := (splS_some h).1
    have hm := idx_lt h
    rw [h] at kI
    rw [h2, List.length_cons] at hl3
    have hne2 := splS_len c (s.extract (m + 1) s.size)
    have e1 := hset (s.extract 0 m)
    have e2 : ((m : Int) + 0).toNat = m := by omega
    have e3 : ((m : Int) + ((⟨#[c]⟩ : ByteArray).size : Int)).toNat = m + 1 := by rw [h1]; omega
    have hz : (s.extract (m + 1) s.size).size ≤ s0.size := by rw [ByteArray.size_extract]; omega
    have hlt := hsl2 (s.extract 0 m)
    repeat' (first | refine goH ?_ | (refine Ops.k_slice ?_; first | (first | (refine Ops.sliceS_h rfl rfl rfl (by omega) rfl ?_; rw [e2]) | (refine Ops.sliceS_l rfl rfl rfl (by omega) rfl ?_; rw [e3]))) | (refine Ops.k_store ?_; first | (refine Ops.store_own1 rfl rfl goPk (by first | rfl | assumption | (simp [*]; done)) (by decide) ?_; erw [e1])) | refine goV ?_ | refine goC (fun ad cap => ?_) | refine goI ?_ | (refine Cw.k_cond ?_; first | (refine Cw.cond_dec rfl (fun hc => ?_) (fun hc => ?_) <;> try (exfalso; omega)) | refine Cw.cond_bool rfl (fun hc => ?_) (fun hc => ?_)) | (refine Ops.k_calla ?_; first | (refine Ops.k_callf 68 ?_; refine Ops.callV kI (Evs.cons rfl (Evs.cons rfl Evs.nil)) rfl ?_)) | fail)
    exact ⟨_, _, _, (Ent.mk goSub goTk), ⟨i + 1, _, d ++ [s.extract 0 m], _, rfl, ⟨by omega, hdl _, hz, by rw [hsp, h2, List.append_assoc]; rfl, rfl, hlt⟩, rfl, rfl⟩, by omega⟩
theorem split1_fn (s : ByteArray) (hs : s.size ≤ 1000000000) (c : UInt8) : PFn Tryd.prog 45 [.str s, .str ⟨#[c]⟩] (· = .strs (splS c s)) := by
  have k := genSplit1_fn s hs c
  refine PFn.mk (Spec.body Tryd.func45 rfl rfl (Tryd.ntmps45) rfl fun w0 own0 M => ?_)
  repeat' (first | refine goH ?_ | refine goV ?_ | refine goI ?_ | (refine Cw.k_cond ?_; first | (refine Cw.cond_dec rfl (fun hc => ?_) (fun hc => ?_) <;> try (exfalso; omega)) | refine Cw.cond_bool rfl (fun hc => ?_) (fun hc => ?_)) | (refine Ops.k_calla ?_; first | (refine Ops.k_callf 58 ?_; refine Ops.callV k (Evs.cons rfl (Evs.cons rfl (Evs.cons rfl (Evs.cons rfl Evs.nil)))) rfl ?_)) | fail)
  exact Fin.ret (Ent.take goTk) (Outs.one rfl rfl) ⟨rfl, rfl⟩
theorem cutL1_fn (s : ByteArray) (hs : s.size ≤ 1000000000) (c : UInt8) : PFn Tryd.prog 57 [.str s, .str ⟨#[c]⟩] (· = .tup [.str (cutS c s).1, .str (cutS c s).2.1, .bool (cutS c s).2.2]) := by
  have k := indexL1_fn s c
  have h1 : ByteArray.size ⟨#[c]⟩ = 1 := rfl
  rcases idx_cases s.data.toList c with h | ⟨m, h⟩
  · rw [cutS_none h]
    rw [h] at k
    refine PFn.mk (Spec.body Tryd.func57 rfl rfl (Tryd.ntmps57) rfl fun w0 own0 M => ?_)
    repeat' (first | refine goH ?_ | refine goV ?_ | refine goI ?_ | (refine Cw.k_cond ?_; first | (refine Cw.cond_dec rfl (fun hc => ?_) (fun hc => ?_) <;> try (exfalso; omega)) | refine Cw.cond_bool rfl (fun hc => ?_) (fun hc => ?_)) | (refine Ops.k_calla ?_; first | (refine Ops.k_callf 65 ?_; refine Ops.callV k (Evs.cons rfl (Evs.cons rfl Evs.nil)) rfl ?_)) | (apply OpW.k_call; first | (apply OpW.k_callf 65; exact OpW.callV k (Evs.cons rfl (Evs.cons rfl Evs.nil)))) | refine goR ?_ | refine goP ?_ | apply PSeq.cons | apply PSeq.yes rfl rfl rfl | exact goW | fail)
    refine Fin.ret (Ent.take goTk) (Outs.many rfl (OutL.cons goOe (OutL.cons goOe (OutL.cons goOe OutL.nil))) rfl) ⟨rfl, rfl⟩
  · have hm := idx_lt h
    rw [cutS_some h]
    rw [h] at k
    have e2 : ((m : Int)).toNat = m := by omega
    have e3 : ((m : Int) + ((⟨#[c]⟩ : ByteArray).size : Int)).toNat = m + 1 := by rw [h1]; omega
    refine PFn.mk (Spec.body Tryd.func57 rfl rfl (Tryd.ntmps57) rfl fun w0 own0 M => ?_)
    repeat' (first | refine goH ?_ | refine goV ?_ | refine goI ?_ | (refine Cw.k_cond ?_; first | (refine Cw.cond_dec rfl (fun hc => ?_) (fun hc => ?_) <;> try (exfalso; omega)) | refine Cw.cond_bool rfl (fun hc => ?_) (fun hc => ?_)) | exact OpV.w (OpV.sliceS_l rfl rfl rfl (by omega)) | (refine Ops.k_calla ?_; first | (refine Ops.k_callf 65 ?_; refine Ops.callV k (Evs.cons rfl (Evs.cons rfl Evs.nil)) rfl ?_)) | (apply OpW.k_call; first | (apply OpW.k_callf 65; exact OpW.callV k (Evs.cons rfl (Evs.cons rfl Evs.nil)))) | refine goR ?_ | refine goP ?_ | apply PSeq.cons | apply PSeq.yes rfl rfl rfl | exact goW | fail)
    rw [e3]
    refine Fin.ret (Ent.take goTk) (Outs.many rfl (OutL.cons goOe (OutL.cons goOe (OutL.cons goOe OutL.nil))) rfl) ⟨rfl, rfl⟩
theorem cut1_fn (s : ByteArray) (hs : s.size ≤ 1000000000) (c : UInt8) : PFn Tryd.prog 44 [.str s, .str ⟨#[c]⟩] (· = .tup [.str (cutS c s).1, .str (cutS c s).2.1, .bool (cutS c s).2.2]) := by
  have k := cutL1_fn s hs c
  refine PFn.mk (Spec.body Tryd.func44 rfl rfl (Tryd.ntmps44) rfl fun w0 own0 M => ?_)
  repeat' (first | refine goH ?_ | refine goV ?_ | refine goI ?_ | (refine Cw.k_cond ?_; first | (refine Cw.cond_dec rfl (fun hc => ?_) (fun hc => ?_) <;> try (exfalso; omega)) | refine Cw.cond_bool rfl (fun hc => ?_) (fun hc => ?_)) | (refine Ops.k_calla ?_; first | (refine Ops.k_callf 57 ?_; refine Ops.callV k (Evs.cons rfl (Evs.cons rfl Evs.nil)) rfl ?_)) | fail)
  refine Fin.ret (Ent.take goTk) (Outs.many rfl (OutL.cons goOe (OutL.cons goOe (OutL.cons goOe OutL.nil))) rfl) ⟨rfl, rfl⟩
end Lg
