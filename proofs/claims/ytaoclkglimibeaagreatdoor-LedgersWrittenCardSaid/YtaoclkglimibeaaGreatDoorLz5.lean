/- A part of the proof of a law of this seat: it adds no condition. By an AI agent. -/
import Derived.Test.YtaoclkglimibeaaGreatDoorLz1
import Derived.Test.YtaoclkglimibeaaGreatDoorNumD
section
set_option linter.all false
set_option maxRecDepth 100000
set_option maxHeartbeats 8000000
namespace Lg
open Go Go.Proofs

/-! ### strings.SplitN(s, " ", 3), head, readLine -/
def spl3 (s : ByteArray) : List ByteArray := (splN 2 s.data.toList).map mkB
theorem splN_none {n : Nat} {l : List UInt8} (h : brk l = none) : splN n l = [l] := by
  cases n with
  | zero => rfl
  | succ n => rw [splN, h]
theorem splN_some {n : Nat} {l a b : List UInt8} (h : brk l = some (a, b)) : splN (n + 1) l = a :: splN n b := by rw [splN, h]
theorem genSplit3_fn (s0 : ByteArray) (hs : s0.size ≤ 1000000000) : PFn Tryz.prog 44 [.str s0, .str ⟨#[32]⟩, .int 0, .int 3] (· = .strs (spl3 s0)) := by
  have hsl := str_list s0
  obtain ⟨N, hN⟩ : ∃ N, N = min 2 s0.size := ⟨_, rfl⟩
  have hmin : min (3 : Int) ((s0.size : Int) + 1) = ((N + 1 : Nat) : Int) := by omega
  have hsub : ((N + 1 : Nat) : Int) - 1 = (N : Int) := by omega
  have hne := one_ne 32
  have h1 : ByteArray.size ⟨#[32]⟩ = 1 := rfl
  refine PFn.mk (Spec.body Tryz.func44 rfl rfl (Tryz.ntmps44) rfl fun w0 own0 M => ?_)
  repeat' (first | refine goH ?_ | (refine Ops.k_c_min ?_; first | (refine Ops.min2 rfl rfl rfl ?_; rw [hmin])) | (refine Ops.k_makeSlice ?_; first | (refine Ops.makeSlice rfl rfl (by omega) (by omega) (by omega) rfl (fun ad cap => ?_); rw [Int.toNat_natCast, show List.map Tr.raw [Value.string ByteArray.empty] = [Tr.str ⟨#[]⟩] from rfl])) | (refine Ops.k_b_sub ?_; first | (refine Ops.sub rfl rfl (by omega) rfl ?_; rw [hsub])) | refine goV ?_ | refine goC (fun ad cap => ?_) | refine goI ?_ | (refine Cw.k_cond ?_; first | (refine Cw.cond_dec rfl (fun hc => ?_) (fun hc => ?_) <;> try (exfalso; omega)) | refine Cw.cond_bool rfl (fun hc => ?_) (fun hc => ?_)) | fail)
  refine Cw.loopI [(1, _), (2, _), (3, _), (9, _)] _ (fun q e cc => ∃ (i : Nat) (s : ByteArray) (d : List ByteArray) (rows : List (List Tr)), q = N - i ∧ (i ≤ N ∧ d.length = i ∧ s.size + i ≤ s0.size ∧ spl3 s0 = d ++ (splN (2 - i) s.data.toList).map mkB ∧ rows = strRows d ++ List.replicate (N + 1 - i) [Tr.str ⟨#[]⟩] ∧ rows.length = N + 1) ∧ e = [(0, .str s), (10, .int i)] ∧ cc = [Chunk.own ad cap 1 9 rows])
    ⟨_, _, _, (Ent.mkP goSub goPm), 0, s0, [], _, rfl, ⟨by omega, rfl, by omega, rfl, by simp [strRows], by simp⟩, rfl, rfl⟩ ?_
  rintro _ _ _ ⟨i, s, d, rows, rfl, ⟨hi, hd, hss, hsp, hrows, hrl⟩, rfl, rfl⟩
  have hat : rows[(i : Int).toNat]? = some [Tr.str ⟨#[]⟩] := by
    rw [hrows, Int.toNat_natCast, ← hd, show N + 1 - d.length = (N - d.length) + 1 by omega]
    exact splR_at _ _ _
  have hset : ∀ x : ByteArray, rows.set (i : Int).toNat [Tr.str x] = strRows (d ++ [x]) ++ List.replicate (N + 1 - (i + 1)) [Tr.str ⟨#[]⟩] := fun x => by
    rw [hrows, Int.toNat_natCast, ← hd, show N + 1 - d.length = (N - d.length) + 1 by omega, show N + 1 - (d.length + 1) = N - d.length by omega]
    exact splR_set _ _ _ _
  have hsl2 : ∀ x : ByteArray, (strRows (d ++ [x]) ++ List.replicate (N + 1 - (i + 1)) [Tr.str ⟨#[]⟩]).length = N + 1 := fun x => by rw [splR_len, List.length_append]; simp; omega
  have hdl : ∀ x : ByteArray, (d ++ [x]).length = i + 1 := fun x => by rw [List.length_append, hd]; rfl
  have kI := index1_fn s 32
  clear hrows
  have hfin : splN (2 - i) s.data.toList = [s.data.toList] → spl3 s0 = d ++ [s] := fun h => by rw [hsp, h]; rfl
  have htk : (strRows (d ++ [s]) ++ List.replicate (N + 1 - (i + 1)) [Tr.str ⟨#[]⟩]).take ((i : Int) + 1).toNat = strRows (d ++ [s]) := by
    rw [show ((i : Int) + 1).toNat = (strRows (d ++ [s])).length by rw [strRows_len, hdl]; omega, List.take_left]
  by_cases hiN : i = N
  · have hz := hfin (by
      by_cases h2 : i = 2
      · rw [h2]; rfl
      · have hs0 : s.size = 0 := by omega
        have : s.data.toList = [] := List.eq_nil_of_length_eq_zero (by rw [← str_list]; exact hs0)
        rw [this]
        exact splN_none rfl)
    have e1 := hset s
    have hle := hsl2 s
    have hlz : (strRows (d ++ [s])).length = i + 1 := by rw [strRows_len]; exact hdl s
    rw [hz]
    generalize strRows (d ++ [s]) ++ List.replicate (N + 1 - (i + 1)) [Tr.str ⟨#[]⟩] = Z at *
    clear hset hsl2 hdl hfin hsp
    repeat' (first | refine goH ?_ | (refine Ops.k_store ?_; first | (refine Ops.store_own1 rfl rfl goPk (by first | rfl | assumption | (simp [*]; done)) (by decide) ?_; erw [e1])) | refine goV ?_ | refine goC (fun ad cap => ?_) | refine goI ?_ | (refine Cw.k_cond ?_; first | (refine Cw.cond_dec rfl (fun hc => ?_) (fun hc => ?_) <;> try (exfalso; omega)) | refine Cw.cond_bool rfl (fun hc => ?_) (fun hc => ?_)) | fail)
    rw [htk]
    refine Fin.ret (Ent.trans (Ent.settle (s := 8) rfl goPk rfl) (Ent.take goTk)) (Outs.sole rfl goOe) ⟨rfl, rfl⟩
  cases hb : brk s.data.toList with
  | none =>
    have hz := hfin (splN_none hb)
    have hidx := (idx_brk _).1 hb
    rw [hidx] at kI
    have e1 := hset s
    have hle := hsl2 s
    have hlz : (strRows (d ++ [s])).length = i + 1 := by rw [strRows_len]; exact hdl s
    rw [hz]
    generalize strRows (d ++ [s]) ++ List.replicate (N + 1 - (i + 1)) [Tr.str ⟨#[]⟩] = Z at *
    clear hset hsl2 hdl hfin hsp
    repeat' (first | refine goH ?_ | (refine Ops.k_store ?_; first | (refine Ops.store_own1 rfl rfl goPk (by first | rfl | assumption | (simp [*]; done)) (by decide) ?_; erw [e1])) | refine goV ?_ | refine goC (fun ad cap => ?_) | refine goI ?_ | (refine Cw.k_cond ?_; first | (refine Cw.cond_dec rfl (fun hc => ?_) (fun hc => ?_) <;> try (exfalso; omega)) | refine Cw.cond_bool rfl (fun hc => ?_) (fun hc => ?_)) | (refine Ops.k_calla ?_; first | (refine Ops.k_callf 73 ?_; refine Ops.callV kI (Evs.cons rfl (Evs.cons rfl Evs.nil)) rfl ?_)) | fail)
    rw [htk]
    refine Fin.ret (Ent.trans (Ent.settle (s := 8) rfl goPk rfl) (Ent.take goTk)) (Outs.sole rfl goOe) ⟨rfl, rfl⟩
  | some p =>
    obtain ⟨a, b⟩ := p
    have hidx := (idx_brk _).2 a b hb
    rw [hidx] at kI
    obtain ⟨hab, _⟩ := brk_some hb
    have hlab : s.size = a.length + 1 + b.length := by rw [str_list, hab]; simp; omega
    obtain ⟨m, hm⟩ : ∃ m, m = a.length := ⟨_, rfl⟩
    rw [← hm] at kI hlab
    have ea : s.extract 0 m = mkB a := by rw [ext_take, hab, hm, List.take_left]
    have eb : s.extract (m + 1) s.size = mkB b := by rw [ext_drop, hab, hm, show a.length + 1 = (a ++ [32]).length by simp, show a ++ 32 :: b = (a ++ [32]) ++ b by simp, List.drop_left]
    have e1 := hset (s.extract 0 m)
    have e2 : ((m : Int) + 0).toNat = m := by omega
    have e3 : ((m : Int) + ((⟨#[32]⟩ : ByteArray).size : Int)).toNat = m + 1 := by rw [h1]; omega
    have hlt := hsl2 (s.extract 0 m)
    have hbz : (s.extract (m + 1) s.size).size = b.length := by rw [eb]; rfl
    have hnx : spl3 s0 = (d ++ [s.extract 0 m]) ++ (splN (2 - (i + 1)) (s.extract (m + 1) s.size).data.toList).map mkB := by
      rw [hsp, show 2 - i = (2 - (i + 1)) + 1 by omega, splN_some hb, ea, eb, mkB_list, List.append_assoc]
      rfl
    clear hsp hfin
    repeat' (first | refine goH ?_ | (refine Ops.k_slice ?_; first | (first | (refine Ops.sliceS_h rfl rfl rfl (by omega) rfl ?_; rw [e2]) | (refine Ops.sliceS_l rfl rfl rfl (by omega) rfl ?_; rw [e3]))) | (refine Ops.k_store ?_; first | (refine Ops.store_own1 rfl rfl goPk (by first | rfl | assumption | (simp [*]; done)) (by decide) ?_; erw [e1])) | refine goV ?_ | refine goC (fun ad cap => ?_) | refine goI ?_ | (refine Cw.k_cond ?_; first | (refine Cw.cond_dec rfl (fun hc => ?_) (fun hc => ?_) <;> try (exfalso; omega)) | refine Cw.cond_bool rfl (fun hc => ?_) (fun hc => ?_)) | (refine Ops.k_calla ?_; first | (refine Ops.k_callf 73 ?_; refine Ops.callV kI (Evs.cons rfl (Evs.cons rfl Evs.nil)) rfl ?_)) | fail)
    exact ⟨_, _, _, (Ent.mk goSub goTk), ⟨i + 1, _, d ++ [s.extract 0 m], _, rfl, ⟨by omega, hdl _, by omega, hnx, rfl, hlt⟩, rfl, rfl⟩, by omega⟩
theorem split3_fn (s : ByteArray) (hs : s.size ≤ 1000000000) : PFn Tryz.prog 25 [.str s, .str ⟨#[32]⟩, .int 3] (· = .strs (spl3 s)) := by
  have k := genSplit3_fn s hs
  refine PFn.mk (Spec.body Tryz.func25 rfl rfl (Tryz.ntmps25) rfl fun w0 own0 M => ?_)
  repeat' (first | refine goH ?_ | refine goV ?_ | refine goI ?_ | (refine Cw.k_cond ?_; first | (refine Cw.cond_dec rfl (fun hc => ?_) (fun hc => ?_) <;> try (exfalso; omega)) | refine Cw.cond_bool rfl (fun hc => ?_) (fun hc => ?_)) | (refine Ops.k_calla ?_; first | (refine Ops.k_callf 44 ?_; refine Ops.callV k (Evs.cons rfl (Evs.cons rfl (Evs.cons rfl (Evs.cons rfl Evs.nil)))) rfl ?_)) | fail)
  exact Fin.ret (Ent.take goTk) (Outs.one rfl rfl) ⟨rfl, rfl⟩
end Lg
end
section
set_option linter.all false
set_option maxRecDepth 100000
set_option maxHeartbeats 8000000
namespace Lg
open Go Go.Proofs

/-! ### head and readLine -/
theorem num_bk : ∀ x ∈ numV, x ∈ bkV := by
  intro x hx
  have e : numV = [("internal/strconv.uint64pow10", powP), ("strconv.ErrSyntax", ifcP), ("strconv.ErrRange", ifcP)] := rfl
  rw [e] at hx
  unfold bkV
  simp only [List.mem_cons, List.mem_nil_iff, or_false, List.mem_append] at hx ⊢
  rcases hx with rfl | rfl | rfl <;> simp
theorem numD_bk (s : ByteArray) (hs : s.size ≤ 1000000000) : Spec Tryz.prog 46 [.str s, .int 10] [bkC] (fun r cs => r = .tup [.int (numDV 10 s.data.toList), .bool (okNum 10 s.data.toList)] ∧ cs = [bkC]) :=
  Spec.varS (post := fun r => r = .tup [.int (numDV 10 s.data.toList), .bool (okNum 10 s.data.toList)]) num_bk (numberD_fn s hs 10 (by omega))
theorem numR_bk (s : ByteArray) (hs : s.size ≤ 1000000000) : Spec Tryz.prog 26 [.str s, .int 10] [bkC] (fun r cs => r = .tup [.int (atoiV s.data.toList), .bool (okNum 10 s.data.toList)] ∧ cs = [bkC]) :=
  Spec.varS (post := fun r => r = .tup [.int (atoiV s.data.toList), .bool (okNum 10 s.data.toList)]) num_bk (numberR_fn s hs 10 (by omega))
theorem hasL_fn (s p : ByteArray) : PFn Tryz.prog 47 [.str s, .str p] (· = .bool (Lib.hasPrefix s.data.toList p.data.toList)) := by
  refine PFn.of_callsB (args := [.string s, .string p]) (fun vs w => rfl) (fun w => ?_)
  refine (Any.stringslite_HasPrefix Tryz.lays206 s p w).mono ?_
  rintro e w' ⟨rfl, rfl⟩
  exact ⟨rfl, Go.RowKit.Below.refl _ _⟩
def tpr (s p : ByteArray) : ByteArray := mkB (Lib.trimPrefix s.data.toList p.data.toList)
def hpr (s p : ByteArray) : Bool := Lib.hasPrefix s.data.toList p.data.toList
theorem hpr_le {s p : ByteArray} (h : hpr s p = true) : p.size ≤ s.size := by
  unfold hpr Lib.hasPrefix at h
  rw [List.isPrefixOf_iff_prefix] at h
  exact h.length_le
theorem tpr_no {s p : ByteArray} (h : hpr s p = false) : tpr s p = s := by
  unfold tpr Lib.trimPrefix
  unfold hpr at h
  rw [h]
  rfl
theorem tpr_yes {s p : ByteArray} (h : hpr s p = true) : tpr s p = s.extract p.size s.size := by
  rw [ext_drop]
  unfold tpr Lib.trimPrefix
  unfold hpr at h
  rw [h]
  rfl
theorem cutPL_fn (s p : ByteArray) : PFn Tryz.prog 74 [.str s, .str p] (· = .tup [.str (tpr s p), .bool (hpr s p)]) := by
  have k := hasL_fn s p
  change PFn Tryz.prog 47 [.str s, .str p] (· = .bool (hpr s p)) at k
  refine PFn.mk (Spec.body Tryz.func74 rfl rfl (Tryz.ntmps74) rfl fun w0 own0 M => ?_)
  cases h : hpr s p
  · rw [h] at k
    rw [tpr_no h]
    repeat' (first | refine goH ?_ | refine goV ?_ | refine goI ?_ | (refine Cw.k_cond ?_; first | (refine Cw.cond_dec rfl (fun hc => ?_) (fun hc => ?_) <;> try (exfalso; omega)) | refine Cw.cond_bool rfl (fun hc => ?_) (fun hc => ?_)) | (refine Ops.k_calla ?_; first | (refine Ops.k_callf 47 ?_; refine Ops.callV k (Evs.cons rfl (Evs.cons rfl Evs.nil)) rfl ?_)) | fail)
    exact Fin.ret (Ent.take goTk) (Outs.many rfl (OutL.cons goOe (OutL.cons goOe OutL.nil)) rfl) ⟨rfl, rfl⟩
  · rw [h] at k
    rw [tpr_yes h]
    have hle := hpr_le h
    have e : s.extract p.size s.size = s.extract ((p.size : Nat) : Int).toNat s.size := by rw [Int.toNat_natCast]
    rw [e]
    repeat' (first | refine goH ?_ | (refine Ops.k_slice ?_; first | (refine Ops.sliceS_l rfl rfl rfl (by omega) rfl ?_)) | refine goV ?_ | refine goI ?_ | (refine Cw.k_cond ?_; first | (refine Cw.cond_dec rfl (fun hc => ?_) (fun hc => ?_) <;> try (exfalso; omega)) | refine Cw.cond_bool rfl (fun hc => ?_) (fun hc => ?_)) | (refine Ops.k_calla ?_; first | (refine Ops.k_callf 47 ?_; refine Ops.callV k (Evs.cons rfl (Evs.cons rfl Evs.nil)) rfl ?_)) | fail)
    exact Fin.ret (Ent.take goTk) (Outs.many rfl (OutL.cons goOe (OutL.cons goOe OutL.nil)) rfl) ⟨rfl, rfl⟩
theorem cutP_fn (s p : ByteArray) : PFn Tryz.prog 45 [.str s, .str p] (· = .tup [.str (tpr s p), .bool (hpr s p)]) := by
  have k := cutPL_fn s p
  refine PFn.mk (Spec.body Tryz.func45 rfl rfl (Tryz.ntmps45) rfl fun w0 own0 M => ?_)
  repeat' (first | refine goH ?_ | refine goV ?_ | refine goI ?_ | (refine Cw.k_cond ?_; first | (refine Cw.cond_dec rfl (fun hc => ?_) (fun hc => ?_) <;> try (exfalso; omega)) | refine Cw.cond_bool rfl (fun hc => ?_) (fun hc => ?_)) | (refine Ops.k_calla ?_; first | (refine Ops.k_callf 74 ?_; refine Ops.callV k (Evs.cons rfl (Evs.cons rfl Evs.nil)) rfl ?_)) | fail)
  exact Fin.ret (Ent.take goTk) (Outs.many rfl (OutL.cons goOe (OutL.cons goOe OutL.nil)) rfl) ⟨rfl, rfl⟩
theorem trimPr_fn (s p : ByteArray) : PFn Tryz.prog 48 [.str s, .str p] (· = .str (tpr s p)) := by
  refine PFn.of_callsB (args := [.string s, .string p]) (fun vs w => rfl) (fun w => ?_)
  refine (Any.strings_TrimPrefix Tryz.lays101 s p w).mono ?_
  rintro e w' ⟨rfl, rfl⟩
  exact ⟨rfl, Go.RowKit.Below.refl _ _⟩
abbrev canP : ByteArray := ⟨#[99, 97, 110, 99, 101, 108, 32]⟩
abbrev entP : ByteArray := ⟨#[101, 110, 116, 114, 121, 32]⟩
theorem tpr_size (s p : ByteArray) : (tpr s p).size ≤ s.size := by
  cases h : hpr s p
  · rw [tpr_no h]; exact Nat.le_refl _
  · rw [tpr_yes h, ByteArray.size_extract]; omega
theorem cut_size (s : ByteArray) : (cutS 32 s).1.size ≤ s.size ∧ (cutS 32 s).2.1.size ≤ s.size := by
  cases h : brk s.data.toList with
  | none => rw [cut_none h]; exact ⟨Nat.le_refl _, Nat.zero_le _⟩
  | some p =>
    obtain ⟨a, b⟩ := p
    rw [cut_some h]
    obtain ⟨e, _⟩ := brk_some h
    have hl : s.size = a.length + 1 + b.length := by rw [str_list, e]; simp; omega
    exact ⟨by show a.length ≤ _; omega, by show b.length ≤ _; omega⟩
def hdT (s : ByteArray) : Tr := if hpr s canP = true then .tup [.agg [.int 0, .str ⟨#[]⟩, Tr.raw (.slice none 0 0)], .int (numDV 10 (tpr s canP).data.toList), .bool true, .bool (okNum 10 (tpr s canP).data.toList)]
  else .tup [.agg [.int (numDV 10 (cutS 32 (tpr s entP)).1.data.toList), .str (cutS 32 (tpr s entP)).2.1, Tr.raw (.slice none 0 0)], .int 0, .bool false, .bool (hpr s entP && (cutS 32 (tpr s entP)).2.2 && okNum 10 (cutS 32 (tpr s entP)).1.data.toList)]
theorem head_fn (s : ByteArray) (hs : s.size ≤ 1000000000) : Spec Tryz.prog 19 [.str s] [bkC] (fun r cs => r = hdT s ∧ cs = [bkC]) := by
  have k1 := cutP_fn s canP
  have k2 := cutP_fn s entP
  have z1 := tpr_size s canP
  have z2 := tpr_size s entP
  have z3 := cut_size (tpr s entP)
  have n1 := numD_bk (tpr s canP) (by omega)
  have c1 := cut1_fn (tpr s entP) (by omega) 32
  have n2 := numD_bk (cutS 32 (tpr s entP)).1 (by omega)
  unfold hdT
  refine Spec.body Tryz.func19 rfl rfl (Tryz.ntmps19) rfl fun w0 own0 M => ?_
  generalize numDV 10 (tpr s canP).data.toList = v1 at *
  generalize okNum 10 (tpr s canP).data.toList = b1 at *
  generalize numDV 10 (cutS 32 (tpr s entP)).1.data.toList = v2 at *
  generalize okNum 10 (cutS 32 (tpr s entP)).1.data.toList = b2 at *
  cases hc : hpr s canP
  rotate_left
  · rw [if_pos rfl]
    rw [hc] at k1
    repeat' (first | refine goH ?_ | refine goV ?_ | refine goB (fun b => ?_) | refine goG ?_ | (refine Ops.k_guard ?_; first | (refine Ops.guard_dec rfl rfl (fun hc => ?_) (fun hc => ?_) <;> try (exfalso; omega)) | refine Ops.guard_split rfl rfl (fun hc => ?_) (fun hc => ?_)) | refine goI ?_ | (refine Cw.k_cond ?_; first | (refine Cw.cond_dec rfl (fun hc => ?_) (fun hc => ?_) <;> try (exfalso; omega)) | refine Cw.cond_bool rfl (fun hc => ?_) (fun hc => ?_)) | (refine Ops.k_calla ?_; first | (refine Ops.k_callf 45 ?_; refine Ops.callV k1 (Evs.cons rfl (Evs.cons rfl Evs.nil)) rfl ?_) | (refine Ops.k_callf 46 ?_; refine Ops.callS n1 (Evs.cons rfl (Evs.cons rfl Evs.nil)) goPm rfl ?_)) | fail)
    refine Fin.ret (Ent.trans (Ent.setbox (s := 2) rfl goPk) (Ent.take goTk)) (Outs.many rfl (OutL.cons goOe (OutL.cons goOe (OutL.cons goOe (OutL.cons goOe OutL.nil)))) rfl) ⟨rfl, rfl⟩
  · rw [if_neg (by decide)]
    rw [hc] at k1
    generalize (cutS 32 (tpr s entP)).2.2 = b3 at *
    generalize hpr s entP = b4 at *
    cases b4 <;> cases b3 <;> cases b2
    all_goals
      repeat' (first | refine goH ?_ | refine goV ?_ | refine goB (fun b => ?_) | refine goG ?_ | (refine Ops.k_guard ?_; first | (refine Ops.guard_dec rfl rfl (fun hc => ?_) (fun hc => ?_) <;> try (exfalso; omega)) | refine Ops.guard_split rfl rfl (fun hc => ?_) (fun hc => ?_)) | refine goI ?_ | (refine Cw.k_cond ?_; first | (refine Cw.cond_dec rfl (fun hc => ?_) (fun hc => ?_) <;> try (exfalso; omega)) | refine Cw.cond_bool rfl (fun hc => ?_) (fun hc => ?_)) | (refine Ops.k_calla ?_; first | (refine Ops.k_callf 45 ?_; refine Ops.callV k1 (Evs.cons rfl (Evs.cons rfl Evs.nil)) rfl ?_) | (refine Ops.k_callf 45 ?_; refine Ops.callV k2 (Evs.cons rfl (Evs.cons rfl Evs.nil)) rfl ?_) | (refine Ops.k_callf 28 ?_; refine Ops.callV c1 (Evs.cons rfl (Evs.cons rfl Evs.nil)) rfl ?_) | (refine Ops.k_callf 46 ?_; refine Ops.callS n2 (Evs.cons rfl (Evs.cons rfl Evs.nil)) goPm rfl ?_)) | fail)
      refine Fin.ret (Ent.trans (Ent.setbox (s := 2) rfl goPk) (Ent.take goTk)) (Outs.many rfl (OutL.cons goOe (OutL.cons goOe (OutL.cons goOe (OutL.cons goOe OutL.nil)))) rfl) ⟨rfl, rfl⟩
end Lg
end
section
set_option linter.all false
set_option maxRecDepth 100000
set_option maxHeartbeats 8000000
namespace Lg
open Go Go.Proofs

/-! ### readLine; head in plain terms -/
def rlZ : Tr := .tup [.agg [.str ⟨#[]⟩, .int 0], .bool false]
def rlT (l : List UInt8) : Tr := match brk l with
  | none => rlZ
  | some (a, b) => if a ≠ [] ∧ brk b = none then .tup [.agg [.str (mkB a), .int (numDV 10 b)], .bool (okNum 10 b)] else rlZ
theorem mkB_ne {a : List UInt8} (h : a ≠ []) : ¬ mkB a = ⟨#[]⟩ := fun e => h (by
  have : (mkB a).data.toList = [] := by rw [e]
  rwa [mkB_list] at this)
theorem readLine_fn (s : ByteArray) (hs : s.size ≤ 1000000000) : Spec Tryz.prog 21 [.str s] [bkC] (fun r cs => r = rlT (tpr s ⟨#[32, 32]⟩).data.toList ∧ cs = [bkC]) := by
  have k1 := trimPr_fn s ⟨#[32, 32]⟩
  have z1 := tpr_size s ⟨#[32, 32]⟩
  generalize tpr s ⟨#[32, 32]⟩ = u at *
  have k2 := split1_fn u (by omega) 32
  obtain ⟨W, hW⟩ : ∃ W, W = splS 32 u := ⟨_, rfl⟩
  rw [← hW] at k2
  have hl := strRows_len W
  unfold rlT
  cases hb : brk u.data.toList with
  | none =>
    have hn : (strRows W).length = 1 := by rw [hl, hW, spl_none hb]; rfl
    simp only [hb]
    clear hl hW
    refine Spec.body Tryz.func21 rfl rfl (Tryz.ntmps21) rfl fun w0 own0 M => ?_
    repeat' (first | refine goH ?_ | refine goV ?_ | refine goB (fun b => ?_) | refine goG ?_ | (refine Ops.k_guard ?_; first | (refine Ops.guard_dec rfl rfl (fun hc => ?_) (fun hc => ?_) <;> try (exfalso; omega)) | refine Ops.guard_split rfl rfl (fun hc => ?_) (fun hc => ?_)) | refine goI ?_ | (refine Cw.k_cond ?_; first | (refine Cw.cond_dec rfl (fun hc => ?_) (fun hc => ?_) <;> try (exfalso; omega)) | refine Cw.cond_bool rfl (fun hc => ?_) (fun hc => ?_)) | (refine Ops.k_calla ?_; first | (refine Ops.k_callf 48 ?_; refine Ops.callV k1 (Evs.cons rfl (Evs.cons rfl Evs.nil)) rfl ?_) | (refine Ops.k_callf 17 ?_; refine Ops.callV k2 (Evs.cons rfl (Evs.cons rfl Evs.nil)) rfl ?_)) | fail)
    refine Fin.ret (Ent.trans (Ent.setbox (s := 2) rfl goPk) (Ent.take goTk)) (Outs.many rfl (OutL.cons goOe (OutL.cons goOe OutL.nil)) rfl) ⟨rfl, rfl⟩
  | some p =>
    obtain ⟨a, b⟩ := p
    simp only [hb]
    have hW2 := spl_some hb
    rw [← hW] at hW2
    cases hb2 : brk b with
    | some q =>
      obtain ⟨a2, b2⟩ := q
      have hW3 := spl_some (s := mkB b) (by rw [mkB_list]; exact hb2)
      have hn : 3 ≤ (strRows W).length := by
        rw [hl, hW2, hW3, List.length_cons, List.length_cons]
        have : 0 < (splS 32 (mkB b2)).length := by
          cases h3 : brk b2 with
          | none => rw [spl_none (s := mkB b2) (by rw [mkB_list]; exact h3)]; exact Nat.succ_pos _
          | some q => rw [spl_some (s := mkB b2) (a := q.1) (b := q.2) (by rw [mkB_list]; exact h3)]; exact Nat.succ_pos _
        omega
      rw [if_neg (fun h => by cases h.2)]
      clear hl hW hW2 hW3
      refine Spec.body Tryz.func21 rfl rfl (Tryz.ntmps21) rfl fun w0 own0 M => ?_
      repeat' (first | refine goH ?_ | refine goV ?_ | refine goB (fun b => ?_) | refine goG ?_ | (refine Ops.k_guard ?_; first | (refine Ops.guard_dec rfl rfl (fun hc => ?_) (fun hc => ?_) <;> try (exfalso; omega)) | refine Ops.guard_split rfl rfl (fun hc => ?_) (fun hc => ?_)) | refine goI ?_ | (refine Cw.k_cond ?_; first | (refine Cw.cond_dec rfl (fun hc => ?_) (fun hc => ?_) <;> try (exfalso; omega)) | refine Cw.cond_bool rfl (fun hc => ?_) (fun hc => ?_)) | (refine Ops.k_calla ?_; first | (refine Ops.k_callf 48 ?_; refine Ops.callV k1 (Evs.cons rfl (Evs.cons rfl Evs.nil)) rfl ?_) | (refine Ops.k_callf 17 ?_; refine Ops.callV k2 (Evs.cons rfl (Evs.cons rfl Evs.nil)) rfl ?_)) | fail)
      refine Fin.ret (Ent.trans (Ent.setbox (s := 2) rfl goPk) (Ent.take goTk)) (Outs.many rfl (OutL.cons goOe (OutL.cons goOe OutL.nil)) rfl) ⟨rfl, rfl⟩
    | none =>
      have hW3 : W = [mkB a, mkB b] := by rw [hW2, spl_none (s := mkB b) (by rw [mkB_list]; exact hb2)]
      have hn : (strRows W).length = 2 := by rw [hl, hW3]; rfl
      have h0 : (strRows W)[0]? = some [Tr.str (mkB a)] := by rw [hW3]; rfl
      have h1 : (strRows W)[1]? = some [Tr.str (mkB b)] := by rw [hW3]; rfl
      have hbs : b.length ≤ u.size := by
        have := (brk_some hb).1
        rw [str_list, this]
        simp
        omega
      have k3 := numD_bk (mkB b) (by show b.length ≤ _; omega)
      rw [mkB_list] at k3
      clear hl hW hW2 hW3
      by_cases ha : a = []
      · rw [if_neg (fun h => h.1 ha)]
        have he : mkB a = ⟨#[]⟩ := by rw [ha]; rfl
        refine Spec.body Tryz.func21 rfl rfl (Tryz.ntmps21) rfl fun w0 own0 M => ?_
        repeat' (first | refine goH ?_ | (refine Ops.k_b_eql ?_; first | refine Ops.eqlS_t rfl rfl he rfl ?_) | refine goV ?_ | refine goB (fun b => ?_) | refine goG ?_ | (refine Ops.k_guard ?_; first | (refine Ops.guard_dec rfl rfl (fun hc => ?_) (fun hc => ?_) <;> try (exfalso; omega)) | refine Ops.guard_split rfl rfl (fun hc => ?_) (fun hc => ?_)) | refine goI ?_ | (refine Cw.k_cond ?_; first | (refine Cw.cond_dec rfl (fun hc => ?_) (fun hc => ?_) <;> try (exfalso; omega)) | refine Cw.cond_bool rfl (fun hc => ?_) (fun hc => ?_)) | (refine Ops.k_calla ?_; first | (refine Ops.k_callf 48 ?_; refine Ops.callV k1 (Evs.cons rfl (Evs.cons rfl Evs.nil)) rfl ?_) | (refine Ops.k_callf 17 ?_; refine Ops.callV k2 (Evs.cons rfl (Evs.cons rfl Evs.nil)) rfl ?_)) | fail)
        refine Fin.ret (Ent.trans (Ent.setbox (s := 2) rfl goPk) (Ent.take goTk)) (Outs.many rfl (OutL.cons goOe (OutL.cons goOe OutL.nil)) rfl) ⟨rfl, rfl⟩
      · rw [if_pos ⟨ha, rfl⟩]
        have he := mkB_ne ha
        generalize numDV 10 b = v1 at *
        generalize okNum 10 b = b1 at *
        refine Spec.body Tryz.func21 rfl rfl (Tryz.ntmps21) rfl fun w0 own0 M => ?_
        repeat' (first | refine goH ?_ | (refine Ops.k_b_eql ?_; first | refine Ops.eqlS_f rfl rfl he rfl ?_) | refine goV ?_ | refine goB (fun b => ?_) | refine goG ?_ | (refine Ops.k_guard ?_; first | (refine Ops.guard_dec rfl rfl (fun hc => ?_) (fun hc => ?_) <;> try (exfalso; omega)) | refine Ops.guard_split rfl rfl (fun hc => ?_) (fun hc => ?_)) | refine goI ?_ | (refine Cw.k_cond ?_; first | (refine Cw.cond_dec rfl (fun hc => ?_) (fun hc => ?_) <;> try (exfalso; omega)) | refine Cw.cond_bool rfl (fun hc => ?_) (fun hc => ?_)) | (refine Ops.k_calla ?_; first | (refine Ops.k_callf 48 ?_; refine Ops.callV k1 (Evs.cons rfl (Evs.cons rfl Evs.nil)) rfl ?_) | (refine Ops.k_callf 17 ?_; refine Ops.callV k2 (Evs.cons rfl (Evs.cons rfl Evs.nil)) rfl ?_) | (refine Ops.k_callf 46 ?_; refine Ops.callS k3 (Evs.cons rfl (Evs.cons rfl Evs.nil)) goPm rfl ?_)) | fail)
        refine Fin.ret (Ent.trans (Ent.setbox (s := 2) rfl goPk) (Ent.take goTk)) (Outs.many rfl (OutL.cons goOe (OutL.cons goOe OutL.nil)) rfl) ⟨rfl, rfl⟩
end Lg
end
