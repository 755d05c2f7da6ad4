/- A part of the proof of a law of this seat: it adds no condition. By an AI agent. -/
import Derived.Shelf.Strings.Search3
import Derived.Shelf.Strings.Count
import Derived.Test.YthgcdnfhfejijaaGreatDoorLgBld
import Derived.Test.YthgcdnfhfejijaaGreatDoorLgMap3
import Derived.Test.YthgcdnfhfejijaaGreatDoorTc4
section
set_option linter.all false
set_option maxRecDepth 100000
set_option maxHeartbeats 4000000
namespace Lg
open Go Go.Proofs

/-! ### strings.Builder -/
abbrev bldB (b : Nat) (p ad : Option Addr) (cap : Nat) (t : ByteArray) : Chunk := Chunk.box b 164 [.raw (.pointer p), .raw (.slice ad t.size cap)]
abbrev bldO (ad : Option Addr) (cap : Nat) (t : ByteArray) : Chunk := Chunk.own ad cap 1 5 (bytR t)
structure BldI (b : Nat) (p ad : Option Addr) (cap : Nat) (t : ByteArray) : Prop where
 p : p = none ∨ p = some ⟨b, 0, none⟩
 n : ad ≠ none → t.size ≠ 0
theorem BldI.new (b : Nat) : BldI b none none 0 ⟨#[]⟩ := ⟨.inl rfl, fun h => absurd rfl h⟩
theorem str_emptyB (s : ByteArray) : s.size = 0 ↔ s = ⟨#[]⟩ := by
 constructor
 ·intro h
  apply ByteArray.ext
  apply Array.eq_empty_of_size_eq_zero
  simpa using h
 ·rintro rfl; rfl
theorem noEscape_ext (v : Value) (w : World) : (callFunc 150 #[v]).run Tryz.prog w = .ok (.value v) w := rfl
theorem builder_info : ∃ j, Tryz.prog.info? 164 = some j ∧ j.size ≠ 0 := ⟨_, rfl, by decide⟩
theorem builder_info2 : ∃ j, Tryz.prog.info? 164 = some j := ⟨_, rfl⟩
theorem copyCheck_fn {b : Nat} {p ad : Option Addr} {cap : Nat} {t : ByteArray} (h : BldI b p ad cap t) : Spec Tryz.prog 118 [.ptr b] [bldB b p ad cap t] (fun r cs => r = .tup [] ∧ cs = [bldB b (some ⟨b, 0, none⟩) ad cap t]) := by
 obtain ⟨hp, _⟩ := h
 refine Spec.body Tryz.func118 rfl rfl (Tryz.ntmps118) rfl fun w0 own0 M => ?_
 rcases hp with rfl | rfl
 ·repeat' (first | refine goH ?_ | (refine Ops.k_b_eql ?_; first | (refine Ops.val' rfl (OpV.eql_pn (b := true) rfl rfl builder_info rfl rfl) ?_)) | (refine Ops.k_convert ?_; first | (first | refine Ops.val' rfl (OpV.toUns (E := 164) rfl rfl builder_info rfl goPk (by simp)) ?_ | refine Ops.val' rfl (OpV.frUns (E := 164) (n := 2) rfl rfl builder_info2 rfl goPk (by decide +kernel) rfl) ?_)) | (refine Ops.k_b_neq ?_; first | (refine Ops.val' rfl (OpV.neq_pp rfl builder_info rfl rfl) ?_)) | refine goV ?_ | refine goI ?_ | (refine Cw.k_cond ?_; first | (refine Cw.cond_dec rfl ?_ ?_ <;> intro hc <;> try omega) | refine Cw.cond_bool rfl ?_ ?_ <;> intro hc) | (refine Ops.ext1 (noEscape_ext _) rfl rfl ?_) | fail)
  all_goals exact Fin.norm (Ent.take goTk) (Outs.zero rfl) ⟨rfl, rfl⟩
 ·repeat' (first | refine goH ?_ | (refine Ops.k_b_eql ?_; first | (refine Ops.val' rfl (OpV.eql_pn (b := false) rfl rfl builder_info rfl rfl) ?_)) | (refine Ops.k_b_neq ?_; first | (refine Ops.val' rfl (OpV.neq_pp rfl builder_info rfl rfl) ?_)) | refine goV ?_ | refine goI ?_ | (refine Cw.k_cond ?_; first | (refine Cw.cond_dec rfl ?_ ?_ <;> intro hc <;> try omega) | refine Cw.cond_bool rfl ?_ ?_ <;> intro hc) | fail)
  all_goals exact Fin.norm (Ent.take goTk) (Outs.zero rfl) ⟨rfl, rfl⟩
theorem writeString_fn {b : Nat} {p ad : Option Addr} {cap : Nat} {t : ByteArray} (h : BldI b p ad cap t) (s : ByteArray) (hs : t.size + s.size ≤ 1000000000) : Spec Tryz.prog 81 [.ptr b, .str s] [bldB b p ad cap t, bldO ad cap t] (fun r cs => ∃ p2 ad2 cap2, BldI b p2 ad2 cap2 (t ++ s) ∧ r = .tup [.int s.size, .raw .nilIface] ∧ cs = [bldB b p2 ad2 cap2 (t ++ s), bldO ad2 cap2 (t ++ s)]) := by
 have k := copyCheck_fn h
 obtain ⟨_, hn⟩ := h
 have hsz : (t ++ s).size = t.size + s.size := ByteArray.size_append
 refine Spec.body Tryz.func81 rfl rfl (Tryz.ntmps81) rfl fun w0 own0 M => ?_
 by_cases had : ad = none
 ·subst had
  refine Cw.own_none goPk ?_
  intro hr hc0
  have ht : t.size = 0 := by rw [← bytR_len, hr]; rfl
  clear hr
  repeat' (first | refine goH ?_ | refine goV ?_ | refine goC (fun ad cap => ?_) | refine goI ?_ | (refine Cw.k_cond ?_; first | (refine Cw.cond_dec rfl ?_ ?_ <;> intro hc <;> try omega) | refine Cw.cond_bool rfl ?_ ?_ <;> intro hc) | (refine Ops.append_str (E := 5) rfl rfl rfl rfl goPk rfl (by omega) rfl ?_; intro ad2 cap2 hnil) | (refine Ops.k_calla ?_; first | (refine Ops.k_callf 118 ?_; (refine Ops.call k (Evs.cons rfl Evs.nil) goPm rfl ?_; rintro r cs' ⟨rfl, rfl⟩))) | fail)
  refine Fin.ret (Ent.take goTk) (Outs.two rfl rfl rfl) ⟨_, ad2, cap2, ⟨.inr rfl, fun h => ?_⟩, rfl, rfl⟩
  have := hnil rfl
  by_cases h0 : t.size + s.size = 0
  ·exact absurd (this h0).1 h
  ·omega
 ·have := hn had
  repeat' (first | refine goH ?_ | refine goV ?_ | refine goC (fun ad cap => ?_) | refine goI ?_ | (refine Cw.k_cond ?_; first | (refine Cw.cond_dec rfl ?_ ?_ <;> intro hc <;> try omega) | refine Cw.cond_bool rfl ?_ ?_ <;> intro hc) | (refine Ops.append_str (E := 5) rfl rfl rfl rfl goPk rfl (by omega) rfl ?_; intro ad2 cap2 hnil) | (refine Ops.k_calla ?_; first | (refine Ops.k_callf 118 ?_; (refine Ops.call k (Evs.cons rfl Evs.nil) goPm rfl ?_; rintro r cs' ⟨rfl, rfl⟩))) | fail)
  exact Fin.ret (Ent.take goTk) (Outs.two rfl rfl rfl) ⟨_, ad2, cap2, ⟨.inr rfl, fun h => by omega⟩, rfl, rfl⟩
theorem string_fn {b : Nat} {p ad : Option Addr} {cap : Nat} {t : ByteArray} (h : BldI b p ad cap t) (ht : t.size ≤ 1000000000) : Spec Tryz.prog 82 [.ptr b] [bldB b p ad cap t, bldO ad cap t] (fun r cs => r = .str t ∧ cs = []) := by
 obtain ⟨_, hn⟩ := h
 refine Spec.body Tryz.func82 rfl rfl (Tryz.ntmps82) rfl fun w0 own0 M => ?_
 by_cases had : ad = none
 ·subst had
  refine Cw.own_none goPk ?_
  intro hr hc0
  have ht : t = ⟨#[]⟩ := (str_emptyB t).1 (by rw [← bytR_len, hr]; rfl)
  subst ht
  repeat' (first | refine goH ?_ | refine goV ?_ | refine goI ?_ | (refine Cw.k_cond ?_; first | (refine Cw.cond_dec rfl ?_ ?_ <;> intro hc <;> try omega) | refine Cw.cond_bool rfl ?_ ?_ <;> intro hc) | fail)
  refine Cw.region_seqM 10 rfl (by decide +kernel) rfl ?_
  repeat' (first | refine goH ?_ | refine goV ?_ | refine goI ?_ | (refine Cw.k_cond ?_; first | (refine Cw.cond_dec rfl ?_ ?_ <;> intro hc <;> try omega) | refine Cw.cond_bool rfl ?_ ?_ <;> intro hc) | exact OpV.w (OpV.sdata_none rfl) | (refine Ops.ustr_none rfl rfl rfl ?_) | refine goR ?_ | refine goP ?_ | apply PSeq.cons | apply PSeq.yes rfl rfl rfl | exact goW | fail)
  exact Fin.ret (Ent.take goTk) (Outs.one rfl rfl) ⟨rfl, rfl⟩
 ·have h0 := hn had
  refine Cw.own_form goPk (by rw [bytR_len]; omega) ?_
  rintro g rfl h1 h2
  rw [bytR_len] at h1
  repeat' (first | refine goH ?_ | refine goV ?_ | refine goI ?_ | (refine Cw.k_cond ?_; first | (refine Cw.cond_dec rfl ?_ ?_ <;> intro hc <;> try omega) | refine Cw.cond_bool rfl ?_ ?_ <;> intro hc) | fail)
  refine Cw.region_seqM 10 rfl (by decide +kernel) rfl ?_
  repeat' (first | refine goH ?_ | refine goV ?_ | refine goI ?_ | (refine Cw.k_cond ?_; first | (refine Cw.cond_dec rfl ?_ ?_ <;> intro hc <;> try omega) | refine Cw.cond_bool rfl ?_ ?_ <;> intro hc) | exact OpV.w (OpV.sdata_some rfl (by omega)) | (refine Ops.ustr (s := t) rfl rfl rfl rfl rfl h0 goPk rfl ?_) | refine goR ?_ | refine goP ?_ | apply PSeq.cons | apply PSeq.yes rfl rfl rfl | exact goW | fail)
  exact Fin.ret (Ent.take goTk) (Outs.one rfl rfl) ⟨rfl, rfl⟩
end Lg
end
section
set_option linter.all false
set_option maxRecDepth 100000
set_option maxHeartbeats 4000000
namespace Lg
open Go Go.Proofs

/-! ### strings.Index, Count, Split and Cut at a separator of one byte -/
theorem index1_fn (s : ByteArray) (c : UInt8) : PFn Tryz.prog 132 [.str s, .str ⟨#[c]⟩] (· = .int (Lib.indexByte s.data.toList c)) := by
 refine PFn.of_calls (args := [.string s, .string ⟨#[c]⟩]) (fun vs w => rfl) (fun w => ?_)
 refine (Any.strings_Index_one Tryz.lays143 s c w).mono ?_
 rintro e w' ⟨rfl, rfl⟩
 exact ⟨rfl, Go.RowKit.Below.refl _ _, fun _ => Nat.le_refl _⟩
theorem count1_fn (s : ByteArray) (c : UInt8) : PFn Tryz.prog 162 [.str s, .str ⟨#[c]⟩] (· = .int ((Lib.countByte s.data.toList c : Nat) : Int)) := by
 refine PFn.of_calls (args := [.string s, .string ⟨#[c]⟩]) (fun vs w => rfl) (fun w => ?_)
 refine (Any.strings_Count_one Tryz.lays138 s c w).mono ?_
 rintro e w' ⟨rfl, rfl⟩
 exact ⟨rfl, Go.RowKit.Below.refl _ _, fun _ => Nat.le_refl _⟩
theorem one_ne (c : UInt8) : ¬ (⟨#[c]⟩ : ByteArray) = ⟨#[]⟩ := by
 intro h
 have := congrArg ByteArray.size h
 cases this
theorem idx_lt {s : ByteArray} {c : UInt8} {m : Nat} (h : Lib.indexByte s.data.toList c = (m : Int)) : m < s.size := (splS_some h).2
theorem splR_set (d : List ByteArray) (n : Nat) (z : List Tr) (x : ByteArray) : (strRows d ++ List.replicate (n + 1) z).set d.length [Tr.str x] = strRows (d ++ [x]) ++ List.replicate n z := by
 rw [List.set_append_right _ _ (by rw [strRows_len]; exact Nat.le_refl _), strRows_len, Nat.sub_self, List.replicate_succ, List.set_cons_zero, strRows_app, List.append_assoc]
 rfl
theorem splR_at (d : List ByteArray) (n : Nat) (z : List Tr) : (strRows d ++ List.replicate (n + 1) z)[d.length]? = some z := by
 rw [List.getElem?_append_right (by rw [strRows_len]; exact Nat.le_refl _), strRows_len, Nat.sub_self, List.replicate_succ]
 rfl
theorem splR_len (d : List ByteArray) (n : Nat) (z : List Tr) : (strRows d ++ List.replicate n z).length = d.length + n := by
 rw [List.length_append, strRows_len, List.length_replicate]
theorem genSplit1_fn (s0 : ByteArray) (hs : s0.size ≤ 1000000000) (c : UInt8) : PFn Tryz.prog 134 [.str s0, .str ⟨#[c]⟩, .int 0, .int (-1)] (· = .strs (splS c s0)) := by
 have kC := count1_fn s0 c
 have hle := countByte_le s0.data.toList c
 have hsl := str_list s0
 have hlen := splS_len c s0
 generalize Lib.countByte s0.data.toList c = N at *
 have hmin : min ((N : Int) + 1) ((s0.size : Int) + 1) = ((N + 1 : Nat) : Int) := by omega
 have hsub : ((N + 1 : Nat) : Int) - 1 = (N : Int) := by omega
 have hne := one_ne c
 have h1 : ByteArray.size ⟨#[c]⟩ = 1 := rfl
 refine PFn.mk (Spec.body Tryz.func134 rfl rfl (Tryz.ntmps134) rfl fun w0 own0 M => ?_)
 repeat' (first | refine goH ?_ | (refine Ops.k_c_min ?_; first | (refine Ops.min2 rfl rfl rfl ?_; rw [hmin])) | (refine Ops.k_makeSlice ?_; first | (refine Ops.makeSlice rfl rfl (by omega) (by omega) (by omega) rfl (fun ad cap => ?_); rw [Int.toNat_natCast, show List.map Tr.raw [Value.string ByteArray.empty] = [Tr.str ⟨#[]⟩] from rfl])) | (refine Ops.k_b_sub ?_; first | (refine Ops.sub rfl rfl (by omega) rfl ?_; rw [hsub])) | refine goV ?_ | refine goC (fun ad cap => ?_) | refine goI ?_ | (refine Cw.k_cond ?_; first | (refine Cw.cond_dec rfl ?_ ?_ <;> intro hc <;> try omega) | refine Cw.cond_bool rfl ?_ ?_ <;> intro hc) | (refine Ops.k_calla ?_; first | (refine Ops.k_callf 162 ?_; refine Ops.callV kC (Evs.cons rfl (Evs.cons rfl Evs.nil)) rfl ?_)) | fail)
 refine Cw.loopI [(1, _), (2, _), (3, _), (9, _)] _ (fun q e cc => ∃ (i : Nat) (s : ByteArray) (d : List ByteArray) (rows : List (List Tr)), q = N - i ∧ (i ≤ N ∧ d.length = i ∧ s.size ≤ s0.size ∧ splS c s0 = d ++ splS c s ∧ rows = strRows d ++ List.replicate (N + 1 - i) [Tr.str ⟨#[]⟩] ∧ rows.length = N + 1) ∧ e = [(0, .str s), (10, .int i)] ∧ cc = [Chunk.own ad cap 1 9 rows])
  ⟨_, _, _, (Ent.mkP goSub goPm), 0, s0, [], _, rfl, ⟨by omega, rfl, by omega, rfl, by simp [strRows], by simp⟩, rfl, rfl⟩ ?_
 clear kC
 rintro _ _ _ ⟨i, s, d, rows, rfl, ⟨hi, hd, hss, hsp, hrows, hrl⟩, rfl, rfl⟩
 have hln2 := splS_len c s
 have hl3 : N + 1 = d.length + (splS c s).length := by rw [← hlen, hsp, List.length_append]
 have hat : rows[(i : Int).toNat]? = some [Tr.str ⟨#[]⟩] := by
  rw [hrows, Int.toNat_natCast, ← hd, show N + 1 - d.length = (N - d.length) + 1 by omega]
  exact splR_at _ _ _
 have hset : ∀ x : ByteArray, rows.set (i : Int).toNat [Tr.str x] = strRows (d ++ [x]) ++ List.replicate (N + 1 - (i + 1)) [Tr.str ⟨#[]⟩] := fun x => by
  rw [hrows, Int.toNat_natCast, ← hd, show N + 1 - d.length = (N - d.length) + 1 by omega, show N + 1 - (d.length + 1) = N - d.length by omega]
  exact splR_set _ _ _ _
 have hsl2 : ∀ x : ByteArray, (strRows (d ++ [x]) ++ List.replicate (N + 1 - (i + 1)) [Tr.str ⟨#[]⟩]).length = N + 1 := fun x => by rw [splR_len, List.length_append]; simp; omega
 have hdl : ∀ x : ByteArray, (d ++ [x]).length = i + 1 := fun x => by rw [List.length_append, hd]; rfl
 have kI := index1_fn s c
 clear hrows hlen
 rcases idx_cases s.data.toList c with h | ⟨m, h⟩
 ·have h2 := splS_none h
  rw [h2] at hsp hl3
  simp only [List.length_cons, List.length_nil] at hl3
  have hiN : i = N := by omega
  subst hiN
  have e1 := hset s
  rw [show i + 1 - (i + 1) = 0 by omega, List.replicate_zero, List.append_nil, ← hsp] at e1
  have hle : (strRows (splS c s0)).length = i + 1 := by rw [hsp, strRows_len]; exact hdl s
  generalize hZ : strRows (splS c s0) = Z at *
  clear hset hsl2 hdl
  repeat' (first | refine goH ?_ | (refine Ops.k_store ?_; first | (refine Ops.store_own1 rfl rfl goPk (by first | rfl | assumption | (simp [*]; done)) (by decide) ?_; erw [e1])) | refine goV ?_ | refine goC (fun ad cap => ?_) | refine goI ?_ | (refine Cw.k_cond ?_; first | (refine Cw.cond_dec rfl ?_ ?_ <;> intro hc <;> try omega) | refine Cw.cond_bool rfl ?_ ?_ <;> intro hc) | fail)
  rw [show List.take ((i : Int) + 1).toNat Z = Z from List.take_of_length_le (by omega)]
  refine Fin.ret (Ent.trans (Ent.settle (s := 8) rfl goPk rfl) (Ent.take goTk)) (Outs.sole rfl goOe) ⟨rfl, congrArg (Tr.sl 1) hZ.symm⟩
 ·have h2 := (splS_some h).1
  have hm := idx_lt h
  rw [h] at kI
  rw [h2, List.length_cons] at hl3
  have hne2 := splS_len c (s.extract (m + 1) s.size)
  have e1 := hset (s.extract 0 m)
  have e2 : ((m : Int) + 0).toNat = m := by omega
  have e3 : ((m : Int) + ((⟨#[c]⟩ : ByteArray).size : Int)).toNat = m + 1 := by rw [h1]; omega
  have hz : (s.extract (m + 1) s.size).size ≤ s0.size := by rw [ByteArray.size_extract]; omega
  have hlt := hsl2 (s.extract 0 m)
  repeat' (first | refine goH ?_ | (refine Ops.k_slice ?_; first | (first | (refine Ops.sliceS_h rfl rfl rfl (by omega) rfl ?_; rw [e2]) | (refine Ops.sliceS_l rfl rfl rfl (by omega) rfl ?_; rw [e3]))) | (refine Ops.k_store ?_; first | (refine Ops.store_own1 rfl rfl goPk (by first | rfl | assumption | (simp [*]; done)) (by decide) ?_; erw [e1])) | refine goV ?_ | refine goC (fun ad cap => ?_) | refine goI ?_ | (refine Cw.k_cond ?_; first | (refine Cw.cond_dec rfl ?_ ?_ <;> intro hc <;> try omega) | refine Cw.cond_bool rfl ?_ ?_ <;> intro hc) | (refine Ops.k_calla ?_; first | (refine Ops.k_callf 132 ?_; refine Ops.callV kI (Evs.cons rfl (Evs.cons rfl Evs.nil)) rfl ?_)) | fail)
  exact ⟨_, _, _, (Ent.mk goSub goTk), ⟨i + 1, _, d ++ [s.extract 0 m], _, rfl, ⟨by omega, hdl _, hz, by rw [hsp, h2, List.append_assoc]; rfl, rfl, hlt⟩, rfl, rfl⟩, by omega⟩
theorem split1_fn (s : ByteArray) (hs : s.size ≤ 1000000000) (c : UInt8) : PFn Tryz.prog 111 [.str s, .str ⟨#[c]⟩] (· = .strs (splS c s)) := by
 have k := genSplit1_fn s hs c
 refine PFn.mk (Spec.body Tryz.func111 rfl rfl (Tryz.ntmps111) rfl fun w0 own0 M => ?_)
 repeat' (first | refine goH ?_ | refine goV ?_ | refine goI ?_ | (refine Cw.k_cond ?_; first | (refine Cw.cond_dec rfl ?_ ?_ <;> intro hc <;> try omega) | refine Cw.cond_bool rfl ?_ ?_ <;> intro hc) | (refine Ops.k_calla ?_; first | (refine Ops.k_callf 134 ?_; refine Ops.callV k (Evs.cons rfl (Evs.cons rfl (Evs.cons rfl (Evs.cons rfl Evs.nil)))) rfl ?_)) | fail)
 exact Fin.ret (Ent.take goTk) (Outs.one rfl rfl) ⟨rfl, rfl⟩
end Lg
end
section
set_option linter.all false
set_option maxRecDepth 100000
set_option maxHeartbeats 8000000
namespace Lg
open Go Go.Proofs

/-! ### the console's answer to a line that is no command -/
instance : KeyTy Tryz.prog 9 Value.string := KeyTy.str Tryz.underlying9
instance : TyMap Tryz.prog 203 9 9 (.string ⟨#[]⟩) := ⟨Tryz.underlying203, ⟨_, rfl, rfl⟩⟩
theorem indexNo_fn (xs : List ByteArray) (hx : xs.length ≤ 1000000) (v : ByteArray) (hv : ∀ x ∈ xs, ¬ v = x) : PFn Tryz.prog 135 [.strs xs, .str v] (· = .int (-1)) := by
 refine PFn.mk (Spec.body Tryz.func135 rfl rfl (Tryz.ntmps135) rfl fun w0 own0 M => ?_)
 have hL := strRows_len xs
 repeat' (first | refine goH ?_ | refine goV ?_ | refine goI ?_ | (refine Cw.k_cond ?_; first | (refine Cw.cond_dec rfl ?_ ?_ <;> intro hc <;> try omega) | refine Cw.cond_bool rfl ?_ ?_ <;> intro hc) | fail)
 refine Cw.loopI [(0, _), (1, _), (7, _)] _ (fun n e c => ∃ k : Nat, n = xs.length - k ∧ k ≤ xs.length ∧ e = [(8, .int k)] ∧ c = []) ⟨_, _, _, (Ent.mkP goSub goPm), 0, rfl, by omega, rfl, rfl⟩ ?_
 rintro _ _ _ ⟨k, rfl, hk, rfl, rfl⟩
 by_cases hkl : k < xs.length
 ·obtain ⟨x, hx⟩ := at_lt hkl
  have hrow := strRows_at hx
  have hp := hv x (List.mem_of_getElem? hx)
  repeat' (first | refine goH ?_ | refine goV ?_ | refine goI ?_ | (refine Cw.k_cond ?_; first | (refine Cw.cond_dec rfl ?_ ?_ <;> intro hc <;> try omega) | refine Cw.cond_bool rfl ?_ ?_ <;> intro hc) | fail)
  exact ⟨_, _, _, (Ent.mk goSub goTk), ⟨k + 1, rfl, by omega, rfl, rfl⟩, by omega⟩
 ·repeat' (first | refine goH ?_ | refine goV ?_ | refine goI ?_ | (refine Cw.k_cond ?_; first | (refine Cw.cond_dec rfl ?_ ?_ <;> intro hc <;> try omega) | refine Cw.cond_bool rfl ?_ ?_ <;> intro hc) | fail)
  exact Fin.ret Ent.refl (Outs.one rfl rfl) ⟨rfl, rfl⟩
theorem containsNo_fn (xs : List ByteArray) (hx : xs.length ≤ 1000000) (v : ByteArray) (hv : ∀ x ∈ xs, ¬ v = x) : PFn Tryz.prog 112 [.strs xs, .str v] (· = .bool false) := by
 have k := indexNo_fn xs hx v hv
 refine PFn.mk (Spec.body Tryz.func112 rfl rfl (Tryz.ntmps112) rfl fun w0 own0 M => ?_)
 repeat' (first | refine goH ?_ | refine goV ?_ | refine goI ?_ | (refine Cw.k_cond ?_; first | (refine Cw.cond_dec rfl ?_ ?_ <;> intro hc <;> try omega) | refine Cw.cond_bool rfl ?_ ?_ <;> intro hc) | (refine Ops.k_calla ?_; first | (refine Ops.k_callf 135 ?_; refine Ops.callV k (Evs.cons rfl (Evs.cons rfl Evs.nil)) rfl ?_)) | fail)
 exact Fin.ret Ent.refl (Outs.one rfl rfl) ⟨rfl, rfl⟩
theorem hasSuf_fn (A B : ByteArray) (hA : A.size ≤ 1000000) (hB : B.size ≤ A.size) (hu : A.extract ((A.size : Int) - B.size).toNat A.size = B) : PFn Tryz.prog 133 [.str A, .str B] (· = .bool true) := by
 refine PFn.mk (Spec.body Tryz.func133 rfl rfl (Tryz.ntmps133) rfl fun w0 own0 M => ?_)
 repeat' (first | refine goH ?_ | (refine Ops.k_slice ?_; first | (refine Ops.sliceS_l rfl rfl rfl (by omega) rfl ?_; rw [hu])) | (refine Ops.k_b_eql ?_; first | (refine Ops.val' rfl (OpV.eqlS_t rfl rfl rfl) ?_)) | refine goV ?_ | refine goG ?_ | (refine Ops.k_guard ?_; first | (refine Ops.guard_dec rfl rfl ?_ ?_ <;> intro hc <;> try omega) | refine Ops.guard_split rfl rfl ?_ ?_ <;> intro hc) | refine goI ?_ | (refine Cw.k_cond ?_; first | (refine Cw.cond_dec rfl ?_ ?_ <;> intro hc <;> try omega) | refine Cw.cond_bool rfl ?_ ?_ <;> intro hc) | fail)
 exact Fin.ret Ent.refl (Outs.one rfl rfl) ⟨rfl, rfl⟩
theorem trimSufL_fn (A B D : ByteArray) (hA : A.size ≤ 1000000) (hB : B.size ≤ A.size) (hu : A.extract ((A.size : Int) - B.size).toNat A.size = B) (hd : A.extract 0 ((A.size : Int) - B.size).toNat = D) : PFn Tryz.prog 110 [.str A, .str B] (· = .str D) := by
 have k := hasSuf_fn A B hA hB hu
 refine PFn.mk (Spec.body Tryz.func110 rfl rfl (Tryz.ntmps110) rfl fun w0 own0 M => ?_)
 repeat' (first | refine goH ?_ | (refine Ops.k_slice ?_; first | (refine Ops.sliceS_h rfl rfl rfl (by omega) rfl ?_; rw [hd])) | refine goV ?_ | refine goI ?_ | (refine Cw.k_cond ?_; first | (refine Cw.cond_dec rfl ?_ ?_ <;> intro hc <;> try omega) | refine Cw.cond_bool rfl ?_ ?_ <;> intro hc) | (refine Ops.k_calla ?_; first | (refine Ops.k_callf 133 ?_; refine Ops.callV k (Evs.cons rfl (Evs.cons rfl Evs.nil)) rfl ?_)) | fail)
 exact Fin.ret Ent.refl (Outs.one rfl rfl) ⟨rfl, rfl⟩
theorem trimSuf_fn (A B D : ByteArray) (hA : A.size ≤ 1000000) (hB : B.size ≤ A.size) (hu : A.extract ((A.size : Int) - B.size).toNat A.size = B) (hd : A.extract 0 ((A.size : Int) - B.size).toNat = D) : PFn Tryz.prog 79 [.str A, .str B] (· = .str D) := by
 have k := trimSufL_fn A B D hA hB hu hd
 refine PFn.mk (Spec.body Tryz.func79 rfl rfl (Tryz.ntmps79) rfl fun w0 own0 M => ?_)
 repeat' (first | refine goH ?_ | refine goV ?_ | refine goI ?_ | (refine Cw.k_cond ?_; first | (refine Cw.cond_dec rfl ?_ ?_ <;> intro hc <;> try omega) | refine Cw.cond_bool rfl ?_ ?_ <;> intro hc) | (refine Ops.k_calla ?_; first | (refine Ops.k_callf 110 ?_; refine Ops.callV k (Evs.cons rfl (Evs.cons rfl Evs.nil)) rfl ?_)) | fail)
 exact Fin.ret Ent.refl (Outs.one rfl rfl) ⟨rfl, rfl⟩
theorem itoa9_fn : PFn Tryz.prog 77 [.int 9] (· = .str ⟨#[57]⟩) := by
 have k1 : PFn Tryz.prog 155 [.int 9] (· = .str ⟨#[57]⟩) := by
  refine PFn.mk (Spec.body Tryz.func155 rfl rfl (Tryz.ntmps155) rfl fun w0 own0 M => ?_)
  repeat' (first | refine goH ?_ | (refine Ops.k_slice ?_; first | (refine Ops.sliceS_lh rfl rfl rfl rfl (by decide) rfl ?_)) | refine goV ?_ | refine goI ?_ | (refine Cw.k_cond ?_; first | (refine Cw.cond_dec rfl ?_ ?_ <;> intro hc <;> try omega) | refine Cw.cond_bool rfl ?_ ?_ <;> intro hc) | fail)
  exact Fin.ret Ent.refl (Outs.one rfl rfl) ⟨rfl, congrArg Tr.str (by decide +kernel)⟩
 have k2 : PFn Tryz.prog 129 [.int 9, .int 10] (· = .str ⟨#[57]⟩) := by
  refine PFn.mk (Spec.body Tryz.func129 rfl rfl (Tryz.ntmps129) rfl fun w0 own0 M => ?_)
  repeat' (first | refine goH ?_ | refine goV ?_ | refine goB (fun b => ?_) | refine goG ?_ | (refine Ops.k_guard ?_; first | (refine Ops.guard_dec rfl rfl ?_ ?_ <;> intro hc <;> try omega) | refine Ops.guard_split rfl rfl ?_ ?_ <;> intro hc) | refine goI ?_ | (refine Cw.k_cond ?_; first | (refine Cw.cond_dec rfl ?_ ?_ <;> intro hc <;> try omega) | refine Cw.cond_bool rfl ?_ ?_ <;> intro hc) | (refine Ops.k_calla ?_; first | (refine Ops.k_callf 155 ?_; refine Ops.callV k1 (Evs.cons rfl Evs.nil) rfl ?_)) | fail)
  exact Fin.ret Ent.refl (Outs.one rfl rfl) ⟨rfl, rfl⟩
 have k3 : PFn Tryz.prog 108 [.int 9] (· = .str ⟨#[57]⟩) := by
  refine PFn.mk (Spec.body Tryz.func108 rfl rfl (Tryz.ntmps108) rfl fun w0 own0 M => ?_)
  repeat' (first | refine goH ?_ | refine goV ?_ | refine goI ?_ | (refine Cw.k_cond ?_; first | (refine Cw.cond_dec rfl ?_ ?_ <;> intro hc <;> try omega) | refine Cw.cond_bool rfl ?_ ?_ <;> intro hc) | (refine Ops.k_calla ?_; first | (refine Ops.k_callf 129 ?_; refine Ops.callV k2 (Evs.cons rfl (Evs.cons rfl Evs.nil)) rfl ?_)) | fail)
  exact Fin.ret Ent.refl (Outs.one rfl rfl) ⟨rfl, rfl⟩
 refine PFn.mk (Spec.body Tryz.func77 rfl rfl (Tryz.ntmps77) rfl fun w0 own0 M => ?_)
 repeat' (first | refine goH ?_ | refine goV ?_ | refine goI ?_ | (refine Cw.k_cond ?_; first | (refine Cw.cond_dec rfl ?_ ?_ <;> intro hc <;> try omega) | refine Cw.cond_bool rfl ?_ ?_ <;> intro hc) | (refine Ops.k_calla ?_; first | (refine Ops.k_callf 108 ?_; refine Ops.callV k3 (Evs.cons rfl Evs.nil) rfl ?_)) | fail)
 exact Fin.ret Ent.refl (Outs.one rfl rfl) ⟨rfl, rfl⟩
theorem run_hello (c : Nat) (H : ByteArray) (hH : H = ⟨#[104, 101, 108, 108, 111]⟩) : PFn Tryz.prog 80 [.ptr c, .str H] (· = .tup [.str ⟨#[]⟩, .int 9]) := by
 have hsz : H.size ≤ 1000000000 := by rw [hH]; decide
 have k1 := split1_fn H hsz 32
 have hsp : splS 32 H = [H] := splS_none (by rw [hH]; decide +kernel)
 rw [hsp] at k1
 have k2 := containsNo_fn [H] (by simp) ⟨#[]⟩ (by rw [hH]; decide)
 have h0 : (strRows [H])[(0 : Int).toNat]? = some [.str H] := strRows_at rfl
 have hl : (strRows [H]).length = 1 := rfl
 have hw : ¬ H = ⟨#[119, 97, 108, 108, 101, 116]⟩ := by rw [hH]; decide
 refine PFn.mk ?_
 refine Spec.body Tryz.func80 rfl rfl (Tryz.ntmps80) rfl fun w0 own0 M => ?_
 repeat' (first | refine goH ?_ | (refine Ops.k_b_eql ?_; first | (refine Ops.val' rfl (OpV.eqlS_f rfl rfl hw) ?_)) | (refine Ops.k_makeMap ?_; first | (refine Ops.makeMap Value.string rfl (fun bm => ?_))) | ((fail_if_success refine Ops.k_lookup ?_); (fail_if_success refine Ops.k_lookupOk ?_); refine goV ?_) | ((fail_if_success refine Ops.k_lookup ?_); (fail_if_success refine Ops.k_lookupOk ?_); refine goC (fun ad cap => ?_)) | refine goG ?_ | (refine Ops.k_guard ?_; first | (refine Ops.guard_dec rfl rfl ?_ ?_ <;> intro hc <;> try omega) | refine Ops.guard_split rfl rfl ?_ ?_ <;> intro hc) | refine goI ?_ | (refine Cw.k_cond ?_; first | (refine Cw.cond_dec rfl ?_ ?_ <;> intro hc <;> try omega) | refine Cw.cond_bool rfl ?_ ?_ <;> intro hc) | (refine Ops.insertM rfl rfl rfl goPk ?_) | (refine Ops.k_calla ?_; first | (refine Ops.k_callf 111 ?_; refine Ops.callV k1 (Evs.cons rfl (Evs.cons rfl Evs.nil)) rfl ?_) | (refine Ops.k_callf 112 ?_; refine Ops.callV k2 (Evs.cons rfl (Evs.cons rfl Evs.nil)) rfl ?_)) | (apply OpW.k_call; first | (apply OpW.k_callf 111; exact OpW.callV k1 (Evs.cons rfl (Evs.cons rfl Evs.nil))) | (apply OpW.k_callf 112; exact OpW.callV k2 (Evs.cons rfl (Evs.cons rfl Evs.nil)))) | refine goR ?_ | refine goP ?_ | apply PSeq.cons | apply PSeq.yes rfl rfl rfl | exact goW | fail)
 refine Ops.lookupOk rfl rfl goPk rfl ?_
 generalize hmg : mget H _ = mg
 obtain rfl : mg = none := by rw [← hmg, hH]; rfl
 clear hmg
 repeat' (first | refine goH ?_ | refine goV ?_ | refine goC (fun ad cap => ?_) | refine goG ?_ | (refine Ops.k_guard ?_; first | (refine Ops.guard_dec rfl rfl ?_ ?_ <;> intro hc <;> try omega) | refine Ops.guard_split rfl rfl ?_ ?_ <;> intro hc) | refine goI ?_ | (refine Cw.k_cond ?_; first | (refine Cw.cond_dec rfl ?_ ?_ <;> intro hc <;> try omega) | refine Cw.cond_bool rfl ?_ ?_ <;> intro hc) | refine goR ?_ | refine goP ?_ | apply PSeq.cons | apply PSeq.yes rfl rfl rfl | exact goW | fail)
 exact Fin.ret (Ent.take goTk) (Outs.many rfl (OutL.cons goOe (OutL.cons goOe OutL.nil)) rfl) ⟨rfl, rfl⟩
theorem splitSeqL_fn (s sep : ByteArray) : Spec Tryz.prog 109 [.str s, .str sep, .int 0] [] (fun r cs => ∃ b1 b2 b3, r = Tr.raw (.func (.func 130) #[] #[.pointer (some ⟨b2, 0, none⟩), .pointer (some ⟨b1, 0, none⟩), .pointer (some ⟨b3, 0, none⟩)]) ∧ cs = [Chunk.box b3 3 [.int 0], Chunk.box b2 9 [.str sep], Chunk.box b1 9 [.str s]]) := by
 refine Spec.body Tryz.func109 rfl rfl (Tryz.ntmps109) rfl fun w0 own0 M => ?_
 repeat' (first | refine goH ?_ | refine goV ?_ | refine goB (fun b => ?_) | refine goI ?_ | (refine Cw.k_cond ?_; first | (refine Cw.cond_dec rfl ?_ ?_ <;> intro hc <;> try omega) | refine Cw.cond_bool rfl ?_ ?_ <;> intro hc) | fail)
 exact Fin.ret (Ent.take goTk) (Outs.one rfl rfl) ⟨_, _, _, rfl, rfl⟩
theorem splitSeq_fn (s sep : ByteArray) : Spec Tryz.prog 78 [.str s, .str sep] [] (fun r cs => ∃ b1 b2 b3, r = Tr.raw (.func (.func 130) #[] #[.pointer (some ⟨b2, 0, none⟩), .pointer (some ⟨b1, 0, none⟩), .pointer (some ⟨b3, 0, none⟩)]) ∧ cs = [Chunk.box b3 3 [.int 0], Chunk.box b2 9 [.str sep], Chunk.box b1 9 [.str s]]) := by
 have k := splitSeqL_fn s sep
 refine Spec.body Tryz.func78 rfl rfl (Tryz.ntmps78) rfl fun w0 own0 M => ?_
 repeat' (first | refine goH ?_ | refine goV ?_ | refine goI ?_ | (refine Cw.k_cond ?_; first | (refine Cw.cond_dec rfl ?_ ?_ <;> intro hc <;> try omega) | refine Cw.cond_bool rfl ?_ ?_ <;> intro hc) | (refine Ops.k_calla ?_; first | (refine Ops.k_callf 109 ?_; (refine Ops.call k (Evs.cons rfl (Evs.cons rfl (Evs.cons rfl Evs.nil))) goPm rfl ?_; rintro r cs' ⟨b1, b2, b3, rfl, rfl⟩))) | fail)
 exact Fin.ret (Ent.take goTk) (Outs.one rfl rfl) ⟨_, _, _, rfl, rfl⟩
theorem splitSeq_iter (s : ByteArray) (c : UInt8) (hi : Lib.indexByte s.data.toList c = -1) (b1 b2 b3 : Nat) : IterSpec Tryz.prog 130 [.pointer (some ⟨b2, 0, none⟩), .pointer (some ⟨b1, 0, none⟩), .pointer (some ⟨b3, 0, none⟩)] [Chunk.box b3 3 [.int 0], Chunk.box b2 9 [.str ⟨#[c]⟩], Chunk.box b1 9 [.str s]] [Chunk.box b3 3 [.int 0], Chunk.box b2 9 [.str ⟨#[c]⟩], Chunk.box b1 9 [.str s]] [[.str s]] := by
 unfold IterSpec
 intro lp J Jx hY c0 h0
 have hy := hY 0 _ c0 rfl h0
 have ki := index1_fn s c
 rw [hi] at ki
 have h1 : (⟨#[c]⟩ : ByteArray).size = 1 := rfl
 refine Spec.body Tryz.func130 rfl rfl (Tryz.ntmps130) rfl fun w0 own0 M => ?_
 repeat' (first | refine goH ?_ | refine goV ?_ | refine goI ?_ | (refine Cw.k_cond ?_; first | (refine Cw.cond_dec rfl ?_ ?_ <;> intro hc <;> try omega) | refine Cw.cond_bool rfl ?_ ?_ <;> intro hc) | fail)
 refine Cw.loopI [(0, _), (1, _), (2, _), (3, _)] _ (fun q e cc => q = 0 ∧ e = [] ∧ cc = [c0, Chunk.box b3 3 [.int 0], Chunk.box b2 9 [.str ⟨#[c]⟩], Chunk.box b1 9 [.str s]]) ⟨_, _, _, (Ent.mkP goSub goPm), rfl, rfl, rfl⟩ ?_
 rintro _ _ _ ⟨rfl, rfl, rfl⟩
 repeat' (first | refine goH ?_ | refine goV ?_ | refine goI ?_ | (refine Cw.k_cond ?_; first | (refine Cw.cond_dec rfl ?_ ?_ <;> intro hc <;> try omega) | refine Cw.cond_bool rfl ?_ ?_ <;> intro hc) | (refine Ops.k_calla ?_; first | (refine Ops.k_callf 132 ?_; refine Ops.callV ki (Evs.cons rfl (Evs.cons rfl Evs.nil)) rfl ?_) | (refine Ops.callY rfl hy (Evs.cons rfl Evs.nil) goPm rfl ?_; rintro r cs' (⟨rfl, c', hc', rfl⟩ | ⟨rfl, c', hc', rfl⟩))) | fail)
 ·exact Fin.norm (Ent.take goTk) (Outs.zero rfl) (.inl ⟨c', hc', rfl⟩)
 ·exact Fin.norm (Ent.take goTk) (Outs.zero rfl) (.inr ⟨c', hc', rfl⟩)
theorem session_hello : PFn Tryz.prog 45 [.str ⟨#[104, 101, 108, 108, 111, 10]⟩] (· = .str ⟨#[101, 114, 114, 111, 114, 32, 57, 10]⟩) := by
 obtain ⟨A, hA⟩ : ∃ A, A = (⟨#[104, 101, 108, 108, 111, 10]⟩ : ByteArray) := ⟨_, rfl⟩
 obtain ⟨H, hH⟩ : ∃ H, H = (⟨#[104, 101, 108, 108, 111]⟩ : ByteArray) := ⟨_, rfl⟩
 have hAz : A.size = 6 := by rw [hA]; rfl
 have hHz : H.size = 5 := by rw [hH]; rfl
 have hA0 : ¬ A = ⟨#[]⟩ := by rw [hA]; decide
 have hH0 : ¬ H = ⟨#[]⟩ := by rw [hH]; decide
 have kt := trimSuf_fn A ⟨#[10]⟩ H (by omega) (by rw [hA]; decide) (by rw [hA]; decide +kernel) (by rw [hA, hH]; decide +kernel)
 have kr := fun c => run_hello c H hH
 have ki := itoa9_fn
 have hidx : Lib.indexByte H.data.toList 10 = -1 := by rw [hH]; decide +kernel
 have hres : (⟨#[101, 114, 114, 111, 114, 32]⟩ : ByteArray) ++ ⟨#[57]⟩ ++ ⟨#[10]⟩ = ⟨#[101, 114, 114, 111, 114, 32, 57, 10]⟩ := by decide +kernel
 rw [← hA]
 clear hA hH
 refine PFn.mk ?_
 refine Spec.bodyF Tryz.func45 rfl rfl (Tryz.ntmps45) rfl fun w0 own0 M => ?_
 refine CwF.seq rfl ?_
 repeat' (first | refine goH ?_ | refine goV ?_ | refine goB (fun b => ?_) | refine goI ?_ | (refine Cw.k_cond ?_; first | (refine Cw.cond_dec rfl ?_ ?_ <;> intro hc <;> try omega) | refine Cw.cond_bool rfl ?_ ?_ <;> intro hc) | fail)
 refine CwF.seq rfl ?_
 repeat' (first | refine goH ?_ | refine goV ?_ | refine goB (fun b => ?_) | refine goI ?_ | (refine Cw.k_cond ?_; first | (refine Cw.cond_dec rfl ?_ ?_ <;> intro hc <;> try omega) | refine Cw.cond_bool rfl ?_ ?_ <;> intro hc) | fail)
 refine CwF.seq rfl ?_
 repeat' (first | refine goH ?_ | (refine Ops.k_b_eql ?_; first | (refine Ops.val' rfl (OpV.eqlS_f rfl rfl hA0) ?_)) | refine goV ?_ | refine goB (fun b => ?_) | refine goI ?_ | (refine Cw.k_cond ?_; first | (refine Cw.cond_dec rfl ?_ ?_ <;> intro hc <;> try omega) | refine Cw.cond_bool rfl ?_ ?_ <;> intro hc) | fail)
 refine CwF.seq rfl ?_
 repeat' (first | refine goH ?_ | refine goV ?_ | refine goB (fun b => ?_) | refine goI ?_ | (refine Cw.k_cond ?_; first | (refine Cw.cond_dec rfl ?_ ?_ <;> intro hc <;> try omega) | refine Cw.cond_bool rfl ?_ ?_ <;> intro hc) | fail)
 refine CwF.seq rfl ?_
 repeat' (first | refine goH ?_ | refine goV ?_ | refine goB (fun b => ?_) | refine goI ?_ | (refine Cw.k_cond ?_; first | (refine Cw.cond_dec rfl ?_ ?_ <;> intro hc <;> try omega) | refine Cw.cond_bool rfl ?_ ?_ <;> intro hc) | fail)
 rename_i bc bp
 refine CwF.rng (RngOk.ent (Ent.nil 1 5) (RngOk.seq ?_))
 repeat' (first | refine goH ?_ | refine goV ?_ | refine goB (fun b => ?_) | refine goI ?_ | (refine Cw.k_cond ?_; first | (refine Cw.cond_dec rfl ?_ ?_ <;> intro hc <;> try omega) | refine Cw.cond_bool rfl ?_ ?_ <;> intro hc) | (refine Ops.k_calla ?_; first | (refine Ops.k_callf 79 ?_; refine Ops.callV kt (Evs.cons rfl (Evs.cons rfl Evs.nil)) rfl ?_) | (refine Ops.k_callf 78 ?_; (refine Ops.call (splitSeq_fn H ⟨#[10]⟩) (Evs.cons rfl (Evs.cons rfl Evs.nil)) goPm rfl ?_; rintro r cs' ⟨b1, b2, b3, rfl, rfl⟩))) | fail)
 refine RngOk.block ?_
 refine RngOk.range (ps := [21]) (I := fun k cs => ∃ (p ad : Option Addr) (cap : Nat) (t : ByteArray), (BldI b p ad cap t ∧ t = (if k = 0 then ⟨#[]⟩ else ⟨#[101, 114, 114, 111, 114, 32, 57, 10]⟩)) ∧ cs = [Chunk.box bp 157 [.ptr bc], bldB b p ad cap t, bldO ad cap t]) (Ix := fun _ _ => False) rfl rfl rfl (splitSeq_iter H 10 hidx b1 b2 b3) ?_ ?_ ⟨none, none, 0, ⟨#[]⟩, ⟨BldI.new b, rfl⟩, rfl⟩ goPm ?_ ?_ ?_ (fun _ _ => ?_)
 ·rintro args ha
  rw [List.mem_singleton.1 ha]
  rfl
 ·intro p hp
  simp only [List.mem_cons, List.not_mem_nil, or_false] at hp
  show p < 39
  omega
 ·rintro lp k args csk hk ⟨p, ad, cap, t, ⟨hI, ht⟩, rfl⟩ w1 own1 M1
  have hk0 : k = 0 := by
   have := (List.getElem?_eq_some_iff.1 hk).1
   simp at this
   exact this
  subst hk0
  cases hk
  rw [if_pos rfl] at ht
  subst ht
  simp only [prm]
  repeat' (first | refine goH ?_ | refine goV ?_ | refine goB (fun b => ?_) | refine goI ?_ | (refine Cw.k_cond ?_; first | (refine Cw.cond_dec rfl ?_ ?_ <;> intro hc <;> try omega) | refine Cw.cond_bool rfl ?_ ?_ <;> intro hc) | fail)
  intro w2 own2
  have e1 : (⟨#[101, 114, 114, 111, 114, 32]⟩ : ByteArray).size = 6 := rfl
  have e2 : (⟨#[57]⟩ : ByteArray).size = 1 := rfl
  have e3 : (⟨#[10]⟩ : ByteArray).size = 1 := rfl
  repeat' (first | refine goH ?_ | (refine Ops.k_b_eql ?_; first | (refine Ops.val' rfl (OpV.eqlS_f rfl rfl hH0) ?_)) | (refine Ops.k_b_add ?_; first | (refine Ops.catB rfl rfl (by (try simp only [ByteArray.size_append]); omega) rfl ?_)) | ((fail_if_success refine Ops.k_c_call ?_); refine goV ?_) | ((fail_if_success refine Ops.k_c_call ?_); refine goB (fun b => ?_)) | refine goI ?_ | (refine Cw.k_cond ?_; first | (refine Cw.cond_dec rfl ?_ ?_ <;> intro hc <;> try omega) | refine Cw.cond_bool rfl ?_ ?_ <;> intro hc) | (refine Ops.k_calla ?_; first | (refine Ops.k_callf 80 ?_; refine Ops.callV (kr bc) (Evs.cons rfl (Evs.cons rfl Evs.nil)) rfl ?_) | (refine Ops.k_callf 77 ?_; refine Ops.callV ki (Evs.cons rfl Evs.nil) rfl ?_)) | fail)
  rw [hres]
  have kw := writeString_fn hI ⟨#[101, 114, 114, 111, 114, 32, 57, 10]⟩ (by decide)
  repeat' (first | refine goH ?_ | refine goV ?_ | refine goB (fun b => ?_) | refine goI ?_ | (refine Cw.k_cond ?_; first | (refine Cw.cond_dec rfl ?_ ?_ <;> intro hc <;> try omega) | refine Cw.cond_bool rfl ?_ ?_ <;> intro hc) | (refine Ops.k_calla ?_; first | (refine Ops.k_callf 81 ?_; (refine Ops.call kw (Evs.cons rfl (Evs.cons rfl Evs.nil)) goPm rfl ?_; rintro r cs' ⟨p2, ad2, cap2, hI2, rfl, rfl⟩))) | fail)
  exact RPost.norm (Ent.mk goSub goTk) ⟨p2, ad2, cap2, _, ⟨hI2, by rw [if_neg (by simp)]; decide +kernel⟩, rfl⟩
 ·rintro w1 own1 M1 D csN ⟨p, ad, cap, t, ⟨hI, ht⟩, rfl⟩
  rw [if_neg (by simp)] at ht
  have htz : t.size ≤ 1000000000 := by rw [ht]; decide
  have ks := string_fn hI htz
  repeat' (first | refine goH ?_ | refine goV ?_ | refine goB (fun b => ?_) | refine goI ?_ | (refine Cw.k_cond ?_; first | (refine Cw.cond_dec rfl ?_ ?_ <;> intro hc <;> try omega) | refine Cw.cond_bool rfl ?_ ?_ <;> intro hc) | (refine Ops.k_calla ?_; first | (refine Ops.k_callf 82 ?_; (refine Ops.call ks (Evs.cons rfl Evs.nil) goPm rfl ?_; rintro r cs' ⟨rfl, rfl⟩))) | fail)
  exact Fin.ret (Ent.take goTk) (Outs.one rfl rfl) ⟨rfl, congrArg Tr.str ht⟩
 ·rintro c csx h
  exact h.elim
 ·exact enters_of Tryz.func130 rfl rfl _ _
end Lg
end
