/- A part of the proof of a law of this seat: it adds no condition. By an AI agent. -/
import Derived.Shelf.Strings.Search3
import Derived.Shelf.Strings.Count
import Derived.Lib.SmallJoins
import Derived.Stop.IfaceNil
import Derived.KernelRfl
import Derived.Shelf.Strings.Prefix
import Derived.Shelf.Strconv.Itoa3
import Derived.Shelf.Strconv.ErrVarAll
import Derived.Test.YtaoclkglimibeaaGreatDoorLgUtf
import Derived.Test.YtaoclkglimibeaaGreatDoorLgMap4
import Derived.Test.YtaoclkglimibeaaGreatDoorShelf2
section
set_option linter.all false
set_option maxRecDepth 100000
set_option maxHeartbeats 4000000
namespace Lg
open Go Go.Proofs

/-! ### strings.Index, Count, Split and Cut at a separator of one byte -/
theorem index1_fn (s : ByteArray) (c : UInt8) : PFn Tryz.prog 73 [.str s, .str ⟨#[c]⟩] (· = .int (Lib.indexByte s.data.toList c)) := by
  refine PFn.of_calls (args := [.string s, .string ⟨#[c]⟩]) (fun vs w => rfl) (fun w => ?_)
  refine (Any.strings_Index_one Tryz.lays143 s c w).mono ?_
  rintro e w' ⟨rfl, rfl⟩
  exact ⟨rfl, Go.RowKit.Below.refl _ _, fun _ => Nat.le_refl _⟩
theorem count1_fn (s : ByteArray) (c : UInt8) : PFn Tryz.prog 72 [.str s, .str ⟨#[c]⟩] (· = .int ((Lib.countByte s.data.toList c : Nat) : Int)) := by
  refine PFn.of_calls (args := [.string s, .string ⟨#[c]⟩]) (fun vs w => rfl) (fun w => ?_)
  refine (Any.strings_Count_one Tryz.lays138 s c w).mono ?_
  rintro e w' ⟨rfl, rfl⟩
  exact ⟨rfl, Go.RowKit.Below.refl _ _, fun _ => Nat.le_refl _⟩
theorem indexL1_fn (s : ByteArray) (c : UInt8) : PFn Tryz.prog 84 [.str s, .str ⟨#[c]⟩] (· = .int (Lib.indexByte s.data.toList c)) := by
  refine PFn.of_calls (args := [.string s, .string ⟨#[c]⟩]) (fun vs w => rfl) (fun w => ?_)
  refine (Any.stringslite_Index_one Tryz.lays219 s c w).mono ?_
  rintro e w' ⟨rfl, rfl⟩
  exact ⟨rfl, Go.RowKit.Below.refl _ _, fun _ => Nat.le_refl _⟩
theorem one_ne (c : UInt8) : ¬ (⟨#[c]⟩ : ByteArray) = ⟨#[]⟩ := by
  intro h
  have := congrArg ByteArray.size h
  cases this
theorem idx_lt {s : ByteArray} {c : UInt8} {m : Nat} (h : Lib.indexByte s.data.toList c = (m : Int)) : m < s.size := (splS_some h).2
theorem splR_set (d : List ByteArray) (n : Nat) (z : List Tr) (x : ByteArray) : (strRows d ++ List.replicate (n + 1) z).set d.length [Tr.str x] = strRows (d ++ [x]) ++ List.replicate n z := by
  rw [List.set_append_right _ _ (by rw [strRows_len]; exact Nat.le_refl _), strRows_len, Nat.sub_self, List.replicate_succ, List.set_cons_zero, strRows_app, List.append_assoc]
  rfl
theorem splR_at (d : List ByteArray) (n : Nat) (z : List Tr) : (strRows d ++ List.replicate (n + 1) z)[d.length]? = some z := by
  rw [List.getElem?_append_right (by rw [strRows_len]; exact Nat.le_refl _), strRows_len, Nat.sub_self, List.replicate_succ]
  rfl
theorem splR_len (d : List ByteArray) (n : Nat) (z : List Tr) : (strRows d ++ List.replicate n z).length = d.length + n := by
  rw [List.length_append, strRows_len, List.length_replicate]
theorem genSplit1_fn (s0 : ByteArray) (hs : s0.size ≤ 1000000000) (c : UInt8) : PFn Tryz.prog 44 [.str s0, .str ⟨#[c]⟩, .int 0, .int (-1)] (· = .strs (splS c s0)) := by
  have kC := count1_fn s0 c
  have hle := countByte_le s0.data.toList c
  have hsl := str_list s0
  have hlen := splS_len c s0
  generalize Lib.countByte s0.data.toList c = N at *
  have hmin : min ((N : Int) + 1) ((s0.size : Int) + 1) = ((N + 1 : Nat) : Int) := by omega
  have hsub : ((N + 1 : Nat) : Int) - 1 = (N : Int) := by omega
  have hne := one_ne c
  have h1 : ByteArray.size ⟨#[c]⟩ = 1 := rfl
  refine PFn.mk (Spec.body Tryz.func44 rfl rfl (Tryz.ntmps44) rfl fun w0 own0 M => ?_)
  repeat' (first | refine goH ?_ | (refine Ops.k_c_min ?_; first | (refine Ops.min2 rfl rfl rfl ?_; rw [hmin])) | (refine Ops.k_makeSlice ?_; first | (refine Ops.makeSlice rfl rfl (by omega) (by omega) (by omega) rfl (fun ad cap => ?_); rw [Int.toNat_natCast, show List.map Tr.raw [Value.string ByteArray.empty] = [Tr.str ⟨#[]⟩] from rfl])) | (refine Ops.k_b_sub ?_; first | (refine Ops.sub rfl rfl (by omega) rfl ?_; rw [hsub])) | refine goV ?_ | refine goC (fun ad cap => ?_) | refine goI ?_ | (refine Cw.k_cond ?_; first | (refine Cw.cond_dec rfl (fun hc => ?_) (fun hc => ?_) <;> try (exfalso; omega)) | refine Cw.cond_bool rfl (fun hc => ?_) (fun hc => ?_)) | (refine Ops.k_calla ?_; first | (refine Ops.k_callf 72 ?_; refine Ops.callV kC (Evs.cons rfl (Evs.cons rfl Evs.nil)) rfl ?_)) | fail)
  refine Cw.loopI [(1, _), (2, _), (3, _), (9, _)] _ (fun q e cc => ∃ (i : Nat) (s : ByteArray) (d : List ByteArray) (rows : List (List Tr)), q = N - i ∧ (i ≤ N ∧ d.length = i ∧ s.size ≤ s0.size ∧ splS c s0 = d ++ splS c s ∧ rows = strRows d ++ List.replicate (N + 1 - i) [Tr.str ⟨#[]⟩] ∧ rows.length = N + 1) ∧ e = [(0, .str s), (10, .int i)] ∧ cc = [Chunk.own ad cap 1 9 rows])
    ⟨_, _, _, (Ent.mkP goSub goPm), 0, s0, [], _, rfl, ⟨by omega, rfl, by omega, rfl, by simp [strRows], by simp⟩, rfl, rfl⟩ ?_
  clear kC
  rintro _ _ _ ⟨i, s, d, rows, rfl, ⟨hi, hd, hss, hsp, hrows, hrl⟩, rfl, rfl⟩
  have hln2 := splS_len c s
  have hl3 : N + 1 = d.length + (splS c s).length := by rw [← hlen, hsp, List.length_append]
  have hat : rows[(i : Int).toNat]? = some [Tr.str ⟨#[]⟩] := by
    rw [hrows, Int.toNat_natCast, ← hd, show N + 1 - d.length = (N - d.length) + 1 by omega]
    exact splR_at _ _ _
  have hset : ∀ x : ByteArray, rows.set (i : Int).toNat [Tr.str x] = strRows (d ++ [x]) ++ List.replicate (N + 1 - (i + 1)) [Tr.str ⟨#[]⟩] := fun x => by
    rw [hrows, Int.toNat_natCast, ← hd, show N + 1 - d.length = (N - d.length) + 1 by omega, show N + 1 - (d.length + 1) = N - d.length by omega]
    exact splR_set _ _ _ _
  have hsl2 : ∀ x : ByteArray, (strRows (d ++ [x]) ++ List.replicate (N + 1 - (i + 1)) [Tr.str ⟨#[]⟩]).length = N + 1 := fun x => by rw [splR_len, List.length_append]; simp; omega
  have hdl : ∀ x : ByteArray, (d ++ [x]).length = i + 1 := fun x => by rw [List.length_append, hd]; rfl
  have kI := index1_fn s c
  clear hrows hlen
  rcases idx_cases s.data.toList c with h | ⟨m, h⟩
  · have h2 := splS_none h
    rw [h2] at hsp hl3
    simp only [List.length_cons, List.length_nil] at hl3
    have hiN : i = N := by omega
    subst hiN
    have e1 := hset s
    rw [show i + 1 - (i + 1) = 0 by omega, List.replicate_zero, List.append_nil, ← hsp] at e1
    have hle : (strRows (splS c s0)).length = i + 1 := by rw [hsp, strRows_len]; exact hdl s
    generalize hZ : strRows (splS c s0) = Z at *
    clear hset hsl2 hdl
    repeat' (first | refine goH ?_ | (refine Ops.k_store ?_; first | (refine Ops.store_own1 rfl rfl goPk (by first | rfl | assumption | (simp [*]; done)) (by decide) ?_; erw [e1])) | refine goV ?_ | refine goC (fun ad cap => ?_) | refine goI ?_ | (refine Cw.k_cond ?_; first | (refine Cw.cond_dec rfl (fun hc => ?_) (fun hc => ?_) <;> try (exfalso; omega)) | refine Cw.cond_bool rfl (fun hc => ?_) (fun hc => ?_)) | fail)
    rw [show List.take ((i : Int) + 1).toNat Z = Z from List.take_of_length_le (by omega)]
    refine Fin.ret (Ent.trans (Ent.settle (s := 8) rfl goPk rfl) (Ent.take goTk)) (Outs.sole rfl goOe) ⟨rfl, congrArg (Tr.sl 1) hZ.symm⟩
  · have h2 := (splS_some h).1
    have hm := idx_lt h
    rw [h] at kI
    rw [h2, List.length_cons] at hl3
    have hne2 := splS_len c (s.extract (m + 1) s.size)
    have e1 := hset (s.extract 0 m)
    have e2 : ((m : Int) + 0).toNat = m := by omega
    have e3 : ((m : Int) + ((⟨#[c]⟩ : ByteArray).size : Int)).toNat = m + 1 := by rw [h1]; omega
    have hz : (s.extract (m + 1) s.size).size ≤ s0.size := by rw [ByteArray.size_extract]; omega
    have hlt := hsl2 (s.extract 0 m)
    repeat' (first | refine goH ?_ | (refine Ops.k_slice ?_; first | (first | (refine Ops.sliceS_h rfl rfl rfl (by omega) rfl ?_; rw [e2]) | (refine Ops.sliceS_l rfl rfl rfl (by omega) rfl ?_; rw [e3]))) | (refine Ops.k_store ?_; first | (refine Ops.store_own1 rfl rfl goPk (by first | rfl | assumption | (simp [*]; done)) (by decide) ?_; erw [e1])) | refine goV ?_ | refine goC (fun ad cap => ?_) | refine goI ?_ | (refine Cw.k_cond ?_; first | (refine Cw.cond_dec rfl (fun hc => ?_) (fun hc => ?_) <;> try (exfalso; omega)) | refine Cw.cond_bool rfl (fun hc => ?_) (fun hc => ?_)) | (refine Ops.k_calla ?_; first | (refine Ops.k_callf 73 ?_; refine Ops.callV kI (Evs.cons rfl (Evs.cons rfl Evs.nil)) rfl ?_)) | fail)
    exact ⟨_, _, _, (Ent.mk goSub goTk), ⟨i + 1, _, d ++ [s.extract 0 m], _, rfl, ⟨by omega, hdl _, hz, by rw [hsp, h2, List.append_assoc]; rfl, rfl, hlt⟩, rfl, rfl⟩, by omega⟩
theorem split1_fn (s : ByteArray) (hs : s.size ≤ 1000000000) (c : UInt8) : PFn Tryz.prog 17 [.str s, .str ⟨#[c]⟩] (· = .strs (splS c s)) := by
  have k := genSplit1_fn s hs c
  refine PFn.mk (Spec.body Tryz.func17 rfl rfl (Tryz.ntmps17) rfl fun w0 own0 M => ?_)
  repeat' (first | refine goH ?_ | refine goV ?_ | refine goI ?_ | (refine Cw.k_cond ?_; first | (refine Cw.cond_dec rfl (fun hc => ?_) (fun hc => ?_) <;> try (exfalso; omega)) | refine Cw.cond_bool rfl (fun hc => ?_) (fun hc => ?_)) | (refine Ops.k_calla ?_; first | (refine Ops.k_callf 44 ?_; refine Ops.callV k (Evs.cons rfl (Evs.cons rfl (Evs.cons rfl (Evs.cons rfl Evs.nil)))) rfl ?_)) | fail)
  exact Fin.ret (Ent.take goTk) (Outs.one rfl rfl) ⟨rfl, rfl⟩
theorem cutL1_fn (s : ByteArray) (hs : s.size ≤ 1000000000) (c : UInt8) : PFn Tryz.prog 56 [.str s, .str ⟨#[c]⟩] (· = .tup [.str (cutS c s).1, .str (cutS c s).2.1, .bool (cutS c s).2.2]) := by
  have k := indexL1_fn s c
  have h1 : ByteArray.size ⟨#[c]⟩ = 1 := rfl
  rcases idx_cases s.data.toList c with h | ⟨m, h⟩
  · rw [cutS_none h]
    rw [h] at k
    refine PFn.mk (Spec.body Tryz.func56 rfl rfl (Tryz.ntmps56) rfl fun w0 own0 M => ?_)
    repeat' (first | refine goH ?_ | refine goV ?_ | refine goI ?_ | (refine Cw.k_cond ?_; first | (refine Cw.cond_dec rfl (fun hc => ?_) (fun hc => ?_) <;> try (exfalso; omega)) | refine Cw.cond_bool rfl (fun hc => ?_) (fun hc => ?_)) | (refine Ops.k_calla ?_; first | (refine Ops.k_callf 84 ?_; refine Ops.callV k (Evs.cons rfl (Evs.cons rfl Evs.nil)) rfl ?_)) | (apply OpW.k_call; first | (apply OpW.k_callf 84; exact OpW.callV k (Evs.cons rfl (Evs.cons rfl Evs.nil)))) | refine goR ?_ | refine goP ?_ | apply PSeq.cons | apply PSeq.yes rfl rfl rfl | exact goW | fail)
    refine Fin.ret (Ent.take goTk) (Outs.many rfl (OutL.cons goOe (OutL.cons goOe (OutL.cons goOe OutL.nil))) rfl) ⟨rfl, rfl⟩
  · have hm := idx_lt h
    rw [cutS_some h]
    rw [h] at k
    have e2 : ((m : Int)).toNat = m := by omega
    have e3 : ((m : Int) + ((⟨#[c]⟩ : ByteArray).size : Int)).toNat = m + 1 := by rw [h1]; omega
    refine PFn.mk (Spec.body Tryz.func56 rfl rfl (Tryz.ntmps56) rfl fun w0 own0 M => ?_)
    repeat' (first | refine goH ?_ | refine goV ?_ | refine goI ?_ | (refine Cw.k_cond ?_; first | (refine Cw.cond_dec rfl (fun hc => ?_) (fun hc => ?_) <;> try (exfalso; omega)) | refine Cw.cond_bool rfl (fun hc => ?_) (fun hc => ?_)) | exact OpV.w (OpV.sliceS_l rfl rfl rfl (by omega)) | (refine Ops.k_calla ?_; first | (refine Ops.k_callf 84 ?_; refine Ops.callV k (Evs.cons rfl (Evs.cons rfl Evs.nil)) rfl ?_)) | (apply OpW.k_call; first | (apply OpW.k_callf 84; exact OpW.callV k (Evs.cons rfl (Evs.cons rfl Evs.nil)))) | refine goR ?_ | refine goP ?_ | apply PSeq.cons | apply PSeq.yes rfl rfl rfl | exact goW | fail)
    rw [e3]
    refine Fin.ret (Ent.take goTk) (Outs.many rfl (OutL.cons goOe (OutL.cons goOe (OutL.cons goOe OutL.nil))) rfl) ⟨rfl, rfl⟩
theorem cut1_fn (s : ByteArray) (hs : s.size ≤ 1000000000) (c : UInt8) : PFn Tryz.prog 28 [.str s, .str ⟨#[c]⟩] (· = .tup [.str (cutS c s).1, .str (cutS c s).2.1, .bool (cutS c s).2.2]) := by
  have k := cutL1_fn s hs c
  refine PFn.mk (Spec.body Tryz.func28 rfl rfl (Tryz.ntmps28) rfl fun w0 own0 M => ?_)
  repeat' (first | refine goH ?_ | refine goV ?_ | refine goI ?_ | (refine Cw.k_cond ?_; first | (refine Cw.cond_dec rfl (fun hc => ?_) (fun hc => ?_) <;> try (exfalso; omega)) | refine Cw.cond_bool rfl (fun hc => ?_) (fun hc => ?_)) | (refine Ops.k_calla ?_; first | (refine Ops.k_callf 56 ?_; refine Ops.callV k (Evs.cons rfl (Evs.cons rfl Evs.nil)) rfl ?_)) | fail)
  refine Fin.ret (Ent.take goTk) (Outs.many rfl (OutL.cons goOe (OutL.cons goOe (OutL.cons goOe OutL.nil))) rfl) ⟨rfl, rfl⟩
end Lg
end
section
set_option linter.all false
set_option maxRecDepth 100000
set_option maxHeartbeats 4000000
namespace Lg
open Go Go.Proofs

/-! ### strconv.Itoa and Atoi, out of the shelf; base.Number and coilref.number -/
def numV : List (String × (Array Value → Prop)) := [("internal/strconv.uint64pow10", fun a => a = (Lib.pow10Tab.map fun z => Value.int .u64 z).toArray), ("strconv.ErrSyntax", fun a => ∃ tp p, a = #[.iface tp p]), ("strconv.ErrRange", fun a => ∃ tp p, a = #[.iface tp p])]
abbrev numC : Chunk := varC Tryz.prog numV
theorem numV_tab {w : World} (h : VarsIn Tryz.prog numV w) : Lib.TabIs Tryz.prog w "internal/strconv.uint64pow10" .u64 Lib.pow10Tab := by
  obtain ⟨a, h1, h2⟩ := h _ (List.mem_cons_self ..)
  unfold Lib.TabIs
  rw [h1]
  exact congrArg some h2
theorem numV_syn {w : World} (h : VarsIn Tryz.prog numV w) : ∃ tp p, w.var? Tryz.prog "strconv.ErrSyntax" = some #[.iface tp p] := by
  obtain ⟨a, h1, tp, p, h2⟩ := h _ (List.mem_cons_of_mem _ (List.mem_cons_self ..))
  exact ⟨tp, p, by rw [← h2]; exact h1⟩
theorem numV_rng {w : World} (h : VarsIn Tryz.prog numV w) : ∃ tp p, w.var? Tryz.prog "strconv.ErrRange" = some #[.iface tp p] := by
  obtain ⟨a, h1, tp, p, h2⟩ := h _ (List.mem_cons_of_mem _ (List.mem_cons_of_mem _ (List.mem_cons_self ..)))
  exact ⟨tp, p, by rw [← h2]; exact h1⟩
def itoaS (n : Int) : ByteArray := mkB (Lib.itoa n)
theorem below_grow {w : World} {q : Nat} {os : Array Obj} : Go.RowKit.Below w.heap.size w (Sort.grow (w.drewN q) os) := by
  refine ⟨rfl, rfl, rfl, by unfold Sort.grow World.drewN; simp, fun b hb => ?_⟩
  unfold Sort.grow World.drewN
  simp only
  rw [Array.getElem?_append, if_pos hb]
theorem itoa_fn (n : Int) (h0 : -9223372036854775808 ≤ n) (h1 : n ≤ 9223372036854775807) : Spec Tryz.prog 32 [.int n] [numC] (fun r cs => r = .str (itoaS n) ∧ cs = [numC]) := by
  refine Spec.of_vars (args := [.int .i64 n]) (post := (· = .str (itoaS n))) (fun vs w => rfl) (fun w hv => ?_)
  refine (Any.strconv_Itoa Tryz.lays171 n h0 h1 w (numV_tab hv)).mono ?_
  rintro e w' ⟨rfl, q, os, rfl⟩
  exact ⟨_, _, rfl, rfl, fun _ _ => raw_self _, below_grow, fun _ => by unfold Sort.grow World.drewN; simp⟩
def atoiV (l : List UInt8) : Int := match Lib.atoiAll l with
  | .ok v => v
  | .range => Lib.atoiSat l
  | _ => 0
def atoiB (l : List UInt8) : Bool := match Lib.atoiAll l with
  | .ok v => true
  | _ => false
/-- an error or none -/
def errT (b : Bool) : Tr := ⟨fun _ _ v => (b = true ∧ v = .nilIface) ∨ (b = false ∧ ∃ t p, v = .iface t p), fun _ h => h⟩
instance {b : Bool} : OneT (errT b) := ⟨fun _ _ v h => by
  rcases h with ⟨_, rfl⟩ | ⟨_, t, p, rfl⟩
  · exact ⟨rfl, rfl⟩
  · exact ⟨rfl, rfl⟩⟩
theorem atoi_bd (l : List UInt8) : -9223372036854775808 ≤ atoiV l ∧ atoiV l ≤ 9223372036854775807 := by
  unfold atoiV
  rcases h : Lib.atoiAll l with v | _ | _
  · have := Lib.atoiAll_bounds h; simp only; omega
  · simp
  · simp only [Lib.atoiSat]; split <;> omega
theorem tup2_rd {w : World} {A : Nat → Prop} {a b : Tr} {u v : Value} (h1 : a.rd w A u) (h2 : b.rd w A v) : (Tr.tup [a, b]).rd w A (.tuple #[u, v]) := by
  unfold Tr.tup
  exact ⟨[u, v], rfl, u, [v], rfl, h1, v, [], rfl, h2, rfl⟩
theorem atoi_fn (s : ByteArray) (hs : s.size ≤ 1000000000) : Spec Tryz.prog 53 [.str s] [numC] (fun r cs => r = .tup [.int (atoiV s.data.toList), errT (atoiB s.data.toList)] ∧ cs = [numC]) := by
  refine Spec.of_varsB (args := [.string s]) (post := (· = .tup [.int (atoiV s.data.toList), errT (atoiB s.data.toList)])) (fun vs w => rfl) (fun w hv => ?_)
  unfold atoiV atoiB
  rcases h : Lib.atoiAll s.data.toList with v | _ | _
  ·
    refine (Any.strconv_Atoi_ok Tryz.lays172 s (by omega) v h w).mono ?_
    rintro e w' ⟨rfl, hw⟩
    refine ⟨_, _, rfl, rfl, fun _ _ => tup2_rd (raw_self _) (.inl ⟨rfl, rfl⟩), ?_⟩
    rcases hw with rfl | ⟨t, rfl⟩
    · exact Go.RowKit.Below.refl _ _
    · exact Go.Joins.below_bytesWorld _ _ _ _ (Nat.le_refl _)
  ·
    obtain ⟨tp, p, hvar⟩ := numV_syn hv
    refine (Any.strconv_Atoi_syntax_var Tryz.lays172 s (by omega) h tp p w hvar).mono ?_
    rintro e w' ⟨N, rfl, _, _, hb⟩
    exact ⟨_, _, rfl, rfl, fun _ _ => tup2_rd (raw_self _) (.inr ⟨rfl, _, _, rfl⟩), hb⟩
  ·
    obtain ⟨tp, p, hvar⟩ := numV_rng hv
    refine (Any.strconv_Atoi_range_var Tryz.lays172 s (by omega) h tp p w hvar).mono ?_
    rintro e w' ⟨N, rfl, _, _, hb⟩
    exact ⟨_, _, rfl, rfl, fun _ _ => tup2_rd (raw_self _) (.inr ⟨rfl, _, _, rfl⟩), hb⟩
def trimS (s : ByteArray) : ByteArray := mkB (trimM s.data.toList)
theorem trimP_fn (s : ByteArray) : PFn Tryz.prog 48 [.str s, .str ⟨#[45]⟩] (· = .str (trimS s)) := by
  refine PFn.of_calls (args := [.string s, .string ⟨#[45]⟩]) (fun vs w => rfl) (fun w => ?_)
  refine (Any.strings_TrimPrefix Tryz.lays101 s ⟨#[45]⟩ w).mono ?_
  rintro e w' ⟨rfl, rfl⟩
  refine ⟨?_, Go.RowKit.Below.refl _ _, fun _ => Nat.le_refl _⟩
  have e : Lib.trimPrefix s.data.toList [45] = trimM s.data.toList := by
    unfold Lib.trimPrefix Lib.hasPrefix
    cases s.data.toList with
    | nil => rfl
    | cons c l =>
      rw [trimM_cons]
      by_cases h : c = 45
      · subst h; rfl
      · rw [if_neg h, if_neg (by simp [List.isPrefixOf, Ne.symm h])]
  exact congrArg (fun l => Ending.returned (.string ⟨(l : List UInt8).toArray⟩)) e
theorem OpV.eqlNil {Γ : Ctx} {env : Env} {cs : List Chunk} {x : Operand} {T2 ty : TypeId} {b : Bool} (hx : ev env x = some (errT b)) : OpV Tryz.prog Γ (.binOp .eql 80 x (.const .nilIface) T2) ty env cs (.bool b) := by
  unfold OpV
  intro a w d
  have hv := d.ev hx
  rcases hv with ⟨rfl, h⟩ | ⟨rfl, t, p, h⟩
  · refine ⟨.bool true, ?_, raw_self _⟩
    have hy : a.eval (.const .nilIface) = .nilIface := rfl
    have hb := run_eql_nil_nil_at (P := Tryz.prog) w 80 (by kernel_rfl)
    simp [execOp, h, hy, eqGuard, hb]
  · refine ⟨.bool false, ?_, raw_self _⟩
    have hy : a.eval (.const .nilIface) = .nilIface := rfl
    have hb := run_eql_iface_nil (P := Tryz.prog) w 80 (by kernel_rfl) t p
    simp [execOp, h, hy, eqGuard, hb]
theorem trimM_le (l : List UInt8) : (trimM l).length ≤ l.length := by
  cases l with
  | nil => exact Nat.le_refl _
  | cons c l => rw [trimM_cons]; split <;> simp
theorem ok_atoiB {n : Nat} (hn : n ≤ 18) {l : List UInt8} (h : okNum n l = true) : atoiB l = true ∧ atoiV l = valNum l := by
  have h1 := okNum_atoi hn h
  unfold atoiB atoiV
  rw [h1]
  exact ⟨rfl, rfl⟩
theorem atoiB_ok {l : List UInt8} (h : atoiB l = true) : Lib.atoiAll l = .ok (atoiV l) := by
  unfold atoiB at h
  unfold atoiV
  rcases h2 : Lib.atoiAll l with v | _ | _
  · rfl
  · rw [h2] at h; cases h
  · rw [h2] at h; cases h
theorem itoaS_eq (v : Int) (s : ByteArray) : itoaS v = s ↔ Lib.itoa v = s.data.toList := by
  constructor
  · intro h
    exact congrArg (fun s => s.data.toList) h
  · intro h
    unfold itoaS
    rw [h, mkB_eta]
theorem num_dec {n : Nat} (hn : n ≤ 18) {s : ByteArray} (hb : atoiB s.data.toList = true) : okNum n s.data.toList = (decide (itoaS (atoiV s.data.toList) = s) && decide ((trimS s).size ≤ n)) := by
  rw [Bool.eq_iff_iff, Bool.and_eq_true, decide_eq_true_iff, decide_eq_true_iff, num_agree hn, itoaS_eq]
  constructor
  · rintro ⟨v, h1, h2, h3⟩
    rw [atoiB_ok hb] at h1
    cases h1
    exact ⟨h2, h3⟩
  · rintro ⟨h2, h3⟩
    exact ⟨_, atoiB_ok hb, h2, h3⟩
theorem num_false {n : Nat} (hn : n ≤ 18) {l : List UInt8} (hb : atoiB l = false) : okNum n l = false := by
  cases h : okNum n l with
  | false => rfl
  | true => rw [(ok_atoiB hn h).1] at hb; cases hb
theorem numberR_fn (s : ByteArray) (hs : s.size ≤ 1000000000) (n : Nat) (hn : n ≤ 18) : Spec Tryz.prog 26 [.str s, .int n] [numC] (fun r cs => r = .tup [.int (atoiV s.data.toList), .bool (okNum n s.data.toList)] ∧ cs = [numC]) := by
  have k1 := atoi_fn s hs
  have hbd := atoi_bd s.data.toList
  have k2 := itoa_fn (atoiV s.data.toList) hbd.1 hbd.2
  have k3 := trimP_fn s
  cases hb : atoiB s.data.toList with
  | false =>
    rw [num_false hn hb]
    rw [hb] at k1
    generalize atoiV s.data.toList = v at *
    refine Spec.body Tryz.func26 rfl rfl (Tryz.ntmps26) rfl fun w0 own0 M => ?_
    repeat' (first | refine goH ?_ | (refine Ops.k_b_eql ?_; first | (refine Ops.val' rfl (OpV.eqlNil rfl) ?_)) | refine goV ?_ | refine goG ?_ | (refine Ops.k_guard ?_; first | (refine Ops.guard_dec rfl rfl (fun hc => ?_) (fun hc => ?_) <;> try (exfalso; omega)) | refine Ops.guard_split rfl rfl (fun hc => ?_) (fun hc => ?_)) | refine goI ?_ | (refine Cw.k_cond ?_; first | (refine Cw.cond_dec rfl (fun hc => ?_) (fun hc => ?_) <;> try (exfalso; omega)) | refine Cw.cond_bool rfl (fun hc => ?_) (fun hc => ?_)) | (refine Ops.k_calla ?_; first | (refine Ops.k_callf 53 ?_; (refine Ops.call k1 (Evs.cons rfl Evs.nil) goPm rfl ?_; rintro r cs' ⟨rfl, rfl⟩))) | fail)
    exact Fin.ret (Ent.take goTk) (Outs.two rfl rfl rfl) ⟨rfl, rfl⟩
  | true =>
    rw [num_dec hn hb]
    rw [hb] at k1
    generalize atoiV s.data.toList = v at *
    generalize itoaS v = t at *
    refine Spec.body Tryz.func26 rfl rfl (Tryz.ntmps26) rfl fun w0 own0 M => ?_
    by_cases ht : t = s
    · rw [decide_eq_true ht, Bool.true_and]
      repeat' (first | refine goH ?_ | (refine Ops.k_b_eql ?_; first | (first | refine Ops.val' rfl (OpV.eqlNil rfl) ?_ | refine Ops.val' rfl (OpV.eqlS_t rfl rfl ht) ?_)) | refine goV ?_ | refine goG ?_ | (refine Ops.k_guard ?_; first | (refine Ops.guard_dec rfl rfl (fun hc => ?_) (fun hc => ?_) <;> try (exfalso; omega)) | refine Ops.guard_split rfl rfl (fun hc => ?_) (fun hc => ?_)) | refine goI ?_ | (refine Cw.k_cond ?_; first | (refine Cw.cond_dec rfl (fun hc => ?_) (fun hc => ?_) <;> try (exfalso; omega)) | refine Cw.cond_bool rfl (fun hc => ?_) (fun hc => ?_)) | (refine Ops.k_calla ?_; first | (refine Ops.k_callf 53 ?_; (refine Ops.call k1 (Evs.cons rfl Evs.nil) goPm rfl ?_; rintro r cs' ⟨rfl, rfl⟩)) | (refine Ops.k_callf 32 ?_; (refine Ops.call k2 (Evs.cons rfl Evs.nil) goPm rfl ?_; rintro r cs' ⟨rfl, rfl⟩)) | (refine Ops.k_callf 48 ?_; refine Ops.callV k3 (Evs.cons rfl (Evs.cons rfl Evs.nil)) rfl ?_)) | fail)
      refine Fin.ret (Ent.take goTk) (Outs.two rfl rfl rfl) ⟨?_, rfl⟩
      rw [show decide ((trimS s).size ≤ n) = decide (((trimS s).size : Int) ≤ (n : Int)) by rw [Bool.eq_iff_iff, decide_eq_true_iff, decide_eq_true_iff]; omega]
    · rw [decide_eq_false ht, Bool.false_and]
      repeat' (first | refine goH ?_ | (refine Ops.k_b_eql ?_; first | (first | refine Ops.val' rfl (OpV.eqlNil rfl) ?_ | refine Ops.val' rfl (OpV.eqlS_f rfl rfl ht) ?_)) | refine goV ?_ | refine goG ?_ | (refine Ops.k_guard ?_; first | (refine Ops.guard_dec rfl rfl (fun hc => ?_) (fun hc => ?_) <;> try (exfalso; omega)) | refine Ops.guard_split rfl rfl (fun hc => ?_) (fun hc => ?_)) | refine goI ?_ | (refine Cw.k_cond ?_; first | (refine Cw.cond_dec rfl (fun hc => ?_) (fun hc => ?_) <;> try (exfalso; omega)) | refine Cw.cond_bool rfl (fun hc => ?_) (fun hc => ?_)) | (refine Ops.k_calla ?_; first | (refine Ops.k_callf 53 ?_; (refine Ops.call k1 (Evs.cons rfl Evs.nil) goPm rfl ?_; rintro r cs' ⟨rfl, rfl⟩)) | (refine Ops.k_callf 32 ?_; (refine Ops.call k2 (Evs.cons rfl Evs.nil) goPm rfl ?_; rintro r cs' ⟨rfl, rfl⟩)) | (refine Ops.k_callf 48 ?_; refine Ops.callV k3 (Evs.cons rfl (Evs.cons rfl Evs.nil)) rfl ?_)) | fail)
      exact Fin.ret (Ent.take goTk) (Outs.two rfl rfl rfl) ⟨rfl, rfl⟩
end Lg
end
section
set_option linter.all false
set_option maxRecDepth 100000
set_option maxHeartbeats 4000000
namespace Lg
open Go Go.Proofs

/-! ### base.Number -/
theorem trimS_size (s : ByteArray) : (trimS s).size = (trimM s.data.toList).length := rfl
theorem trimS_by (s : ByteArray) (j : Nat) : sby (trimS s) j = (((trimM s.data.toList).getD j 0).toNat : Int) := by unfold sby; rfl
def numDV (n : Nat) (l : List UInt8) : Int := if okNum n l = true then valNum l else 0
theorem numDV_f {n : Nat} {l : List UInt8} (h : okNum n l = false) : numDV n l = 0 := by unfold numDV; rw [h, if_neg (by simp)]
theorem okNum_f {n : Nat} {l : List UInt8} (h : ¬ okNum n l = true) : okNum n l = false := by cases h2 : okNum n l; rfl; exact absurd h2 h
theorem all_dig_at {l : List UInt8} : l.all isDig = true ↔ ∀ j, j < l.length → isDig (l.getD j 0) = true := by
  rw [List.all_eq_true]
  constructor
  · intro h j hj
    rw [List.getD_eq_getElem?_getD, List.getElem?_eq_getElem hj]
    exact h _ (List.getElem_mem hj)
  · intro h x hx
    obtain ⟨j, hj, rfl⟩ := List.getElem_of_mem hx
    have := h j hj
    rw [List.getD_eq_getElem?_getD, List.getElem?_eq_getElem hj] at this
    exact this
theorem numberD_fn (s : ByteArray) (hs : s.size ≤ 1000000000) (n : Nat) (hn : n ≤ 18) : Spec Tryz.prog 46 [.str s, .int n] [numC] (fun r cs => r = .tup [.int (numDV n s.data.toList), .bool (okNum n s.data.toList)] ∧ cs = [numC]) := by
  have k1 := atoi_fn s hs
  have k3 := trimP_fn s
  have hd := trimS_size s
  have hb := trimS_by s
  have hsl := str_list s
  have hle := trimM_le s.data.toList
  have hok := okNum_iff (n := n) (l := s.data.toList)
  have hat := fun h => ok_atoiB hn (l := s.data.toList) h
  have hV : okNum n s.data.toList = true → numDV n s.data.toList = valNum s.data.toList := fun h => by unfold numDV; rw [if_pos h]
  have hF : ¬ okNum n s.data.toList = true → numDV n s.data.toList = 0 ∧ okNum n s.data.toList = false := fun h => ⟨numDV_f (okNum_f h), okNum_f h⟩
  have hhd : (trimM s.data.toList).head? = some 48 ↔ ((trimM s.data.toList) ≠ [] ∧ sby (trimS s) 0 = 48) := by
    rw [hb]
    cases trimM s.data.toList with
    | nil => simp
    | cons c r =>
      simp only [List.head?_cons, Option.some.injEq, List.getD_cons_zero, ne_eq, reduceCtorEq, not_false_eq_true, true_and]
      constructor
      · rintro rfl; rfl
      · intro h
        have : c.toNat = 48 := by omega
        exact UInt8.toNat_inj.1 this
  have hne : (trimM s.data.toList) ≠ [] ↔ trimS s ≠ ⟨#[]⟩ := by
    rw [ne_eq, ne_eq, str_empty, hd, List.length_eq_zero_iff]
  have hdl : ∀ j, j < (trimS s).size → (isDig ((trimM s.data.toList).getD j 0) = true ↔ ¬ sby (trimS s) j < 48 ∧ ¬ 57 < sby (trimS s) j) := fun j hj => by
    rw [hb]
    unfold isDig
    rw [decide_eq_true_iff]
    omega
  have hal := all_dig_at (l := trimM s.data.toList)
  rw [← hd] at hal hok hle
  rw [hhd, hne] at hok
  generalize numDV n s.data.toList = V at *
  generalize okNum n s.data.toList = o at *
  generalize valNum s.data.toList = W at *
  generalize atoiB s.data.toList = ab at *
  generalize atoiV s.data.toList = av at *
  generalize (trimM s.data.toList).all isDig = al at *
  have hal2 : al = true ↔ ∀ j, j < (trimS s).size → (¬ sby (trimS s) j < 48 ∧ ¬ 57 < sby (trimS s) j) := by
    rw [hal]
    exact ⟨fun h j hj => (hdl j hj).1 (h j hj), fun h j hj => (hdl j hj).2 (h j hj)⟩
  clear hal hdl hb hd hhd hne
  rw [← hsl] at hle hok
  clear hsl
  generalize hD : trimS s = D at *
  refine Spec.body Tryz.func46 rfl rfl (Tryz.ntmps46) rfl fun w0 own0 M => ?_
  have bad : ¬ o = true → V = 0 ∧ o = false := hF
  by_cases h1 : D = ⟨#[]⟩
  · obtain ⟨b1, b2⟩ := bad (fun h => (hok.1 h).1.1 h1)
    rw [b1, b2]
    repeat' (first | refine goH ?_ | refine goV ?_ | refine goG ?_ | (refine Ops.k_guard ?_; first | (refine Ops.guard_dec rfl rfl (fun hc => ?_) (fun hc => ?_) <;> try (exfalso; omega)) | refine Ops.guard_split rfl rfl (fun hc => ?_) (fun hc => ?_)) | refine goI ?_ | (refine Cw.k_cond ?_; first | (refine Cw.cond_dec rfl (fun hc => ?_) (fun hc => ?_) <;> try (exfalso; omega)) | refine Cw.cond_bool rfl (fun hc => ?_) (fun hc => ?_)) | (refine Ops.k_calla ?_; first | (refine Ops.k_callf 48 ?_; refine Ops.callV k3 (Evs.cons rfl (Evs.cons rfl Evs.nil)) rfl ?_)) | (apply OpW.k_call; first | (apply OpW.k_callf 48; exact OpW.callV k3 (Evs.cons rfl (Evs.cons rfl Evs.nil)))) | refine goR ?_ | refine goP ?_ | apply PSeq.cons | apply PSeq.yes rfl rfl rfl | exact goW | fail)
    all_goals first | (exfalso; contradiction) | exact Fin.ret (Ent.take goTk) (Outs.two rfl rfl rfl) ⟨rfl, rfl⟩
  have hD0 : D.size ≠ 0 := fun h => h1 ((str_empty D).2 h)
  by_cases h2 : n < D.size
  · obtain ⟨b1, b2⟩ := bad (fun h => by have := (hok.1 h).1.2.1; omega)
    rw [b1, b2]
    repeat' (first | refine goH ?_ | refine goV ?_ | refine goG ?_ | (refine Ops.k_guard ?_; first | (refine Ops.guard_dec rfl rfl (fun hc => ?_) (fun hc => ?_) <;> try (exfalso; omega)) | refine Ops.guard_split rfl rfl (fun hc => ?_) (fun hc => ?_)) | refine goI ?_ | (refine Cw.k_cond ?_; first | (refine Cw.cond_dec rfl (fun hc => ?_) (fun hc => ?_) <;> try (exfalso; omega)) | refine Cw.cond_bool rfl (fun hc => ?_) (fun hc => ?_)) | (refine Ops.k_calla ?_; first | (refine Ops.k_callf 48 ?_; refine Ops.callV k3 (Evs.cons rfl (Evs.cons rfl Evs.nil)) rfl ?_)) | (apply OpW.k_call; first | (apply OpW.k_callf 48; exact OpW.callV k3 (Evs.cons rfl (Evs.cons rfl Evs.nil)))) | refine goR ?_ | refine goP ?_ | apply PSeq.cons | apply PSeq.yes rfl rfl rfl | exact goW | fail)
    all_goals first | (exfalso; contradiction) | (exfalso; omega) | exact Fin.ret (Ent.take goTk) (Outs.two rfl rfl rfl) ⟨rfl, rfl⟩
  by_cases h3 : sby D 0 = 48 ∧ (1 < D.size ∨ D.size < s.size)
  · obtain ⟨b1, b2⟩ := bad (fun h => (hok.1 h).1.2.2 ⟨⟨h1, h3.1⟩, h3.2⟩)
    rw [b1, b2]
    obtain ⟨h4, h5⟩ := h3
    repeat' (first | refine goH ?_ | refine goV ?_ | refine goG ?_ | (refine Ops.k_guard ?_; first | (refine Ops.guard_dec rfl rfl (fun hc => ?_) (fun hc => ?_) <;> try (exfalso; omega)) | refine Ops.guard_split rfl rfl (fun hc => ?_) (fun hc => ?_)) | refine goI ?_ | (refine Cw.k_cond ?_; first | (refine Cw.cond_dec rfl (fun hc => ?_) (fun hc => ?_) <;> try (exfalso; omega)) | refine Cw.cond_bool rfl (fun hc => ?_) (fun hc => ?_)) | (refine Ops.k_calla ?_; first | (refine Ops.k_callf 48 ?_; refine Ops.callV k3 (Evs.cons rfl (Evs.cons rfl Evs.nil)) rfl ?_)) | (apply OpW.k_call; first | (apply OpW.k_callf 48; exact OpW.callV k3 (Evs.cons rfl (Evs.cons rfl Evs.nil)))) | refine goR ?_ | refine goP ?_ | apply PSeq.cons | apply PSeq.yes rfl rfl rfl | exact goW | fail)
    all_goals first | (exfalso; contradiction) | (exfalso; omega) | exact Fin.ret (Ent.take goTk) (Outs.two rfl rfl rfl) ⟨rfl, rfl⟩
  have hsz : D.size ≤ 1000000000 := by omega
  by_cases h4 : sby D 0 = 48
  all_goals
    repeat' (first | refine goH ?_ | refine goV ?_ | refine goG ?_ | (refine Ops.k_guard ?_; first | (refine Ops.guard_dec rfl rfl (fun hc => ?_) (fun hc => ?_) <;> try (exfalso; omega)) | refine Ops.guard_split rfl rfl (fun hc => ?_) (fun hc => ?_)) | refine goI ?_ | (refine Cw.k_cond ?_; first | (refine Cw.cond_dec rfl (fun hc => ?_) (fun hc => ?_) <;> try (exfalso; omega)) | refine Cw.cond_bool rfl (fun hc => ?_) (fun hc => ?_)) | (refine Ops.k_calla ?_; first | (refine Ops.k_callf 48 ?_; refine Ops.callV k3 (Evs.cons rfl (Evs.cons rfl Evs.nil)) rfl ?_)) | (apply OpW.k_call; first | (apply OpW.k_callf 48; exact OpW.callV k3 (Evs.cons rfl (Evs.cons rfl Evs.nil)))) | refine goR ?_ | refine goP ?_ | apply PSeq.cons | apply PSeq.yes rfl rfl rfl | exact goW | fail)
    all_goals try first | (exfalso; contradiction) | (exfalso; omega)
    refine Cw.loopI [(0, _), (1, _), (6, _), (38, _)] _ (fun q e c => ∃ i : Nat, q = D.size - i ∧ (i ≤ D.size ∧ ∀ j, j < i → (¬ sby D j < 48 ∧ ¬ 57 < sby D j)) ∧ e = [(39, .int i)] ∧ c = []) ⟨_, _, _, (Ent.mkP goSub goPm), 0, rfl, ⟨by omega, fun j h => by omega⟩, rfl, rfl⟩ ?_
    rintro _ _ _ ⟨i, rfl, ⟨hi, hpre⟩, rfl, rfl⟩
    by_cases hil : i < D.size
    · by_cases g1 : sby D i < 48 ∨ 57 < sby D i
      · obtain ⟨b1, b2⟩ := bad (fun h => by have := hal2.1 (hok.1 h).2 i hil; omega)
        rw [b1, b2]
        repeat' (first | refine goH ?_ | refine goV ?_ | refine goG ?_ | (refine Ops.k_guard ?_; first | (refine Ops.guard_dec rfl rfl (fun hc => ?_) (fun hc => ?_) <;> try (exfalso; omega)) | refine Ops.guard_split rfl rfl (fun hc => ?_) (fun hc => ?_)) | refine goI ?_ | (refine Cw.k_cond ?_; first | (refine Cw.cond_dec rfl (fun hc => ?_) (fun hc => ?_) <;> try (exfalso; omega)) | refine Cw.cond_bool rfl (fun hc => ?_) (fun hc => ?_)) | refine goR ?_ | refine goP ?_ | apply PSeq.cons | apply PSeq.yes rfl rfl rfl | exact goW | fail)
        all_goals first | (exfalso; omega) | exact Fin.ret (Ent.take goTk) (Outs.two rfl rfl rfl) ⟨rfl, rfl⟩
      · have hnx : ∀ j, j < i + 1 → (¬ sby D j < 48 ∧ ¬ 57 < sby D j) := fun j hj => by
          by_cases e : j = i
          · subst e; omega
          · exact hpre j (by omega)
        clear hpre
        repeat' (first | refine goH ?_ | refine goV ?_ | refine goG ?_ | (refine Ops.k_guard ?_; first | (refine Ops.guard_dec rfl rfl (fun hc => ?_) (fun hc => ?_) <;> try (exfalso; omega)) | refine Ops.guard_split rfl rfl (fun hc => ?_) (fun hc => ?_)) | refine goI ?_ | (refine Cw.k_cond ?_; first | (refine Cw.cond_dec rfl (fun hc => ?_) (fun hc => ?_) <;> try (exfalso; omega)) | refine Cw.cond_bool rfl (fun hc => ?_) (fun hc => ?_)) | refine goR ?_ | refine goP ?_ | apply PSeq.cons | apply PSeq.yes rfl rfl rfl | exact goW | fail)
        all_goals first | (exfalso; omega) | exact ⟨_, _, _, (Ent.mk goSub goTk), ⟨i + 1, rfl, ⟨by omega, hnx⟩, rfl, rfl⟩, by omega⟩
    · have hiD : i = D.size := by omega
      have ho : o = true := hok.2 ⟨⟨h1, by omega, fun h => h3 ⟨h.1.2, h.2⟩⟩, hal2.2 fun j hj => hpre j (by omega)⟩
      obtain ⟨a1, a2⟩ := hat ho
      have a3 := hV ho
      rw [a1, a2] at k1
      rw [ho, a3]
      clear hpre
      repeat' (first | refine goH ?_ | refine goV ?_ | refine goG ?_ | (refine Ops.k_guard ?_; first | (refine Ops.guard_dec rfl rfl (fun hc => ?_) (fun hc => ?_) <;> try (exfalso; omega)) | refine Ops.guard_split rfl rfl (fun hc => ?_) (fun hc => ?_)) | refine goI ?_ | (refine Cw.k_cond ?_; first | (refine Cw.cond_dec rfl (fun hc => ?_) (fun hc => ?_) <;> try (exfalso; omega)) | refine Cw.cond_bool rfl (fun hc => ?_) (fun hc => ?_)) | exact OpV.w (OpV.eqlNil rfl) | (refine Ops.k_calla ?_; first | (refine Ops.k_callf 53 ?_; (refine Ops.call k1 (Evs.cons rfl Evs.nil) goPm rfl ?_; rintro r cs' ⟨rfl, rfl⟩))) | refine goR ?_ | refine goP ?_ | apply PSeq.cons | apply PSeq.yes rfl rfl rfl | exact goW | fail)
      exact Fin.ret (Ent.take goTk) (Outs.two rfl rfl rfl) ⟨rfl, rfl⟩
end Lg
end
