/- A part of the proof of a law of this seat: it adds no condition. By an AI agent. -/
import Derived.Shelf.Strings.Search3
import Derived.Shelf.Strings.Prefix
import Derived.Shelf.Strings.Count
import Derived.Test.YtckmbloodnndeaaGreatDoorProg
import Derived.Test.YtckmbloodnndeaaGreatDoorLgMap3
import Derived.Test.YtckmbloodnndeaaGreatDoorBld
section
/-
  DERIVED: THE SHELF's CONTRACTS AT THIS DUMP, IN PLAIN WORDS (tools/lay-plain.mjs out of 'YtckmbloodnndeaaGreatDoorShelf2Raw.lean', which tools/lay-shelf.mjs wrote): THE SAME DECLARATIONS UNDER THE SAME NAMES: 'import', 'namespace', 'open', 'def', 'theorem' AND NOTHING ELSE: no command of the shelf's: FOR A HAND-IN. Each laying: the table of numbers ('.._ren') and one theorem, a field a fact of the dump's own or the kernel's comparison; each contract: ONE APPLICATION.
-/
namespace Go.Proofs
open Go.Shelf
def Tryz.lays143_ren : Go.Shelf.Ren := ⟨fun | 143 => 115 | 219 => 149 | 217 => 180 | 225 => 181 | 224 => 182 | 267 => 183 | 266 => 209 | 314 => 210 | n => n, fun | 9 => 9 | 3 => 3 | 4 => 4 | 5 => 5 | 46 => 215 | 146 => 281 | 51 => 255 | n => n, fun | 1 => 3 | n => n⟩
theorem Tryz.lays143 : Go.Proofs.Lays.n143 Tryz.prog Tryz.lays143_ren := {
  mixed := by kernel_rfl
  f143 := Tryz.func115.trans (congrArg some (by kernel_rfl))
  f217 := Tryz.func180.trans (congrArg some (by kernel_rfl))
  f219 := Tryz.func149.trans (congrArg some (by kernel_rfl))
  f224 := Tryz.func182.trans (congrArg some (by kernel_rfl))
  f225 := Tryz.func181.trans (congrArg some (by kernel_rfl))
  f266 := Tryz.func209.trans (congrArg some (by kernel_rfl))
  f267 := Tryz.func183.trans (congrArg some (by kernel_rfl))
  f314 := Tryz.func210.trans (congrArg some (by kernel_rfl))
  t3 := Tryz.underlying3
  a3 := Tryz.isAgg3
  z3 := Tryz.sizeOf3
  v3 := Tryz.zeroValue3
  t4 := Tryz.underlying4
  a4 := Tryz.isAgg4
  z4 := Tryz.sizeOf4
  v4 := Tryz.zeroValue4
  t5 := Tryz.underlying5
  a5 := Tryz.isAgg5
  z5 := Tryz.sizeOf5
  v5 := Tryz.zeroValue5
  t9 := Tryz.underlying9
  a9 := Tryz.isAgg9
  z9 := Tryz.sizeOf9
  v9 := Tryz.zeroValue9
  t46 := Tryz.underlying215
  a46 := Tryz.isAgg215
  z46 := Tryz.sizeOf215
  v46 := Tryz.zeroValue215
  t51 := Tryz.underlying255
  a51 := Tryz.isAgg255
  z51 := Tryz.sizeOf255
  v51 := Tryz.zeroValue255
  t146 := Tryz.underlying281
  a146 := Tryz.isAgg281
  z146 := Tryz.sizeOf281
  v146 := Tryz.zeroValue281
  g1 := by kernel_rfl }
def Tryz.lays138_ren : Go.Shelf.Ren := ⟨fun | 138 => 151 | 195 => 184 | 218 => 185 | 143 => 115 | 219 => 149 | 217 => 180 | 225 => 181 | 224 => 182 | 267 => 183 | 266 => 209 | 314 => 210 | n => n, fun | 9 => 9 | 3 => 3 | 4 => 4 | 5 => 5 | 0 => 0 | 46 => 215 | 146 => 281 | 51 => 255 | n => n, fun | 1 => 3 | n => n⟩
theorem Tryz.lays138 : Go.Proofs.Lays.n138 Tryz.prog Tryz.lays138_ren := {
  mixed := by kernel_rfl
  f138 := Tryz.func151.trans (congrArg some (by kernel_rfl))
  f143 := Tryz.func115.trans (congrArg some (by kernel_rfl))
  f195 := Tryz.func184.trans (congrArg some (by kernel_rfl))
  f217 := Tryz.func180.trans (congrArg some (by kernel_rfl))
  f218 := Tryz.func185.trans (congrArg some (by kernel_rfl))
  f219 := Tryz.func149.trans (congrArg some (by kernel_rfl))
  f224 := Tryz.func182.trans (congrArg some (by kernel_rfl))
  f225 := Tryz.func181.trans (congrArg some (by kernel_rfl))
  f266 := Tryz.func209.trans (congrArg some (by kernel_rfl))
  f267 := Tryz.func183.trans (congrArg some (by kernel_rfl))
  f314 := Tryz.func210.trans (congrArg some (by kernel_rfl))
  t0 := Tryz.underlying0
  a0 := Tryz.isAgg0
  z0 := Tryz.sizeOf0
  v0 := Tryz.zeroValue0
  t3 := Tryz.underlying3
  a3 := Tryz.isAgg3
  z3 := Tryz.sizeOf3
  v3 := Tryz.zeroValue3
  t4 := Tryz.underlying4
  a4 := Tryz.isAgg4
  z4 := Tryz.sizeOf4
  v4 := Tryz.zeroValue4
  t5 := Tryz.underlying5
  a5 := Tryz.isAgg5
  z5 := Tryz.sizeOf5
  v5 := Tryz.zeroValue5
  t9 := Tryz.underlying9
  a9 := Tryz.isAgg9
  z9 := Tryz.sizeOf9
  v9 := Tryz.zeroValue9
  t46 := Tryz.underlying215
  a46 := Tryz.isAgg215
  z46 := Tryz.sizeOf215
  v46 := Tryz.zeroValue215
  t51 := Tryz.underlying255
  a51 := Tryz.isAgg255
  z51 := Tryz.sizeOf255
  v51 := Tryz.zeroValue255
  t146 := Tryz.underlying281
  a146 := Tryz.isAgg281
  z146 := Tryz.sizeOf281
  v146 := Tryz.zeroValue281
  g1 := by kernel_rfl }
end Go.Proofs
end
section
set_option linter.all false
set_option maxRecDepth 100000
set_option maxHeartbeats 4000000
namespace Lg
open Go Go.Proofs

/-! ### strings.Index, Count, Split and Cut at a separator of one byte -/
theorem index1_fn (s : ByteArray) (c : UInt8) : PFn Tryz.prog 115 [.str s, .str ⟨#[c]⟩] (· = .int (Lib.indexByte s.data.toList c)) := by
  refine PFn.of_calls (args := [.string s, .string ⟨#[c]⟩]) (fun vs w => rfl) (fun w => ?_)
  refine (Any.strings_Index_one Tryz.lays143 s c w).mono ?_
  rintro e w' ⟨rfl, rfl⟩
  exact ⟨rfl, Go.RowKit.Below.refl _ _, fun _ => Nat.le_refl _⟩
theorem count1_fn (s : ByteArray) (c : UInt8) : PFn Tryz.prog 151 [.str s, .str ⟨#[c]⟩] (· = .int ((Lib.countByte s.data.toList c : Nat) : Int)) := by
  refine PFn.of_calls (args := [.string s, .string ⟨#[c]⟩]) (fun vs w => rfl) (fun w => ?_)
  refine (Any.strings_Count_one Tryz.lays138 s c w).mono ?_
  rintro e w' ⟨rfl, rfl⟩
  exact ⟨rfl, Go.RowKit.Below.refl _ _, fun _ => Nat.le_refl _⟩
theorem one_ne (c : UInt8) : ¬ (⟨#[c]⟩ : ByteArray) = ⟨#[]⟩ := by
  intro h
  have := congrArg ByteArray.size h
  cases this
theorem idx_lt {s : ByteArray} {c : UInt8} {m : Nat} (h : Lib.indexByte s.data.toList c = (m : Int)) : m < s.size := (splS_some h).2
theorem splR_set (d : List ByteArray) (n : Nat) (z : List Tr) (x : ByteArray) : (strRows d ++ List.replicate (n + 1) z).set d.length [Tr.str x] = strRows (d ++ [x]) ++ List.replicate n z := by
  rw [List.set_append_right _ _ (by rw [strRows_len]; exact Nat.le_refl _), strRows_len, Nat.sub_self, List.replicate_succ, List.set_cons_zero, strRows_app, List.append_assoc]
  rfl
theorem splR_at (d : List ByteArray) (n : Nat) (z : List Tr) : (strRows d ++ List.replicate (n + 1) z)[d.length]? = some z := by
  rw [List.getElem?_append_right (by rw [strRows_len]; exact Nat.le_refl _), strRows_len, Nat.sub_self, List.replicate_succ]
  rfl
theorem splR_len (d : List ByteArray) (n : Nat) (z : List Tr) : (strRows d ++ List.replicate n z).length = d.length + n := by
  rw [List.length_append, strRows_len, List.length_replicate]
theorem genSplit1_fn (s0 : ByteArray) (hs : s0.size ≤ 1000000000) (c : UInt8) : PFn Tryz.prog 117 [.str s0, .str ⟨#[c]⟩, .int 0, .int (-1)] (· = .strs (splS c s0)) := by
  have kC := count1_fn s0 c
  have hle := countByte_le s0.data.toList c
  have hsl := str_list s0
  have hlen := splS_len c s0
  generalize Lib.countByte s0.data.toList c = N at *
  have hmin : min ((N : Int) + 1) ((s0.size : Int) + 1) = ((N + 1 : Nat) : Int) := by omega
  have hsub : ((N + 1 : Nat) : Int) - 1 = (N : Int) := by omega
  have hne := one_ne c
  have h1 : ByteArray.size ⟨#[c]⟩ = 1 := rfl
  refine PFn.mk (Spec.body Tryz.func117 rfl rfl (Tryz.ntmps117) rfl fun w0 own0 M => ?_)
  repeat' (first | refine goH ?_ | (refine Ops.k_c_min ?_; first | (refine Ops.min2 rfl rfl rfl ?_; rw [hmin])) | (refine Ops.k_makeSlice ?_; first | (refine Ops.makeSlice rfl rfl (by omega) (by omega) (by omega) rfl (fun ad cap => ?_); rw [Int.toNat_natCast, show List.map Tr.raw [Value.string ByteArray.empty] = [Tr.str ⟨#[]⟩] from rfl])) | (refine Ops.k_b_sub ?_; first | (refine Ops.sub rfl rfl (by omega) rfl ?_; rw [hsub])) | refine goV ?_ | refine goC (fun ad cap => ?_) | refine goI ?_ | (refine Cw.k_cond ?_; first | (refine Cw.cond_dec rfl (fun hc => ?_) (fun hc => ?_) <;> try (exfalso; omega)) | refine Cw.cond_bool rfl (fun hc => ?_) (fun hc => ?_)) | (refine Ops.k_calla ?_; first | (refine Ops.k_callf 151 ?_; refine Ops.callV kC (Evs.cons rfl (Evs.cons rfl Evs.nil)) rfl ?_)) | fail)
  refine Cw.loopI [(1, _), (2, _), (3, _), (9, _)] _ (fun q e cc => ∃ (i : Nat) (s : ByteArray) (d : List ByteArray) (rows : List (List Tr)), q = N - i ∧ (i ≤ N ∧ d.length = i ∧ s.size ≤ s0.size ∧ splS c s0 = d ++ splS c s ∧ rows = strRows d ++ List.replicate (N + 1 - i) [Tr.str ⟨#[]⟩] ∧ rows.length = N + 1) ∧ e = [(0, .str s), (10, .int i)] ∧ cc = [Chunk.own ad cap 1 9 rows])
    ⟨_, _, _, (Ent.mkP goSub goPm), 0, s0, [], _, rfl, ⟨by omega, rfl, by omega, rfl, by simp [strRows], by simp⟩, rfl, rfl⟩ ?_
  clear kC
  rintro _ _ _ ⟨i, s, d, rows, rfl, ⟨hi, hd, hss, hsp, hrows, hrl⟩, rfl, rfl⟩
  have hln2 := splS_len c s
  have hl3 : N + 1 = d.length + (splS c s).length := by rw [← hlen, hsp, List.length_append]
  have hat : rows[(i : Int).toNat]? = some [Tr.str ⟨#[]⟩] := by
    rw [hrows, Int.toNat_natCast, ← hd, show N + 1 - d.length = (N - d.length) + 1 by omega]
    exact splR_at _ _ _
  have hset : ∀ x : ByteArray, rows.set (i : Int).toNat [Tr.str x] = strRows (d ++ [x]) ++ List.replicate (N + 1 - (i + 1)) [Tr.str ⟨#[]⟩] := fun x => by
    rw [hrows, Int.toNat_natCast, ← hd, show N + 1 - d.length = (N - d.length) + 1 by omega, show N + 1 - (d.length + 1) = N - d.length by omega]
    exact splR_set _ _ _ _
  have hsl2 : ∀ x : ByteArray, (strRows (d ++ [x]) ++ List.replicate (N + 1 - (i + 1)) [Tr.str ⟨#[]⟩]).length = N + 1 := fun x => by rw [splR_len, List.length_append]; simp; omega
  have hdl : ∀ x : ByteArray, (d ++ [x]).length = i + 1 := fun x => by rw [List.length_append, hd]; rfl
  have kI := index1_fn s c
  clear hrows hlen
  rcases idx_cases s.data.toList c with h | ⟨m, h⟩
  · have h2 := splS_none h
    rw [h2] at hsp hl3
    simp only [List.length_cons, List.length_nil] at hl3
    have hiN : i = N := by omega
    subst hiN
    have e1 := hset s
    rw [show i + 1 - (i + 1) = 0 by omega, List.replicate_zero, List.append_nil, ← hsp] at e1
    have hle : (strRows (splS c s0)).length = i + 1 := by rw [hsp, strRows_len]; exact hdl s
    generalize hZ : strRows (splS c s0) = Z at *
    clear hset hsl2 hdl
    repeat' (first | refine goH ?_ | (refine Ops.k_store ?_; first | (refine Ops.store_own1 rfl rfl goPk (by first | rfl | assumption | (simp [*]; done)) (by decide) ?_; erw [e1])) | refine goV ?_ | refine goC (fun ad cap => ?_) | refine goI ?_ | (refine Cw.k_cond ?_; first | (refine Cw.cond_dec rfl (fun hc => ?_) (fun hc => ?_) <;> try (exfalso; omega)) | refine Cw.cond_bool rfl (fun hc => ?_) (fun hc => ?_)) | fail)
    rw [show List.take ((i : Int) + 1).toNat Z = Z from List.take_of_length_le (by omega)]
    refine Fin.ret (Ent.trans (Ent.settle (s := 8) rfl goPk rfl) (Ent.take goTk)) (Outs.sole rfl goOe) ⟨rfl, congrArg (Tr.sl 1) hZ.symm⟩
  · have h2 := (splS_some h).1
    have hm := idx_lt h
    rw [h] at kI
    rw [h2, List.length_cons] at hl3
    have hne2 := splS_len c (s.extract (m + 1) s.size)
    have e1 := hset (s.extract 0 m)
    have e2 : ((m : Int) + 0).toNat = m := by omega
    have e3 : ((m : Int) + ((⟨#[c]⟩ : ByteArray).size : Int)).toNat = m + 1 := by rw [h1]; omega
    have hz : (s.extract (m + 1) s.size).size ≤ s0.size := by rw [ByteArray.size_extract]; omega
    have hlt := hsl2 (s.extract 0 m)
    repeat' (first | refine goH ?_ | (refine Ops.k_slice ?_; first | (first | (refine Ops.sliceS_h rfl rfl rfl (by omega) rfl ?_; rw [e2]) | (refine Ops.sliceS_l rfl rfl rfl (by omega) rfl ?_; rw [e3]))) | (refine Ops.k_store ?_; first | (refine Ops.store_own1 rfl rfl goPk (by first | rfl | assumption | (simp [*]; done)) (by decide) ?_; erw [e1])) | refine goV ?_ | refine goC (fun ad cap => ?_) | refine goI ?_ | (refine Cw.k_cond ?_; first | (refine Cw.cond_dec rfl (fun hc => ?_) (fun hc => ?_) <;> try (exfalso; omega)) | refine Cw.cond_bool rfl (fun hc => ?_) (fun hc => ?_)) | (refine Ops.k_calla ?_; first | (refine Ops.k_callf 115 ?_; refine Ops.callV kI (Evs.cons rfl (Evs.cons rfl Evs.nil)) rfl ?_)) | fail)
    exact ⟨_, _, _, (Ent.mk goSub goTk), ⟨i + 1, _, d ++ [s.extract 0 m], _, rfl, ⟨by omega, hdl _, hz, by rw [hsp, h2, List.append_assoc]; rfl, rfl, hlt⟩, rfl, rfl⟩, by omega⟩
theorem split1_fn (s : ByteArray) (hs : s.size ≤ 1000000000) (c : UInt8) : PFn Tryz.prog 93 [.str s, .str ⟨#[c]⟩] (· = .strs (splS c s)) := by
  have k := genSplit1_fn s hs c
  refine PFn.mk (Spec.body Tryz.func93 rfl rfl (Tryz.ntmps93) rfl fun w0 own0 M => ?_)
  repeat' (first | refine goH ?_ | refine goV ?_ | refine goI ?_ | (refine Cw.k_cond ?_; first | (refine Cw.cond_dec rfl (fun hc => ?_) (fun hc => ?_) <;> try (exfalso; omega)) | refine Cw.cond_bool rfl (fun hc => ?_) (fun hc => ?_)) | (refine Ops.k_calla ?_; first | (refine Ops.k_callf 117 ?_; refine Ops.callV k (Evs.cons rfl (Evs.cons rfl (Evs.cons rfl (Evs.cons rfl Evs.nil)))) rfl ?_)) | fail)
  exact Fin.ret (Ent.take goTk) (Outs.one rfl rfl) ⟨rfl, rfl⟩
end Lg
end
section
set_option linter.all false
set_option maxRecDepth 100000
set_option maxHeartbeats 8000000
namespace Lg
open Go Go.Proofs

/-! ### the console's answer to a line that is no command -/
instance : KeyTy Tryz.prog 9 Value.string := KeyTy.str Tryz.underlying9
instance : TyMap Tryz.prog 156 9 9 (.string ⟨#[]⟩) := ⟨Tryz.underlying156, ⟨_, rfl, rfl⟩⟩
theorem indexNo_fn (xs : List ByteArray) (hx : xs.length ≤ 1000000) (v : ByteArray) (hv : ∀ x ∈ xs, ¬ v = x) : PFn Tryz.prog 118 [.strs xs, .str v] (· = .int (-1)) := by
  refine PFn.mk (Spec.body Tryz.func118 rfl rfl (Tryz.ntmps118) rfl fun w0 own0 M => ?_)
  have hL := strRows_len xs
  repeat' (first | refine goH ?_ | refine goV ?_ | refine goI ?_ | (refine Cw.k_cond ?_; first | (refine Cw.cond_dec rfl (fun hc => ?_) (fun hc => ?_) <;> try (exfalso; omega)) | refine Cw.cond_bool rfl (fun hc => ?_) (fun hc => ?_)) | fail)
  refine Cw.loopI [(0, _), (1, _), (7, _)] _ (fun n e c => ∃ k : Nat, n = xs.length - k ∧ k ≤ xs.length ∧ e = [(8, .int k)] ∧ c = []) ⟨_, _, _, (Ent.mkP goSub goPm), 0, rfl, by omega, rfl, rfl⟩ ?_
  rintro _ _ _ ⟨k, rfl, hk, rfl, rfl⟩
  by_cases hkl : k < xs.length
  · obtain ⟨x, hx⟩ := at_lt hkl
    have hrow := strRows_at hx
    have hp := hv x (List.mem_of_getElem? hx)
    repeat' (first | refine goH ?_ | refine goV ?_ | refine goI ?_ | (refine Cw.k_cond ?_; first | (refine Cw.cond_dec rfl (fun hc => ?_) (fun hc => ?_) <;> try (exfalso; omega)) | refine Cw.cond_bool rfl (fun hc => ?_) (fun hc => ?_)) | fail)
    exact ⟨_, _, _, (Ent.mk goSub goTk), ⟨k + 1, rfl, by omega, rfl, rfl⟩, by omega⟩
  · repeat' (first | refine goH ?_ | refine goV ?_ | refine goI ?_ | (refine Cw.k_cond ?_; first | (refine Cw.cond_dec rfl (fun hc => ?_) (fun hc => ?_) <;> try (exfalso; omega)) | refine Cw.cond_bool rfl (fun hc => ?_) (fun hc => ?_)) | fail)
    exact Fin.ret Ent.refl (Outs.one rfl rfl) ⟨rfl, rfl⟩
theorem containsNo_fn (xs : List ByteArray) (hx : xs.length ≤ 1000000) (v : ByteArray) (hv : ∀ x ∈ xs, ¬ v = x) : PFn Tryz.prog 94 [.strs xs, .str v] (· = .bool false) := by
  have k := indexNo_fn xs hx v hv
  refine PFn.mk (Spec.body Tryz.func94 rfl rfl (Tryz.ntmps94) rfl fun w0 own0 M => ?_)
  repeat' (first | refine goH ?_ | refine goV ?_ | refine goI ?_ | (refine Cw.k_cond ?_; first | (refine Cw.cond_dec rfl (fun hc => ?_) (fun hc => ?_) <;> try (exfalso; omega)) | refine Cw.cond_bool rfl (fun hc => ?_) (fun hc => ?_)) | (refine Ops.k_calla ?_; first | (refine Ops.k_callf 118 ?_; refine Ops.callV k (Evs.cons rfl (Evs.cons rfl Evs.nil)) rfl ?_)) | fail)
  exact Fin.ret Ent.refl (Outs.one rfl rfl) ⟨rfl, rfl⟩
theorem hasSuf_fn (A B : ByteArray) (hA : A.size ≤ 1000000) (hB : B.size ≤ A.size) (hu : A.extract ((A.size : Int) - B.size).toNat A.size = B) : PFn Tryz.prog 116 [.str A, .str B] (· = .bool true) := by
  refine PFn.mk (Spec.body Tryz.func116 rfl rfl (Tryz.ntmps116) rfl fun w0 own0 M => ?_)
  repeat' (first | refine goH ?_ | (refine Ops.k_slice ?_; first | (refine Ops.sliceS_l rfl rfl rfl (by omega) rfl ?_; rw [hu])) | (refine Ops.k_b_eql ?_; first | (refine Ops.val' rfl (OpV.eqlS_t rfl rfl rfl) ?_)) | refine goV ?_ | refine goG ?_ | (refine Ops.k_guard ?_; first | (refine Ops.guard_dec rfl rfl (fun hc => ?_) (fun hc => ?_) <;> try (exfalso; omega)) | refine Ops.guard_split rfl rfl (fun hc => ?_) (fun hc => ?_)) | refine goI ?_ | (refine Cw.k_cond ?_; first | (refine Cw.cond_dec rfl (fun hc => ?_) (fun hc => ?_) <;> try (exfalso; omega)) | refine Cw.cond_bool rfl (fun hc => ?_) (fun hc => ?_)) | fail)
  exact Fin.ret Ent.refl (Outs.one rfl rfl) ⟨rfl, rfl⟩
theorem trimSufL_fn (A B D : ByteArray) (hA : A.size ≤ 1000000) (hB : B.size ≤ A.size) (hu : A.extract ((A.size : Int) - B.size).toNat A.size = B) (hd : A.extract 0 ((A.size : Int) - B.size).toNat = D) : PFn Tryz.prog 92 [.str A, .str B] (· = .str D) := by
  have k := hasSuf_fn A B hA hB hu
  refine PFn.mk (Spec.body Tryz.func92 rfl rfl (Tryz.ntmps92) rfl fun w0 own0 M => ?_)
  repeat' (first | refine goH ?_ | (refine Ops.k_slice ?_; first | (refine Ops.sliceS_h rfl rfl rfl (by omega) rfl ?_; rw [hd])) | refine goV ?_ | refine goI ?_ | (refine Cw.k_cond ?_; first | (refine Cw.cond_dec rfl (fun hc => ?_) (fun hc => ?_) <;> try (exfalso; omega)) | refine Cw.cond_bool rfl (fun hc => ?_) (fun hc => ?_)) | (refine Ops.k_calla ?_; first | (refine Ops.k_callf 116 ?_; refine Ops.callV k (Evs.cons rfl (Evs.cons rfl Evs.nil)) rfl ?_)) | fail)
  exact Fin.ret Ent.refl (Outs.one rfl rfl) ⟨rfl, rfl⟩
theorem trimSuf_fn (A B D : ByteArray) (hA : A.size ≤ 1000000) (hB : B.size ≤ A.size) (hu : A.extract ((A.size : Int) - B.size).toNat A.size = B) (hd : A.extract 0 ((A.size : Int) - B.size).toNat = D) : PFn Tryz.prog 72 [.str A, .str B] (· = .str D) := by
  have k := trimSufL_fn A B D hA hB hu hd
  refine PFn.mk (Spec.body Tryz.func72 rfl rfl (Tryz.ntmps72) rfl fun w0 own0 M => ?_)
  repeat' (first | refine goH ?_ | refine goV ?_ | refine goI ?_ | (refine Cw.k_cond ?_; first | (refine Cw.cond_dec rfl (fun hc => ?_) (fun hc => ?_) <;> try (exfalso; omega)) | refine Cw.cond_bool rfl (fun hc => ?_) (fun hc => ?_)) | (refine Ops.k_calla ?_; first | (refine Ops.k_callf 92 ?_; refine Ops.callV k (Evs.cons rfl (Evs.cons rfl Evs.nil)) rfl ?_)) | fail)
  exact Fin.ret Ent.refl (Outs.one rfl rfl) ⟨rfl, rfl⟩
theorem itoa9_fn : PFn Tryz.prog 70 [.int 9] (· = .str ⟨#[57]⟩) := by
  have k1 : PFn Tryz.prog 144 [.int 9] (· = .str ⟨#[57]⟩) := by
    refine PFn.mk (Spec.body Tryz.func144 rfl rfl (Tryz.ntmps144) rfl fun w0 own0 M => ?_)
    repeat' (first | refine goH ?_ | (refine Ops.k_slice ?_; first | (refine Ops.sliceS_lh rfl rfl rfl rfl (by decide) rfl ?_)) | refine goV ?_ | refine goI ?_ | (refine Cw.k_cond ?_; first | (refine Cw.cond_dec rfl (fun hc => ?_) (fun hc => ?_) <;> try (exfalso; omega)) | refine Cw.cond_bool rfl (fun hc => ?_) (fun hc => ?_)) | fail)
    exact Fin.ret Ent.refl (Outs.one rfl rfl) ⟨rfl, congrArg Tr.str (by decide +kernel)⟩
  have k2 : PFn Tryz.prog 112 [.int 9, .int 10] (· = .str ⟨#[57]⟩) := by
    refine PFn.mk (Spec.body Tryz.func112 rfl rfl (Tryz.ntmps112) rfl fun w0 own0 M => ?_)
    repeat' (first | refine goH ?_ | refine goV ?_ | refine goB (fun b => ?_) | refine goG ?_ | (refine Ops.k_guard ?_; first | (refine Ops.guard_dec rfl rfl (fun hc => ?_) (fun hc => ?_) <;> try (exfalso; omega)) | refine Ops.guard_split rfl rfl (fun hc => ?_) (fun hc => ?_)) | refine goI ?_ | (refine Cw.k_cond ?_; first | (refine Cw.cond_dec rfl (fun hc => ?_) (fun hc => ?_) <;> try (exfalso; omega)) | refine Cw.cond_bool rfl (fun hc => ?_) (fun hc => ?_)) | (refine Ops.k_calla ?_; first | (refine Ops.k_callf 144 ?_; refine Ops.callV k1 (Evs.cons rfl Evs.nil) rfl ?_)) | fail)
    exact Fin.ret Ent.refl (Outs.one rfl rfl) ⟨rfl, rfl⟩
  have k3 : PFn Tryz.prog 90 [.int 9] (· = .str ⟨#[57]⟩) := by
    refine PFn.mk (Spec.body Tryz.func90 rfl rfl (Tryz.ntmps90) rfl fun w0 own0 M => ?_)
    repeat' (first | refine goH ?_ | refine goV ?_ | refine goI ?_ | (refine Cw.k_cond ?_; first | (refine Cw.cond_dec rfl (fun hc => ?_) (fun hc => ?_) <;> try (exfalso; omega)) | refine Cw.cond_bool rfl (fun hc => ?_) (fun hc => ?_)) | (refine Ops.k_calla ?_; first | (refine Ops.k_callf 112 ?_; refine Ops.callV k2 (Evs.cons rfl (Evs.cons rfl Evs.nil)) rfl ?_)) | fail)
    exact Fin.ret Ent.refl (Outs.one rfl rfl) ⟨rfl, rfl⟩
  refine PFn.mk (Spec.body Tryz.func70 rfl rfl (Tryz.ntmps70) rfl fun w0 own0 M => ?_)
  repeat' (first | refine goH ?_ | refine goV ?_ | refine goI ?_ | (refine Cw.k_cond ?_; first | (refine Cw.cond_dec rfl (fun hc => ?_) (fun hc => ?_) <;> try (exfalso; omega)) | refine Cw.cond_bool rfl (fun hc => ?_) (fun hc => ?_)) | (refine Ops.k_calla ?_; first | (refine Ops.k_callf 90 ?_; refine Ops.callV k3 (Evs.cons rfl Evs.nil) rfl ?_)) | fail)
  exact Fin.ret Ent.refl (Outs.one rfl rfl) ⟨rfl, rfl⟩
theorem run_hello (c : Nat) (H : ByteArray) (hH : H = ⟨#[104, 101, 108, 108, 111]⟩) : PFn Tryz.prog 73 [.ptr c, .str H] (· = .tup [.str ⟨#[]⟩, .int 9]) := by
  have hsz : H.size ≤ 1000000000 := by rw [hH]; decide
  have k1 := split1_fn H hsz 32
  have hsp : splS 32 H = [H] := splS_none (by rw [hH]; decide +kernel)
  rw [hsp] at k1
  have k2 := containsNo_fn [H] (by simp) ⟨#[]⟩ (by rw [hH]; decide)
  have h0 : (strRows [H])[(0 : Int).toNat]? = some [.str H] := strRows_at rfl
  have hl : (strRows [H]).length = 1 := rfl
  have hw : ¬ H = ⟨#[119, 97, 108, 108, 101, 116]⟩ := by rw [hH]; decide
  refine PFn.mk ?_
  refine Spec.body Tryz.func73 rfl rfl (Tryz.ntmps73) rfl fun w0 own0 M => ?_
  repeat' (first | refine goH ?_ | (refine Ops.k_b_eql ?_; first | (refine Ops.val' rfl (OpV.eqlS_f rfl rfl hw) ?_)) | (refine Ops.k_makeMap ?_; first | (refine Ops.makeMap Value.string rfl (fun bm => ?_))) | ((fail_if_success refine Ops.k_lookup ?_); (fail_if_success refine Ops.k_lookupOk ?_); refine goV ?_) | ((fail_if_success refine Ops.k_lookup ?_); (fail_if_success refine Ops.k_lookupOk ?_); refine goC (fun ad cap => ?_)) | refine goG ?_ | (refine Ops.k_guard ?_; first | (refine Ops.guard_dec rfl rfl (fun hc => ?_) (fun hc => ?_) <;> try (exfalso; omega)) | refine Ops.guard_split rfl rfl (fun hc => ?_) (fun hc => ?_)) | refine goI ?_ | (refine Cw.k_cond ?_; first | (refine Cw.cond_dec rfl (fun hc => ?_) (fun hc => ?_) <;> try (exfalso; omega)) | refine Cw.cond_bool rfl (fun hc => ?_) (fun hc => ?_)) | (refine Ops.insertM rfl rfl rfl goPk ?_) | (refine Ops.k_calla ?_; first | (refine Ops.k_callf 93 ?_; refine Ops.callV k1 (Evs.cons rfl (Evs.cons rfl Evs.nil)) rfl ?_) | (refine Ops.k_callf 94 ?_; refine Ops.callV k2 (Evs.cons rfl (Evs.cons rfl Evs.nil)) rfl ?_)) | (apply OpW.k_call; first | (apply OpW.k_callf 93; exact OpW.callV k1 (Evs.cons rfl (Evs.cons rfl Evs.nil))) | (apply OpW.k_callf 94; exact OpW.callV k2 (Evs.cons rfl (Evs.cons rfl Evs.nil)))) | refine goR ?_ | refine goP ?_ | apply PSeq.cons | apply PSeq.yes rfl rfl rfl | exact goW | fail)
  refine Ops.lookupOk rfl rfl goPk rfl ?_
  generalize hmg : mget H _ = mg
  obtain rfl : mg = none := by rw [← hmg, hH]; rfl
  clear hmg
  repeat' (first | refine goH ?_ | refine goV ?_ | refine goC (fun ad cap => ?_) | refine goG ?_ | (refine Ops.k_guard ?_; first | (refine Ops.guard_dec rfl rfl (fun hc => ?_) (fun hc => ?_) <;> try (exfalso; omega)) | refine Ops.guard_split rfl rfl (fun hc => ?_) (fun hc => ?_)) | refine goI ?_ | (refine Cw.k_cond ?_; first | (refine Cw.cond_dec rfl (fun hc => ?_) (fun hc => ?_) <;> try (exfalso; omega)) | refine Cw.cond_bool rfl (fun hc => ?_) (fun hc => ?_)) | refine goR ?_ | refine goP ?_ | apply PSeq.cons | apply PSeq.yes rfl rfl rfl | exact goW | fail)
  exact Fin.ret (Ent.take goTk) (Outs.many rfl (OutL.cons goOe (OutL.cons goOe OutL.nil)) rfl) ⟨rfl, rfl⟩
theorem splitSeqL_fn (s sep : ByteArray) : Spec Tryz.prog 91 [.str s, .str sep, .int 0] [] (fun r cs => ∃ b1 b2 b3, r = Tr.raw (.func (.func 113) #[] #[.pointer (some ⟨b2, 0, none⟩), .pointer (some ⟨b1, 0, none⟩), .pointer (some ⟨b3, 0, none⟩)]) ∧ cs = [Chunk.box b3 3 [.int 0], Chunk.box b2 9 [.str sep], Chunk.box b1 9 [.str s]]) := by
  refine Spec.body Tryz.func91 rfl rfl (Tryz.ntmps91) rfl fun w0 own0 M => ?_
  repeat' (first | refine goH ?_ | refine goV ?_ | refine goB (fun b => ?_) | refine goI ?_ | (refine Cw.k_cond ?_; first | (refine Cw.cond_dec rfl (fun hc => ?_) (fun hc => ?_) <;> try (exfalso; omega)) | refine Cw.cond_bool rfl (fun hc => ?_) (fun hc => ?_)) | fail)
  exact Fin.ret (Ent.take goTk) (Outs.one rfl rfl) ⟨_, _, _, rfl, rfl⟩
theorem splitSeq_fn (s sep : ByteArray) : Spec Tryz.prog 71 [.str s, .str sep] [] (fun r cs => ∃ b1 b2 b3, r = Tr.raw (.func (.func 113) #[] #[.pointer (some ⟨b2, 0, none⟩), .pointer (some ⟨b1, 0, none⟩), .pointer (some ⟨b3, 0, none⟩)]) ∧ cs = [Chunk.box b3 3 [.int 0], Chunk.box b2 9 [.str sep], Chunk.box b1 9 [.str s]]) := by
  have k := splitSeqL_fn s sep
  refine Spec.body Tryz.func71 rfl rfl (Tryz.ntmps71) rfl fun w0 own0 M => ?_
  repeat' (first | refine goH ?_ | refine goV ?_ | refine goI ?_ | (refine Cw.k_cond ?_; first | (refine Cw.cond_dec rfl (fun hc => ?_) (fun hc => ?_) <;> try (exfalso; omega)) | refine Cw.cond_bool rfl (fun hc => ?_) (fun hc => ?_)) | (refine Ops.k_calla ?_; first | (refine Ops.k_callf 91 ?_; (refine Ops.call k (Evs.cons rfl (Evs.cons rfl (Evs.cons rfl Evs.nil))) goPm rfl ?_; rintro r cs' ⟨b1, b2, b3, rfl, rfl⟩))) | fail)
  exact Fin.ret (Ent.take goTk) (Outs.one rfl rfl) ⟨_, _, _, rfl, rfl⟩
theorem splitSeq_iter (s : ByteArray) (c : UInt8) (hi : Lib.indexByte s.data.toList c = -1) (b1 b2 b3 : Nat) : IterSpec Tryz.prog 113 [.pointer (some ⟨b2, 0, none⟩), .pointer (some ⟨b1, 0, none⟩), .pointer (some ⟨b3, 0, none⟩)] [Chunk.box b3 3 [.int 0], Chunk.box b2 9 [.str ⟨#[c]⟩], Chunk.box b1 9 [.str s]] [Chunk.box b3 3 [.int 0], Chunk.box b2 9 [.str ⟨#[c]⟩], Chunk.box b1 9 [.str s]] [[.str s]] := by
  unfold IterSpec
  intro lp J Jx hY c0 h0
  have hy := hY 0 _ c0 rfl h0
  have ki := index1_fn s c
  rw [hi] at ki
  have h1 : (⟨#[c]⟩ : ByteArray).size = 1 := rfl
  refine Spec.body Tryz.func113 rfl rfl (Tryz.ntmps113) rfl fun w0 own0 M => ?_
  repeat' (first | refine goH ?_ | refine goV ?_ | refine goI ?_ | (refine Cw.k_cond ?_; first | (refine Cw.cond_dec rfl (fun hc => ?_) (fun hc => ?_) <;> try (exfalso; omega)) | refine Cw.cond_bool rfl (fun hc => ?_) (fun hc => ?_)) | fail)
  refine Cw.loopI [(0, _), (1, _), (2, _), (3, _)] _ (fun q e cc => q = 0 ∧ e = [] ∧ cc = [c0, Chunk.box b3 3 [.int 0], Chunk.box b2 9 [.str ⟨#[c]⟩], Chunk.box b1 9 [.str s]]) ⟨_, _, _, (Ent.mkP goSub goPm), rfl, rfl, rfl⟩ ?_
  rintro _ _ _ ⟨rfl, rfl, rfl⟩
  repeat' (first | refine goH ?_ | refine goV ?_ | refine goI ?_ | (refine Cw.k_cond ?_; first | (refine Cw.cond_dec rfl (fun hc => ?_) (fun hc => ?_) <;> try (exfalso; omega)) | refine Cw.cond_bool rfl (fun hc => ?_) (fun hc => ?_)) | (refine Ops.k_calla ?_; first | (refine Ops.k_callf 115 ?_; refine Ops.callV ki (Evs.cons rfl (Evs.cons rfl Evs.nil)) rfl ?_) | (refine Ops.callY rfl hy (Evs.cons rfl Evs.nil) goPm rfl ?_; rintro r cs' (⟨rfl, c', hc', rfl⟩ | ⟨rfl, c', hc', rfl⟩))) | fail)
  · exact Fin.norm (Ent.take goTk) (Outs.zero rfl) (.inl ⟨c', hc', rfl⟩)
  · exact Fin.norm (Ent.take goTk) (Outs.zero rfl) (.inr ⟨c', hc', rfl⟩)
theorem session_hello : PFn Tryz.prog 33 [.str ⟨#[104, 101, 108, 108, 111, 10]⟩] (· = .str ⟨#[101, 114, 114, 111, 114, 32, 57, 10]⟩) := by
  obtain ⟨A, hA⟩ : ∃ A, A = (⟨#[104, 101, 108, 108, 111, 10]⟩ : ByteArray) := ⟨_, rfl⟩
  obtain ⟨H, hH⟩ : ∃ H, H = (⟨#[104, 101, 108, 108, 111]⟩ : ByteArray) := ⟨_, rfl⟩
  have hAz : A.size = 6 := by rw [hA]; rfl
  have hHz : H.size = 5 := by rw [hH]; rfl
  have hA0 : ¬ A = ⟨#[]⟩ := by rw [hA]; decide
  have hH0 : ¬ H = ⟨#[]⟩ := by rw [hH]; decide
  have kt := trimSuf_fn A ⟨#[10]⟩ H (by omega) (by rw [hA]; decide) (by rw [hA]; decide +kernel) (by rw [hA, hH]; decide +kernel)
  have kr := fun c => run_hello c H hH
  have ki := itoa9_fn
  have hidx : Lib.indexByte H.data.toList 10 = -1 := by rw [hH]; decide +kernel
  have hres : (⟨#[101, 114, 114, 111, 114, 32]⟩ : ByteArray) ++ ⟨#[57]⟩ ++ ⟨#[10]⟩ = ⟨#[101, 114, 114, 111, 114, 32, 57, 10]⟩ := by decide +kernel
  rw [← hA]
  clear hA hH
  refine PFn.mk ?_
  refine Spec.bodyF Tryz.func33 rfl rfl (Tryz.ntmps33) rfl fun w0 own0 M => ?_
  refine CwF.seq rfl ?_
  repeat' (first | refine goH ?_ | refine goV ?_ | refine goB (fun b => ?_) | refine goI ?_ | (refine Cw.k_cond ?_; first | (refine Cw.cond_dec rfl (fun hc => ?_) (fun hc => ?_) <;> try (exfalso; omega)) | refine Cw.cond_bool rfl (fun hc => ?_) (fun hc => ?_)) | fail)
  refine CwF.seq rfl ?_
  repeat' (first | refine goH ?_ | refine goV ?_ | refine goB (fun b => ?_) | refine goI ?_ | (refine Cw.k_cond ?_; first | (refine Cw.cond_dec rfl (fun hc => ?_) (fun hc => ?_) <;> try (exfalso; omega)) | refine Cw.cond_bool rfl (fun hc => ?_) (fun hc => ?_)) | fail)
  refine CwF.seq rfl ?_
  repeat' (first | refine goH ?_ | (refine Ops.k_b_eql ?_; first | (refine Ops.val' rfl (OpV.eqlS_f rfl rfl hA0) ?_)) | refine goV ?_ | refine goB (fun b => ?_) | refine goI ?_ | (refine Cw.k_cond ?_; first | (refine Cw.cond_dec rfl (fun hc => ?_) (fun hc => ?_) <;> try (exfalso; omega)) | refine Cw.cond_bool rfl (fun hc => ?_) (fun hc => ?_)) | fail)
  refine CwF.seq rfl ?_
  repeat' (first | refine goH ?_ | refine goV ?_ | refine goB (fun b => ?_) | refine goI ?_ | (refine Cw.k_cond ?_; first | (refine Cw.cond_dec rfl (fun hc => ?_) (fun hc => ?_) <;> try (exfalso; omega)) | refine Cw.cond_bool rfl (fun hc => ?_) (fun hc => ?_)) | fail)
  refine CwF.seq rfl ?_
  repeat' (first | refine goH ?_ | refine goV ?_ | refine goB (fun b => ?_) | refine goI ?_ | (refine Cw.k_cond ?_; first | (refine Cw.cond_dec rfl (fun hc => ?_) (fun hc => ?_) <;> try (exfalso; omega)) | refine Cw.cond_bool rfl (fun hc => ?_) (fun hc => ?_)) | fail)
  rename_i bc bp
  refine CwF.rng (RngOk.ent (Ent.nil 1 5) (RngOk.seq ?_))
  repeat' (first | refine goH ?_ | refine goV ?_ | refine goB (fun b => ?_) | refine goI ?_ | (refine Cw.k_cond ?_; first | (refine Cw.cond_dec rfl (fun hc => ?_) (fun hc => ?_) <;> try (exfalso; omega)) | refine Cw.cond_bool rfl (fun hc => ?_) (fun hc => ?_)) | (refine Ops.k_calla ?_; first | (refine Ops.k_callf 72 ?_; refine Ops.callV kt (Evs.cons rfl (Evs.cons rfl Evs.nil)) rfl ?_) | (refine Ops.k_callf 71 ?_; (refine Ops.call (splitSeq_fn H ⟨#[10]⟩) (Evs.cons rfl (Evs.cons rfl Evs.nil)) goPm rfl ?_; rintro r cs' ⟨b1, b2, b3, rfl, rfl⟩))) | fail)
  refine RngOk.block ?_
  refine RngOk.range (ps := [21]) (I := fun k cs => ∃ (p ad : Option Addr) (cap : Nat) (t : ByteArray), (BldI b p ad cap t ∧ t = (if k = 0 then ⟨#[]⟩ else ⟨#[101, 114, 114, 111, 114, 32, 57, 10]⟩)) ∧ cs = [Chunk.box bp 124 [.ptr bc], bldB b p ad cap t, bldO ad cap t]) (Ix := fun _ _ => False) rfl rfl rfl (splitSeq_iter H 10 hidx b1 b2 b3) ?_ ?_ ⟨none, none, 0, ⟨#[]⟩, ⟨BldI.new b, rfl⟩, rfl⟩ goPm ?_ ?_ ?_ (fun _ _ => ?_)
  · rintro args ha
    rw [List.mem_singleton.1 ha]
    rfl
  · intro p hp
    simp only [List.mem_cons, List.not_mem_nil, or_false] at hp
    show p < 39
    omega
  · rintro lp k args csk hk ⟨p, ad, cap, t, ⟨hI, ht⟩, rfl⟩ w1 own1 M1
    have hk0 : k = 0 := by
      have := (List.getElem?_eq_some_iff.1 hk).1
      simp at this
      exact this
    subst hk0
    cases hk
    rw [if_pos rfl] at ht
    subst ht
    simp only [prm]
    repeat' (first | refine goH ?_ | refine goV ?_ | refine goB (fun b => ?_) | refine goI ?_ | (refine Cw.k_cond ?_; first | (refine Cw.cond_dec rfl (fun hc => ?_) (fun hc => ?_) <;> try (exfalso; omega)) | refine Cw.cond_bool rfl (fun hc => ?_) (fun hc => ?_)) | fail)
    intro w2 own2
    have e1 : (⟨#[101, 114, 114, 111, 114, 32]⟩ : ByteArray).size = 6 := rfl
    have e2 : (⟨#[57]⟩ : ByteArray).size = 1 := rfl
    have e3 : (⟨#[10]⟩ : ByteArray).size = 1 := rfl
    repeat' (first | refine goH ?_ | (refine Ops.k_b_eql ?_; first | (refine Ops.val' rfl (OpV.eqlS_f rfl rfl hH0) ?_)) | (refine Ops.k_b_add ?_; first | (refine Ops.catB rfl rfl (by (try simp only [ByteArray.size_append]); omega) rfl ?_)) | ((fail_if_success refine Ops.k_c_call ?_); refine goV ?_) | ((fail_if_success refine Ops.k_c_call ?_); refine goB (fun b => ?_)) | refine goI ?_ | (refine Cw.k_cond ?_; first | (refine Cw.cond_dec rfl (fun hc => ?_) (fun hc => ?_) <;> try (exfalso; omega)) | refine Cw.cond_bool rfl (fun hc => ?_) (fun hc => ?_)) | (refine Ops.k_calla ?_; first | (refine Ops.k_callf 73 ?_; refine Ops.callV (kr bc) (Evs.cons rfl (Evs.cons rfl Evs.nil)) rfl ?_) | (refine Ops.k_callf 70 ?_; refine Ops.callV ki (Evs.cons rfl Evs.nil) rfl ?_)) | fail)
    rw [hres]
    have kw := writeString_fn hI ⟨#[101, 114, 114, 111, 114, 32, 57, 10]⟩ (by decide)
    repeat' (first | refine goH ?_ | refine goV ?_ | refine goB (fun b => ?_) | refine goI ?_ | (refine Cw.k_cond ?_; first | (refine Cw.cond_dec rfl (fun hc => ?_) (fun hc => ?_) <;> try (exfalso; omega)) | refine Cw.cond_bool rfl (fun hc => ?_) (fun hc => ?_)) | (refine Ops.k_calla ?_; first | (refine Ops.k_callf 74 ?_; (refine Ops.call kw (Evs.cons rfl (Evs.cons rfl Evs.nil)) goPm rfl ?_; rintro r cs' ⟨p2, ad2, cap2, hI2, rfl, rfl⟩))) | fail)
    exact RPost.norm (Ent.mk goSub goTk) ⟨p2, ad2, cap2, _, ⟨hI2, by rw [if_neg (by simp)]; decide +kernel⟩, rfl⟩
  · rintro w1 own1 M1 D csN ⟨p, ad, cap, t, ⟨hI, ht⟩, rfl⟩
    rw [if_neg (by simp)] at ht
    have htz : t.size ≤ 1000000000 := by rw [ht]; decide
    have ks := string_fn hI htz
    repeat' (first | refine goH ?_ | refine goV ?_ | refine goB (fun b => ?_) | refine goI ?_ | (refine Cw.k_cond ?_; first | (refine Cw.cond_dec rfl (fun hc => ?_) (fun hc => ?_) <;> try (exfalso; omega)) | refine Cw.cond_bool rfl (fun hc => ?_) (fun hc => ?_)) | (refine Ops.k_calla ?_; first | (refine Ops.k_callf 75 ?_; (refine Ops.call ks (Evs.cons rfl Evs.nil) goPm rfl ?_; rintro r cs' ⟨rfl, rfl⟩))) | fail)
    exact Fin.ret (Ent.take goTk) (Outs.one rfl rfl) ⟨rfl, congrArg Tr.str ht⟩
  · rintro c csx h
    exact h.elim
  · exact enters_of Tryz.func113 rfl rfl _ _
end Lg
end
