/- A part of the proof of a law of this seat: it adds no condition. By an AI agent. -/
import Derived.Shelf.SlSortCmp.WholeK
import Derived.Shelf.Sort.Plain
import Derived.Shelf.Bits.Mul64
import Derived.Shelf.Slices.Reverse
import Derived.Test.YtpdhfnmjpbiolaaGreatDoorProg
import Derived.Shelf.Slices.In.SortNone
import Derived.Test.YtpdhfnmjpbiolaaGreatDoorLgMap4
import Derived.Test.YtpdhfnmjpbiolaaGreatDoorBk4
section
/-
  DERIVED: THE SHELF's CONTRACTS AT THIS DUMP, IN PLAIN WORDS (tools/lay-plain.mjs out of 'YtpdhfnmjpbiolaaGreatDoorShelf2Raw.lean', which tools/lay-shelf.mjs wrote): THE SAME DECLARATIONS UNDER THE SAME NAMES: 'import', 'namespace', 'open', 'def', 'theorem' AND NOTHING ELSE: no command of the shelf's: FOR A HAND-IN. Each laying: the table of numbers ('.._ren') and one theorem, a field a fact of the dump's own or the kernel's comparison; each contract: ONE APPLICATION.
-/
namespace Go.Proofs
open Go.Shelf
def Tryz.sortInt_ren : Go.Shelf.Ren := ⟨fun | 6 => 32 | 15 => 46 | 14 => 45 | 28 => 63 | 29 => 64 | 20 => 55 | 21 => 56 | 22 => 57 | 23 => 58 | 24 => 59 | 25 => 60 | 26 => 61 | 27 => 62 | 46 => 81 | 47 => 82 | 48 => 83 | 49 => 84 | 50 => 85 | 57 => 93 | n => n, fun | 22 => 22 | 24 => 3 | 25 => 51 | 3 => 3 | 39 => 79 | 0 => 0 | 53 => 88 | 55 => 91 | 4 => 4 | 46 => 96 | 45 => 95 | 50 => 100 | 5 => 5 | 9 => 9 | 66 => 117 | 70 => 121 | 76 => 129 | 77 => 130 | n => n, fun | n => n⟩
theorem Tryz.sortInt : Go.Proofs.SlLaysF.n6 Tryz.prog Tryz.sortInt_ren := {
  mixed := by kernel_rfl
  f6 := ⟨Tryz.f32.name, by decide, Tryz.func32.trans (congrArg some (by kernel_rfl))⟩
  f14 := ⟨Tryz.f45.name, by decide, Tryz.func45.trans (congrArg some (by kernel_rfl))⟩
  f15 := Tryz.func46.trans (congrArg some (by kernel_rfl))
  f20 := ⟨Tryz.f55.name, by decide, Tryz.func55.trans (congrArg some (by kernel_rfl))⟩
  f21 := ⟨Tryz.f56.name, by decide, Tryz.func56.trans (congrArg some (by kernel_rfl))⟩
  f22 := ⟨Tryz.f57.name, by decide, Tryz.func57.trans (congrArg some (by kernel_rfl))⟩
  f23 := ⟨Tryz.f58.name, by decide, Tryz.func58.trans (congrArg some (by kernel_rfl))⟩
  f24 := ⟨Tryz.f59.name, by decide, Tryz.func59.trans (congrArg some (by kernel_rfl))⟩
  f25 := ⟨Tryz.f60.name, by decide, Tryz.func60.trans (congrArg some (by kernel_rfl))⟩
  f26 := ⟨Tryz.f61.name, by decide, Tryz.func61.trans (congrArg some (by kernel_rfl))⟩
  f27 := ⟨Tryz.f62.name, by decide, Tryz.func62.trans (congrArg some (by kernel_rfl))⟩
  f28 := Tryz.func63.trans (congrArg some (by kernel_rfl))
  f29 := Tryz.func64.trans (congrArg some (by kernel_rfl))
  f46 := ⟨Tryz.f81.name, by decide, Tryz.func81.trans (congrArg some (by kernel_rfl))⟩
  f47 := Tryz.func82.trans (congrArg some (by kernel_rfl))
  f48 := Tryz.func83.trans (congrArg some (by kernel_rfl))
  f49 := ⟨Tryz.f84.name, by decide, Tryz.func84.trans (congrArg some (by kernel_rfl))⟩
  f50 := ⟨Tryz.f85.name, by decide, Tryz.func85.trans (congrArg some (by kernel_rfl))⟩
  f57 := ⟨Tryz.f93.name, by decide, Tryz.func93.trans (congrArg some (by kernel_rfl))⟩
  t0 := Tryz.underlying0
  a0 := Tryz.isAgg0
  z0 := Tryz.sizeOf0
  v0 := Tryz.zeroValue0
  t3 := Tryz.underlying3
  a3 := Tryz.isAgg3
  z3 := Tryz.sizeOf3
  v3 := Tryz.zeroValue3
  t4 := Tryz.underlying4
  a4 := Tryz.isAgg4
  z4 := Tryz.sizeOf4
  v4 := Tryz.zeroValue4
  t5 := Tryz.underlying5
  a5 := Tryz.isAgg5
  z5 := Tryz.sizeOf5
  v5 := Tryz.zeroValue5
  t9 := Tryz.underlying9
  a9 := Tryz.isAgg9
  z9 := Tryz.sizeOf9
  v9 := Tryz.zeroValue9
  t22 := Tryz.underlying22
  a22 := Tryz.isAgg22
  z22 := Tryz.sizeOf22
  v22 := Tryz.zeroValue22
  a24 := Tryz.isAgg3
  z24 := Tryz.sizeOf3
  t25 := Tryz.underlying51
  a25 := Tryz.isAgg51
  z25 := Tryz.sizeOf51
  v25 := Tryz.zeroValue51
  t39 := Tryz.underlying79
  a39 := Tryz.isAgg79
  z39 := Tryz.sizeOf79
  v39 := Tryz.zeroValue79
  t45 := Tryz.underlying95
  a45 := Tryz.isAgg95
  z45 := Tryz.sizeOf95
  v45 := Tryz.zeroValue95
  t46 := Tryz.underlying96
  a46 := Tryz.isAgg96
  z46 := Tryz.sizeOf96
  v46 := Tryz.zeroValue96
  t50 := Tryz.underlying100
  a50 := Tryz.isAgg100
  z50 := Tryz.sizeOf100
  v50 := Tryz.zeroValue100
  t53 := Tryz.underlying88
  a53 := Tryz.isAgg88
  z53 := Tryz.sizeOf88
  v53 := Tryz.zeroValue88
  t55 := Tryz.underlying91
  a55 := Tryz.isAgg91
  z55 := Tryz.sizeOf91
  v55 := Tryz.zeroValue91
  t66 := Tryz.underlying117
  a66 := Tryz.isAgg117
  z66 := Tryz.sizeOf117
  v66 := Tryz.zeroValue117
  t70 := Tryz.underlying121
  a70 := Tryz.isAgg121
  z70 := Tryz.sizeOf121
  v70 := Tryz.zeroValue121
  t76 := Tryz.underlying129
  a76 := Tryz.isAgg129
  z76 := Tryz.sizeOf129
  v76 := Tryz.zeroValue129
  t77 := Tryz.underlying130
  a77 := Tryz.isAgg130
  z77 := Tryz.sizeOf130
  v77 := Tryz.zeroValue130 }
def Tryz.lays189_ren : Go.Shelf.Ren := ⟨fun | 189 => 36 | 125 => 46 | 257 => 50 | 128 => 63 | 129 => 64 | 294 => 65 | 295 => 66 | 296 => 67 | 297 => 68 | 298 => 69 | 299 => 70 | 216 => 71 | 300 => 72 | 301 => 73 | 328 => 86 | 329 => 82 | 330 => 83 | 331 => 87 | 332 => 88 | 215 => 47 | 343 => 94 | n => n, fun | 28 => 22 | 3 => 3 | 46 => 79 | 0 => 0 | 51 => 88 | 53 => 91 | 4 => 4 | 183 => 96 | 182 => 95 | 131 => 100 | 5 => 5 | 9 => 9 | 218 => 117 | 222 => 121 | 228 => 129 | 229 => 130 | n => n, fun | n => n⟩
theorem Tryz.lays189 : Go.Proofs.Lays.n189 Tryz.prog Tryz.lays189_ren := {
  mixed := by kernel_rfl
  f125 := Tryz.func46.trans (congrArg some (by kernel_rfl))
  f128 := Tryz.func63.trans (congrArg some (by kernel_rfl))
  f129 := Tryz.func64.trans (congrArg some (by kernel_rfl))
  f189 := Tryz.func36.trans (congrArg some (by kernel_rfl))
  f215 := Tryz.func47.trans (congrArg some (by kernel_rfl))
  f216 := Tryz.func71.trans (congrArg some (by kernel_rfl))
  f257 := Tryz.func50.trans (congrArg some (by kernel_rfl))
  f294 := Tryz.func65.trans (congrArg some (by kernel_rfl))
  f295 := Tryz.func66.trans (congrArg some (by kernel_rfl))
  f296 := Tryz.func67.trans (congrArg some (by kernel_rfl))
  f297 := Tryz.func68.trans (congrArg some (by kernel_rfl))
  f298 := Tryz.func69.trans (congrArg some (by kernel_rfl))
  f299 := Tryz.func70.trans (congrArg some (by kernel_rfl))
  f300 := Tryz.func72.trans (congrArg some (by kernel_rfl))
  f301 := Tryz.func73.trans (congrArg some (by kernel_rfl))
  f328 := Tryz.func86.trans (congrArg some (by kernel_rfl))
  f329 := Tryz.func82.trans (congrArg some (by kernel_rfl))
  f330 := Tryz.func83.trans (congrArg some (by kernel_rfl))
  f331 := Tryz.func87.trans (congrArg some (by kernel_rfl))
  f332 := Tryz.func88.trans (congrArg some (by kernel_rfl))
  f343 := Tryz.func94.trans (congrArg some (by kernel_rfl))
  t0 := Tryz.underlying0
  a0 := Tryz.isAgg0
  z0 := Tryz.sizeOf0
  v0 := Tryz.zeroValue0
  t3 := Tryz.underlying3
  a3 := Tryz.isAgg3
  z3 := Tryz.sizeOf3
  v3 := Tryz.zeroValue3
  t4 := Tryz.underlying4
  a4 := Tryz.isAgg4
  z4 := Tryz.sizeOf4
  v4 := Tryz.zeroValue4
  t5 := Tryz.underlying5
  a5 := Tryz.isAgg5
  z5 := Tryz.sizeOf5
  v5 := Tryz.zeroValue5
  t9 := Tryz.underlying9
  a9 := Tryz.isAgg9
  z9 := Tryz.sizeOf9
  v9 := Tryz.zeroValue9
  t28 := Tryz.underlying22
  a28 := Tryz.isAgg22
  z28 := Tryz.sizeOf22
  v28 := Tryz.zeroValue22
  t46 := Tryz.underlying79
  a46 := Tryz.isAgg79
  z46 := Tryz.sizeOf79
  v46 := Tryz.zeroValue79
  t51 := Tryz.underlying88
  a51 := Tryz.isAgg88
  z51 := Tryz.sizeOf88
  v51 := Tryz.zeroValue88
  t53 := Tryz.underlying91
  a53 := Tryz.isAgg91
  z53 := Tryz.sizeOf91
  v53 := Tryz.zeroValue91
  t131 := Tryz.underlying100
  a131 := Tryz.isAgg100
  z131 := Tryz.sizeOf100
  v131 := Tryz.zeroValue100
  t182 := Tryz.underlying95
  a182 := Tryz.isAgg95
  z182 := Tryz.sizeOf95
  v182 := Tryz.zeroValue95
  t183 := Tryz.underlying96
  a183 := Tryz.isAgg96
  z183 := Tryz.sizeOf96
  v183 := Tryz.zeroValue96
  t218 := Tryz.underlying117
  a218 := Tryz.isAgg117
  z218 := Tryz.sizeOf117
  v218 := Tryz.zeroValue117
  t222 := Tryz.underlying121
  a222 := Tryz.isAgg121
  z222 := Tryz.sizeOf121
  v222 := Tryz.zeroValue121
  t228 := Tryz.underlying129
  a228 := Tryz.isAgg129
  z228 := Tryz.sizeOf129
  v228 := Tryz.zeroValue129
  t229 := Tryz.underlying130
  a229 := Tryz.isAgg130
  z229 := Tryz.sizeOf130
  v229 := Tryz.zeroValue130 }
def Tryz.lays212_ren : Go.Shelf.Ren := ⟨fun | 212 => 44 | 263 => 53 | 264 => 54 | n => n, fun | 46 => 79 | 51 => 88 | 146 => 89 | 53 => 91 | 148 => 92 | n => n, fun | n => n⟩
theorem Tryz.lays212 : Go.Proofs.Lays.n212 Tryz.prog Tryz.lays212_ren := {
  mixed := by kernel_rfl
  f212 := Tryz.func44.trans (congrArg some (by kernel_rfl))
  f263 := Tryz.func53.trans (congrArg some (by kernel_rfl))
  f264 := Tryz.func54.trans (congrArg some (by kernel_rfl))
  t46 := Tryz.underlying79
  a46 := Tryz.isAgg79
  z46 := Tryz.sizeOf79
  v46 := Tryz.zeroValue79
  t51 := Tryz.underlying88
  a51 := Tryz.isAgg88
  z51 := Tryz.sizeOf88
  v51 := Tryz.zeroValue88
  t53 := Tryz.underlying91
  a53 := Tryz.isAgg91
  z53 := Tryz.sizeOf91
  v53 := Tryz.zeroValue91
  t146 := Tryz.underlying89
  a146 := Tryz.isAgg89
  z146 := Tryz.sizeOf89
  v146 := Tryz.zeroValue89
  t148 := Tryz.underlying92
  a148 := Tryz.isAgg92
  z148 := Tryz.sizeOf92
  v148 := Tryz.zeroValue92 }
def Tryz.lays112_ren : Go.Shelf.Ren := ⟨fun | 112 => 37 | n => n, fun | 28 => 22 | 3 => 3 | 4 => 4 | 0 => 0 | n => n, fun | n => n⟩
theorem Tryz.lays112 : Go.Proofs.Lays.n112 Tryz.prog Tryz.lays112_ren := {
  mixed := by kernel_rfl
  f112 := Tryz.func37.trans (congrArg some (by kernel_rfl))
  t0 := Tryz.underlying0
  a0 := Tryz.isAgg0
  z0 := Tryz.sizeOf0
  v0 := Tryz.zeroValue0
  t3 := Tryz.underlying3
  a3 := Tryz.isAgg3
  z3 := Tryz.sizeOf3
  v3 := Tryz.zeroValue3
  t4 := Tryz.underlying4
  a4 := Tryz.isAgg4
  z4 := Tryz.sizeOf4
  v4 := Tryz.zeroValue4
  t28 := Tryz.underlying22
  a28 := Tryz.isAgg22
  z28 := Tryz.sizeOf22
  v28 := Tryz.zeroValue22 }
end Go.Proofs
end
section
set_option linter.all false
set_option maxRecDepth 100000
set_option maxHeartbeats 4000000
namespace Lg
open Go Go.Proofs

/-! ### slices.Repeat of one number -/
theorem PFn.tup2 {P : Program} {f : FuncId} {args : List Tr} {a b : Value} (h : PFn P f args (· = .raw (.tuple #[a, b]))) : PFn P f args (· = .tup [.raw a, .raw b]) := by
  have h := h.spec
  refine PFn.mk ?_
  unfold Spec at h ⊢
  refine ⟨h.1, fun M w vs h1 h2 h3 h4 h5 => (h.2 M w vs h1 h2 h3 h4 h5).mono ?_⟩
  rintro e w' ⟨v, r, cs', he, ⟨hc, hr⟩, hrd, hrest⟩
  subst hr
  refine ⟨v, .tup [.raw a, .raw b], cs', he, ⟨hc, rfl⟩, ?_, hrest⟩
  rw [rd_raw hrd]
  unfold Tr.tup
  exact ⟨[a, b], rfl, a, [b], rfl, raw_self _, b, [], rfl, raw_self _, rfl⟩
theorem mul_fn (x y : Nat) (hx : x ≤ 1000) (hy : y ≤ 1000000) : PFn Tryz.prog 44 [.raw (.int .u64 x), .raw (.int .u64 y)] (· = .tup [.raw (.int .u64 0), .raw (.int .u64 ((x * y : Nat) : Int))]) := by
  refine PFn.tup2 (PFn.of_calls (args := [.int .u64 x, .int .u64 y]) (fun vs w => rfl) (fun w => ?_))
  refine (Any.bits_Mul Tryz.lays212 x y (by omega) (by omega) w).mono ?_
  rintro e w' ⟨rfl, rfl⟩
  have h1 : x * y ≤ 1000 * 1000000 := Nat.mul_le_mul hx hy
  rw [Nat.div_eq_of_lt (by omega), Nat.mod_eq_of_lt (by omega)]
  exact ⟨rfl, Go.RowKit.Below.refl _ _, fun _ => Nat.le_refl _⟩
theorem repeat_fn (x : Int) (N : Nat) (h1 : 1 ≤ N) (hN : N ≤ 1000000) : Spec Tryz.prog 31 [.sl 1 [[.int x]], .int N] [] (fun r cs => ∃ ad cap, r = .raw (.slice ad N cap) ∧ cs = [Chunk.own ad cap 1 3 (List.replicate N [.int x])]) := by
  have km := mul_fn 1 N (by omega) (by omega)
  rw [Nat.one_mul] at km
  refine Spec.body Tryz.func31 rfl rfl (Tryz.ntmps31) rfl fun w0 own0 M => ?_
  repeat' (first | refine goH ?_ | (refine Ops.k_convert ?_; first | (first | refine Ops.convN Tryz.underlying3 Tryz.underlying79 rfl (wrap_u64 (by first | omega | (simp; done))) rfl ?_ | refine Ops.convN Tryz.underlying79 Tryz.underlying3 rfl (wrap_i64 (by first | omega | (simp; done))) rfl ?_)) | refine goV ?_ | refine goC (fun ad cap => ?_) | refine goG ?_ | (refine Ops.k_guard ?_; first | (refine Ops.guard_dec rfl rfl (fun hc => ?_) (fun hc => ?_) <;> try (exfalso; omega)) | refine Ops.guard_split rfl rfl (fun hc => ?_) (fun hc => ?_)) | refine goI ?_ | (refine Cw.k_cond ?_; first | (refine Cw.cond_dec rfl (fun hc => ?_) (fun hc => ?_) <;> try (exfalso; omega)) | refine Cw.cond_bool rfl (fun hc => ?_) (fun hc => ?_)) | (refine Ops.k_calla ?_; first | (refine Ops.k_callf 44 ?_; refine Ops.callV km (Evs.cons rfl (Evs.cons rfl Evs.nil)) rfl ?_)) | (apply OpW.k_call; first | (apply OpW.k_callf 44; exact OpW.callV km (Evs.cons rfl (Evs.cons rfl Evs.nil)))) | refine goR ?_ | refine goP ?_ | apply PSeq.cons | apply PSeq.yes rfl rfl rfl | exact goW | fail)
  rw [Int.toNat_natCast]
  refine Ops.own_form goPk (by rw [List.length_replicate]; omega) ?_
  rintro g rfl hcap1 hcap2
  rw [List.length_replicate] at hcap1
  obtain ⟨rows, hrows⟩ : ∃ rows : List (List Tr), rows = (List.replicate N (List.map Tr.raw [Value.int .i64 0])).set 0 [Tr.int x] := ⟨_, rfl⟩
  have hrl : rows.length = N := by rw [hrows]; simp
  have hr1 : rows.take 1 = List.replicate 1 [Tr.int x] := by
    rw [hrows]
    obtain ⟨q, rfl⟩ : ∃ q, N = q + 1 := ⟨N - 1, by omega⟩
    rfl
  repeat' (first | refine goH ?_ | (refine Ops.k_c_copy ?_; first | (refine Ops.copy_one (j := 0) rfl rfl goPk rfl (by rw [List.length_replicate]; omega) (by rw [List.length_replicate]; omega) (by omega) rfl ?_)) | refine goV ?_ | refine goC (fun ad cap => ?_) | refine goG ?_ | (refine Ops.k_guard ?_; first | (refine Ops.guard_dec rfl rfl (fun hc => ?_) (fun hc => ?_) <;> try (exfalso; omega)) | refine Ops.guard_split rfl rfl (fun hc => ?_) (fun hc => ?_)) | refine goI ?_ | (refine Cw.k_cond ?_; first | (refine Cw.cond_dec rfl (fun hc => ?_) (fun hc => ?_) <;> try (exfalso; omega)) | refine Cw.cond_bool rfl (fun hc => ?_) (fun hc => ?_)) | refine goR ?_ | refine goP ?_ | apply PSeq.cons | apply PSeq.yes rfl rfl rfl | exact goW | fail)
  rw [← hrows]
  clear hrows km
  refine Cw.loopI [(7, _)] _ (fun q e c => ∃ (n : Nat) (rows : List (List Tr)), q = N - n ∧ (1 ≤ n ∧ n ≤ N ∧ rows.length = N ∧ rows.take n = List.replicate n [Tr.int x]) ∧ e = [(8, .int n)] ∧ c = [Chunk.own (some ⟨g, 0, none⟩) cap 1 3 rows]) ⟨_, _, _, (Ent.mkP goSub goPm), 1, rows, rfl, ⟨by omega, by omega, hrl, hr1⟩, rfl, rfl⟩ ?_
  clear hr1 hrl rows
  rintro _ _ _ ⟨n, rows, rfl, ⟨hn1, hnN, hrl, hr⟩, rfl, rfl⟩
  by_cases hc : n < N
  · obtain ⟨m, hm⟩ : ∃ m, m = min (N - n) n := ⟨_, rfl⟩
    obtain ⟨rows2, hrows2⟩ : ∃ rows2, rows2 = rows.take n ++ rows.take m ++ rows.drop (n + m) := ⟨_, rfl⟩
    have hl2 : rows2.length = N := by
      rw [hrows2, List.length_append, List.length_append, List.length_take, List.length_take, List.length_drop]
      omega
    have hr2 : rows2.take (n + m) = List.replicate (n + m) [Tr.int x] := by
      have hml : (rows.take n ++ rows.take m).length = n + m := by rw [List.length_append, List.length_take, List.length_take]; omega
      rw [hrows2, List.take_append_of_le_length (by omega), List.take_of_length_le (by omega), hr, show rows.take m = (rows.take n).take m by rw [List.take_take]; congr 1; omega, hr, List.take_replicate, List.replicate_append_replicate]
      congr 1
      omega
    repeat' (first | refine goH ?_ | refine goV ?_ | refine goC (fun ad cap => ?_) | refine goG ?_ | (refine Ops.k_guard ?_; first | (refine Ops.guard_dec rfl rfl (fun hc => ?_) (fun hc => ?_) <;> try (exfalso; omega)) | refine Ops.guard_split rfl rfl (fun hc => ?_) (fun hc => ?_)) | refine goI ?_ | (refine Cw.k_cond ?_; first | (refine Cw.cond_dec rfl (fun hc => ?_) (fun hc => ?_) <;> try (exfalso; omega)) | refine Cw.cond_bool rfl (fun hc => ?_) (fun hc => ?_)) | fail)
    refine Cw.region_seqF (m := 7) [0] rfl (by decide +kernel) rfl (fun a w d => FlRun.move rfl rfl rfl rfl FlRun.nil) ?_
    repeat' (first | refine goH ?_ | ((fail_if_success refine Ops.k_c_copy ?_); refine goV ?_) | ((fail_if_success refine Ops.k_c_copy ?_); refine goC (fun ad cap => ?_)) | refine goG ?_ | (refine Ops.k_guard ?_; first | (refine Ops.guard_dec rfl rfl (fun hc => ?_) (fun hc => ?_) <;> try (exfalso; omega)) | refine Ops.guard_split rfl rfl (fun hc => ?_) (fun hc => ?_)) | refine goI ?_ | (refine Cw.k_cond ?_; first | (refine Cw.cond_dec rfl (fun hc => ?_) (fun hc => ?_) <;> try (exfalso; omega)) | refine Cw.cond_bool rfl (fun hc => ?_) (fun hc => ?_)) | exact OpV.w (OpV.slice_rawl rfl rfl (by omega)) | exact OpV.w (OpV.slice_own_hP rfl rfl goPk (by omega) (by omega)) | refine NoP.norm ?_ | refine goR ?_ | refine goP ?_ | apply PSeq.cons | apply PSeq.yes rfl rfl rfl | exact goW | fail)
    have hif : (if cap = ((n : Nat) : Int).toNat then some (⟨g, 0, none⟩ : Addr) else (some (⟨g, 0, none⟩ : Addr)).map (·.add (((n : Nat) : Int).toNat * 1))) = some ⟨g, n * 1, none⟩ := by
      rw [if_neg (by omega), Int.toNat_natCast]
      simp [Addr.add]
      omega
    refine Ops.copy_front (n := n) (m := m) (o1 := n * 1) (dl := N - n) (sl := n) (congrArg (fun z => some (Tr.raw (Value.slice z (N - ((n : Nat) : Int).toNat) (cap - ((n : Nat) : Int).toNat)))) hif) rfl goPk rfl (by omega) (by omega) (by omega) hm (by omega) rfl ?_
    rw [← hrows2]
    repeat' (first | refine goH ?_ | refine goV ?_ | refine goC (fun ad cap => ?_) | refine goG ?_ | (refine Ops.k_guard ?_; first | (refine Ops.guard_dec rfl rfl (fun hc => ?_) (fun hc => ?_) <;> try (exfalso; omega)) | refine Ops.guard_split rfl rfl (fun hc => ?_) (fun hc => ?_)) | refine goI ?_ | (refine Cw.k_cond ?_; first | (refine Cw.cond_dec rfl (fun hc => ?_) (fun hc => ?_) <;> try (exfalso; omega)) | refine Cw.cond_bool rfl (fun hc => ?_) (fun hc => ?_)) | refine NoP.norm ?_ | refine goR ?_ | refine goP ?_ | apply PSeq.cons | apply PSeq.yes rfl rfl rfl | exact goW | fail)
    exact ⟨_, _, _, (Ent.mk goSub goTk), ⟨n + m, rows2, rfl, ⟨by omega, by omega, hl2, hr2⟩, rfl, rfl⟩, by omega⟩
  · repeat' (first | refine goH ?_ | refine goV ?_ | refine goC (fun ad cap => ?_) | refine goG ?_ | (refine Ops.k_guard ?_; first | (refine Ops.guard_dec rfl rfl (fun hc => ?_) (fun hc => ?_) <;> try (exfalso; omega)) | refine Ops.guard_split rfl rfl (fun hc => ?_) (fun hc => ?_)) | refine goI ?_ | (refine Cw.k_cond ?_; first | (refine Cw.cond_dec rfl (fun hc => ?_) (fun hc => ?_) <;> try (exfalso; omega)) | refine Cw.cond_bool rfl (fun hc => ?_) (fun hc => ?_)) | refine goR ?_ | refine goP ?_ | apply PSeq.cons | apply PSeq.yes rfl rfl rfl | exact goW | fail)
    have hnn : n = N := by omega
    subst hnn
    rw [List.take_of_length_le (by omega)] at hr
    rw [hr]
    exact Fin.ret (Ent.take goTk) (Outs.one rfl rfl) ⟨_, _, rfl, rfl⟩
end Lg
end
section
set_option linter.all false
set_option maxRecDepth 100000
set_option maxHeartbeats 4000000
namespace Lg
open Go Go.Proofs Go.Sort Go.Shelf

/-! ### prices from high to low, both ways -/
/-- slices.SortFunc on at most 12 elements -/
theorem pdq_int {n : Nat} {d : Int} {xs : List Int} {ad : Option Addr} {cap : Nat} {g : Nat} {caps : List Value} {cin : List Chunk} {lt : Int → Int → Bool} {cf : Int → Int → Int} (hlt : ∀ a b, lt a b = decide (cf a b < 0)) (hl : xs.length ≤ 12) (hn : n = xs.length)
    (hs : ∀ a b, a ∈ xs → b ∈ xs → Spec Tryz.prog g ([Tr.int a, Tr.int b] ++ caps.map Tr.raw) cin (fun r cs => r = Tr.int (cf a b) ∧ cs = cin)) :
    Spec Tryz.prog 45 [Tr.raw (.slice ad n cap), .int 0, .int n, .int d, Tr.raw (.func (.func g) #[] caps.toArray)] (Chunk.own ad cap 1 3 (xs.map (fun x => [Tr.int x])) :: cin) (fun r cs => r = Tr.tup [] ∧ cs = Chunk.own ad cap 1 3 ((isort lt xs).map (fun x => [Tr.int x])) :: cin) := by
  have hi := insSort_int (ad := ad) (cap := cap) hlt (show xs.length ≤ 1000000 by omega) hn hs
  refine Spec.body Tryz.func45 rfl rfl (Tryz.ntmps45) rfl fun w0 own0 M => ?_
  repeat' (first | refine goH ?_ | refine goV ?_ | refine goG ?_ | (refine Ops.k_guard ?_; first | (refine Ops.guard_dec rfl rfl (fun hc => ?_) (fun hc => ?_) <;> try (exfalso; omega)) | refine Ops.guard_split rfl rfl (fun hc => ?_) (fun hc => ?_)) | refine goI ?_ | (refine Cw.k_cond ?_; first | (refine Cw.cond_dec rfl (fun hc => ?_) (fun hc => ?_) <;> try (exfalso; omega)) | refine Cw.cond_bool rfl (fun hc => ?_) (fun hc => ?_)) | refine goR ?_ | refine goP ?_ | apply PSeq.cons | apply PSeq.yes rfl rfl rfl | exact goW | fail)
  refine Cw.loopI [(0, _), (4, _)] _ (fun q e c => q = 0 ∧ e = [(1, .int 0), (2, .int n), (3, .int d), (10, .bool true), (11, .bool true)] ∧ c = []) ⟨_, _, _, (Ent.mkP goSub goPm), rfl, rfl, rfl⟩ ?_
  rintro _ _ _ ⟨rfl, rfl, rfl⟩
  repeat' (first | refine goH ?_ | refine goV ?_ | refine goG ?_ | (refine Ops.k_guard ?_; first | (refine Ops.guard_dec rfl rfl (fun hc => ?_) (fun hc => ?_) <;> try (exfalso; omega)) | refine Ops.guard_split rfl rfl (fun hc => ?_) (fun hc => ?_)) | refine goI ?_ | (refine Cw.k_cond ?_; first | (refine Cw.cond_dec rfl (fun hc => ?_) (fun hc => ?_) <;> try (exfalso; omega)) | refine Cw.cond_bool rfl (fun hc => ?_) (fun hc => ?_)) | (refine Ops.k_calla ?_; first | (refine Ops.call (cf := []) hi (Evs.cons rfl (Evs.cons rfl (Evs.cons rfl (Evs.cons rfl Evs.nil)))) (by simp) rfl ?_; rintro r cs' ⟨rfl, rfl⟩)) | refine goR ?_ | refine goP ?_ | apply PSeq.cons | apply PSeq.yes rfl rfl rfl | exact goW | fail)
  first | exact Fin.norm (Ent.mkP goSub (by simp)) (Outs.zero rfl) ⟨rfl, rfl⟩ | exact Fin.ret (Ent.mkP goSub (by simp)) (Outs.zero rfl) ⟨rfl, rfl⟩
theorem sortFunc_int {n : Nat} {xs : List Int} {ad : Option Addr} {cap : Nat} {g : Nat} {caps : List Value} {cin : List Chunk} {lt : Int → Int → Bool} {cf : Int → Int → Int} (hlt : ∀ a b, lt a b = decide (cf a b < 0)) (hl : xs.length ≤ 12) (hn : n = xs.length)
    (hs : ∀ a b, a ∈ xs → b ∈ xs → Spec Tryz.prog g ([Tr.int a, Tr.int b] ++ caps.map Tr.raw) cin (fun r cs => r = Tr.int (cf a b) ∧ cs = cin)) :
    Spec Tryz.prog 32 [Tr.raw (.slice ad n cap), Tr.raw (.func (.func g) #[] caps.toArray)] (Chunk.own ad cap 1 3 (xs.map (fun x => [Tr.int x])) :: cin) (fun r cs => r = Tr.tup [] ∧ cs = Chunk.own ad cap 1 3 ((isort lt xs).map (fun x => [Tr.int x])) :: cin) := by
  have hi := fun d => pdq_int (d := d) (ad := ad) (cap := cap) hlt hl hn hs
  have hb := bitsLen_fn n (by omega)
  unfold PFn at hb
  refine Spec.body Tryz.func32 rfl rfl (Tryz.ntmps32) rfl fun w0 own0 M => ?_
  repeat' (first | refine goH ?_ | (refine Ops.k_convert ?_; first | (refine Ops.convN Tryz.underlying3 Tryz.underlying79 rfl (wrap_u64 (by omega)) rfl ?_)) | refine goV ?_ | refine goI ?_ | (refine Cw.k_cond ?_; first | (refine Cw.cond_dec rfl (fun hc => ?_) (fun hc => ?_) <;> try (exfalso; omega)) | refine Cw.cond_bool rfl (fun hc => ?_) (fun hc => ?_)) | (refine Ops.k_calla ?_; first | (refine Ops.k_callf 46 ?_; (refine Ops.call hb (Evs.cons rfl Evs.nil) (by rw [List.nil_append]) rfl ?_; rintro r cs' ⟨rfl, v, rfl⟩; rw [List.nil_append])) | (refine Ops.call (cf := []) (hi _) (Evs.cons rfl (Evs.cons rfl (Evs.cons rfl (Evs.cons rfl (Evs.cons rfl Evs.nil))))) (by simp) rfl ?_; rintro r cs' ⟨rfl, rfl⟩)) | fail)
  first | exact Fin.norm (Ent.mkP goSub (by simp)) (Outs.zero rfl) ⟨rfl, rfl⟩ | exact Fin.ret (Ent.mkP goSub (by simp)) (Outs.zero rfl) ⟨rfl, rfl⟩

theorem price1_fn (a b : Int) : PFn Tryz.prog 33 [.int a, .int b] (· = .int (cmpI b a)) := by
  have k := compare_fn b a
  refine PFn.mk (Spec.body Tryz.func33 rfl rfl (Tryz.ntmps33) rfl fun w0 own0 M => ?_)
  repeat' (first | refine goH ?_ | refine goV ?_ | refine goI ?_ | (refine Cw.k_cond ?_; first | (refine Cw.cond_dec rfl (fun hc => ?_) (fun hc => ?_) <;> try (exfalso; omega)) | refine Cw.cond_bool rfl (fun hc => ?_) (fun hc => ?_)) | (refine Ops.k_calla ?_; first | (refine Ops.k_callf 34 ?_; refine Ops.callV k (Evs.cons rfl (Evs.cons rfl Evs.nil)) rfl ?_)) | fail)
  exact Fin.ret (Ent.take goTk) (Outs.one rfl rfl) ⟨rfl, rfl⟩
theorem cmpI_neg (a b : Int) : cmpI a b < 0 ↔ a < b := by
  unfold cmpI
  split
  · omega
  · split <;> omega
theorem lt_hl (a b : Int) : ltOf (fun a b : Int => cmpI b a) a b = decide (b < a) := by
  unfold ltOf
  rw [decide_eq_decide]
  exact cmpI_neg b a
theorem swo_hl : SWO (ltOf fun a b : Int => cmpI b a) := by
  refine ⟨fun x => ?_, fun x y z h1 h2 => ?_, fun x y z h1 h2 => ?_⟩ <;> simp only [lt_hl, decide_eq_true_eq, decide_eq_false_iff_not] at * <;> omega
theorem sortD_fn (us : List Int) (hu : us.length ≤ 1000000) (ad : Option Addr) (cap n : Nat) (hn : n = us.length) : Spec Tryz.prog 32 [Tr.raw (.slice ad n cap), Tr.raw (.func (.func 33) #[] #[])] [Chunk.own ad cap 1 3 (intRows us)]
    (fun r cs => r = Tr.tup [] ∧ cs = [Chunk.own ad cap 1 3 (intRows (hiLo us))]) := by
  by_cases h0 : us = []
  · subst h0
    have h := sortFunc_int (ad := ad) (cap := cap) (n := n) (xs := []) (g := 33) (caps := []) (cin := []) (lt := fun a b => decide (b < a)) (cf := fun a b => cmpI b a) (fun a b => by rw [decide_eq_decide]; exact (cmpI_neg b a).symm) (by simp) hn (fun a b ha hb => by cases ha)
    refine Spec.mono h ?_
    rintro r cs ⟨rfl, rfl⟩
    exact ⟨rfl, by rw [show hiLo [] = [] from List.eq_nil_of_length_eq_zero (hiLo_len [])]; rfl⟩
  · have hp : 1 ≤ us.length := by
      cases us with
      | nil => exact absurd rfl h0
      | cons a rest => simp
    have h := sortFunc1 Tryz.sortInt (Value.int .i64) (fun _ => rfl) (fun a b : Int => cmpI b a) swo_hl (g := 33) (bx := []) (fun x y => price1_fn x y) (ad := ad) (cap := cap) (E := 3) (xs := us) (n := n) hn (by omega) (by omega)
    refine Spec.mono h ?_
    rintro r cs ⟨ys, rfl, rfl, hperm, hsort⟩
    have : ys = hiLo us := hiLo_uniq hperm (hsort.imp fun h => by rw [lt_hl] at h; simpa using h)
    subst this
    exact ⟨rfl, rfl⟩
theorem sortA_fn (us : List Int) (hu : us.length ≤ 1000000) (ad : Option Addr) (cap n : Nat) (hn : n = us.length) : Spec Tryz.prog 36 [Tr.raw (.slice ad n cap)] [Chunk.own ad cap 1 3 (intRows us)]
    (fun r cs => cs = [Chunk.own ad cap 1 3 (intRows (us.mergeSort fun x y => decide (x ≤ y)))]) := by
  by_cases h0 : us.length = 0
  · have hus := List.eq_nil_of_length_eq_zero h0
    subst hus
    have h : PFn Tryz.prog 36 [Tr.raw (.slice ad n cap)] (· = .raw (.tuple #[])) := PFn.of_calls (args := [.slice ad n cap]) (fun vs w => rfl) (fun w => by
      rw [hn]
      refine (Any.slices_Sort_int_none Tryz.lays189 ad cap w).mono ?_
      rintro e w' ⟨rfl, rfl⟩
      exact ⟨rfl, Go.RowKit.Below.refl _ _, fun _ => Nat.le_refl _⟩)
    refine Spec.mono (h.spec.frame [Chunk.own ad cap 1 3 (intRows [])]) ?_
    rintro r cs ⟨c2, ⟨rfl, _⟩, rfl⟩
    rw [show ([] : List Int).mergeSort (fun x y => decide (x ≤ y)) = [] from List.eq_nil_of_length_eq_zero (List.length_mergeSort _)]
    rfl
  · refine Spec.mono (sortInts Tryz.lays189 (fun vs w => rfl) (ad := ad) (cap := cap) (E := 3) (xs := us) hn (by omega) (by omega)) ?_
    rintro r cs ⟨_, rfl⟩
    rfl
end Lg
end
