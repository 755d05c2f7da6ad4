/- A part of the proof of a law of this seat: it adds no condition. By an AI agent. -/
import Derived.Shelf.Strings.SlTrimAscii
import Derived.Test.YtcojnmobcfpeeaaDoorProg
import Derived.Test.YtcojnmobcfpeeaaDoorOwn
section
set_option linter.all false
set_option maxRecDepth 100000
set_option maxHeartbeats 4000000
namespace Lg
open Go Go.Proofs

structure Tube where
 val : Int
 cnt : Int
 most : Int
def Tube.row (d : Tube) : List Tr := [Tr.int d.val, Tr.int d.cnt, Tr.int d.most]
abbrev Tr.tubes (l : List Tube) : Tr := Tr.sl 3 (l.map Tube.row)

def tubeGo : Option Int → List Tube → Int
 |_, [] => 0
 |prev, d :: l => if d.val < 1 ∨ 10000 < d.val then 1 else if prev.any (fun p => decide (d.val ≤ p)) = true then 7 else if d.most < 0 ∨ 1000 < d.most ∨ d.cnt < 0 ∨ d.most < d.cnt then 1 else tubeGo (some d.val) l
def tubesErr (l : List Tube) : Int := if 10 < l.length then 2 else tubeGo none l
def prevVal (l : List Tube) (k : Nat) : Option Int := if k = 0 then none else (l[k - 1]?).map (·.val)

structure TbOk (l : List Tube) : Prop where
 len : l.length ≤ 10
 val : ∀ d ∈ l, 1 ≤ d.val ∧ d.val ≤ 10000
 cnt : ∀ d ∈ l, 0 ≤ d.cnt ∧ d.cnt ≤ d.most ∧ d.most ≤ 1000

theorem tubeGo_right : ∀ {l : List Tube} {prev : Option Int}, tubeGo prev l = 0 → ∀ d ∈ l, (1 ≤ d.val ∧ d.val ≤ 10000) ∧ (0 ≤ d.cnt ∧ d.cnt ≤ d.most ∧ d.most ≤ 1000)
 |[], _, _, d, hd => by simp at hd
 |x :: l, prev, h, d, hd => by
  unfold tubeGo at h
  split at h
  ·omega
  split at h
  ·omega
  split at h
  ·omega
  rename_i h1 h2 h3
  rcases List.mem_cons.1 hd with rfl | hd
  ·omega
  ·exact tubeGo_right h d hd
theorem tubesErr_ok {l : List Tube} (h : tubesErr l = 0) : TbOk l := by
 unfold tubesErr at h
 split at h
 ·omega
 rename_i h1
 exact ⟨by omega, fun d hd => (tubeGo_right h d hd).1, fun d hd => (tubeGo_right h d hd).2⟩

theorem tubesFault_fn (l : List Tube) : PFn Tryd.prog 38 [.tubes l] (· = .int (tubesErr l)) := by
 refine PFn.mk (Spec.body Tryd.func38 rfl rfl (Tryd.ntmps38) rfl fun w0 own0 M => ?_)
 have hL : (l.map Tube.row).length = l.length := List.length_map _
 repeat' (first | refine goH ?_ | refine goV ?_ | refine goB (fun b => ?_) | refine goC (fun ad cap => ?_) | refine goG ?_ | (refine Ops.k_guard ?_; first | (refine Ops.guard_dec rfl rfl ?_ ?_ <;> intro hc <;> try omega) | refine Ops.guard_split rfl rfl ?_ ?_ <;> intro hc) | refine goI ?_ | (refine Cw.k_cond ?_; first | (refine Cw.cond_dec rfl ?_ ?_ <;> intro hc <;> try omega) | refine Cw.cond_bool rfl ?_ ?_ <;> intro hc) | refine goR ?_ | refine goP ?_ | apply PSeq.cons | apply PSeq.yes rfl rfl rfl | exact goW | fail)
 ·exact Fin.ret Ent.refl (Outs.one rfl rfl) ⟨rfl, by unfold tubesErr; rw [if_pos (by omega)]⟩
 have h4 : ¬ 10 < l.length := by omega
 refine Cw.loop (ι := Nat) (fun k => k ≤ l.length ∧ tubesErr l = tubeGo (prevVal l k) (l.drop k)) (fun k => [(0, .tubes l), (8, .tubes l), (9, .int (l.map Tube.row).length), (10, .int k)]) (fun _ => []) (fun k => l.length - k) ⟨0, ⟨by omega, by unfold tubesErr; rw [if_neg h4]; simp [prevVal]⟩, (Ent.mk goSub goTk)⟩ ?_
 rintro k ⟨hk, hfin⟩
 by_cases hkl : k < l.length
 ·obtain ⟨d, hd⟩ := at_lt hkl
  have hrow : (l.map Tube.row)[k]? = some [Tr.int d.val, Tr.int d.cnt, Tr.int d.most] := rows_at hd
  have hnext : prevVal l (k + 1) = some d.val := by simp [prevVal, hd]
  rw [drop_at hd] at hfin
  unfold tubeGo at hfin
  by_cases hk0 : k = 0
  ·subst hk0
   simp only [prevVal, if_true, Option.any_none, Bool.false_eq_true, if_false] at hfin
   repeat' (first | refine goH ?_ | refine goV ?_ | refine goB (fun b => ?_) | refine goC (fun ad cap => ?_) | refine goG ?_ | (refine Ops.k_guard ?_; first | (refine Ops.guard_dec rfl rfl ?_ ?_ <;> intro hc <;> try omega) | refine Ops.guard_split rfl rfl ?_ ?_ <;> intro hc) | refine goI ?_ | (refine Cw.k_cond ?_; first | (refine Cw.cond_dec rfl ?_ ?_ <;> intro hc <;> try omega) | refine Cw.cond_bool rfl ?_ ?_ <;> intro hc) | refine goR ?_ | refine goP ?_ | apply PSeq.cons | apply PSeq.yes rfl rfl rfl | exact goW | fail)
   all_goals first
    |(refine Fin.ret (Ent.take goTk) (Outs.one rfl rfl) ⟨rfl, congrArg Tr.int ?_⟩; rw [hfin]; (repeat' split) <;> first | rfl | omega)
    |(refine ⟨1, ⟨by omega, ?_⟩, by omega, (Ent.mk goSub goTk)⟩; rw [hnext]; rw [hfin]; (repeat' split) <;> first | rfl | omega)
  ·obtain ⟨d', hd'⟩ := at_lt (l := l) (k := k - 1) (by omega)
   have hrow' : (l.map Tube.row)[((k : Int) - 1).toNat]? = some [Tr.int d'.val, Tr.int d'.cnt, Tr.int d'.most] := by rw [show ((k : Int) - 1).toNat = k - 1 by omega]; exact rows_at hd'
   simp only [prevVal, hk0, if_false, hd', Option.map_some, Option.any_some, decide_eq_true_eq] at hfin
   repeat' (first | refine goH ?_ | refine goV ?_ | refine goB (fun b => ?_) | refine goC (fun ad cap => ?_) | refine goG ?_ | (refine Ops.k_guard ?_; first | (refine Ops.guard_dec rfl rfl ?_ ?_ <;> intro hc <;> try omega) | refine Ops.guard_split rfl rfl ?_ ?_ <;> intro hc) | refine goI ?_ | (refine Cw.k_cond ?_; first | (refine Cw.cond_dec rfl ?_ ?_ <;> intro hc <;> try omega) | refine Cw.cond_bool rfl ?_ ?_ <;> intro hc) | refine goR ?_ | refine goP ?_ | apply PSeq.cons | apply PSeq.yes rfl rfl rfl | exact goW | fail)
   all_goals first
    |(refine Fin.ret (Ent.take goTk) (Outs.one rfl rfl) ⟨rfl, congrArg Tr.int ?_⟩; rw [hfin]; (repeat' split) <;> first | rfl | omega)
    |(refine ⟨k + 1, ⟨by omega, ?_⟩, by omega, (Ent.mk goSub goTk)⟩; rw [hnext]; rw [hfin]; (repeat' split) <;> first | rfl | omega)
 ·rw [List.drop_eq_nil_of_le (by omega), tubeGo] at hfin
  repeat' (first | refine goH ?_ | refine goV ?_ | refine goB (fun b => ?_) | refine goC (fun ad cap => ?_) | refine goG ?_ | (refine Ops.k_guard ?_; first | (refine Ops.guard_dec rfl rfl ?_ ?_ <;> intro hc <;> try omega) | refine Ops.guard_split rfl rfl ?_ ?_ <;> intro hc) | refine goI ?_ | (refine Cw.k_cond ?_; first | (refine Cw.cond_dec rfl ?_ ?_ <;> intro hc <;> try omega) | refine Cw.cond_bool rfl ?_ ?_ <;> intro hc) | refine goR ?_ | refine goP ?_ | apply PSeq.cons | apply PSeq.yes rfl rfl rfl | exact goW | fail)
  refine Fin.ret (Ent.take goTk) (Outs.one rfl rfl) ⟨rfl, congrArg Tr.int ?_⟩
  rw [hfin]

theorem checkTubes_fn (l : List Tube) : PFn Tryd.prog 44 [.tubes l] (· = .int (tubesErr l)) := by
 refine PFn.mk (Spec.body Tryd.func44 rfl rfl (Tryd.ntmps44) rfl fun w0 own0 M => ?_)
 have hL : (l.map Tube.row).length = l.length := List.length_map _
 repeat' (first | refine goH ?_ | refine goV ?_ | refine goB (fun b => ?_) | refine goC (fun ad cap => ?_) | refine goG ?_ | (refine Ops.k_guard ?_; first | (refine Ops.guard_dec rfl rfl ?_ ?_ <;> intro hc <;> try omega) | refine Ops.guard_split rfl rfl ?_ ?_ <;> intro hc) | refine goI ?_ | (refine Cw.k_cond ?_; first | (refine Cw.cond_dec rfl ?_ ?_ <;> intro hc <;> try omega) | refine Cw.cond_bool rfl ?_ ?_ <;> intro hc) | refine goR ?_ | refine goP ?_ | apply PSeq.cons | apply PSeq.yes rfl rfl rfl | exact goW | fail)
 ·exact Fin.ret Ent.refl (Outs.one rfl rfl) ⟨rfl, by unfold tubesErr; rw [if_pos (by omega)]⟩
 have h4 : ¬ 10 < l.length := by omega
 refine Cw.loop (ι := Nat) (fun k => k ≤ l.length ∧ tubesErr l = tubeGo (prevVal l k) (l.drop k)) (fun k => [(0, .tubes l), (8, .tubes l), (9, .int (l.map Tube.row).length), (10, .int k)]) (fun _ => []) (fun k => l.length - k) ⟨0, ⟨by omega, by unfold tubesErr; rw [if_neg h4]; simp [prevVal]⟩, (Ent.mk goSub goTk)⟩ ?_
 rintro k ⟨hk, hfin⟩
 by_cases hkl : k < l.length
 ·obtain ⟨d, hd⟩ := at_lt hkl
  have hrow : (l.map Tube.row)[k]? = some [Tr.int d.val, Tr.int d.cnt, Tr.int d.most] := rows_at hd
  have hnext : prevVal l (k + 1) = some d.val := by simp [prevVal, hd]
  rw [drop_at hd] at hfin
  unfold tubeGo at hfin
  have o1 := out_fn d.val 1 10000
  have o2 := out_fn d.most 0 1000
  have o3 := out_fn d.cnt 0 d.most
  by_cases hk0 : k = 0
  ·subst hk0
   simp only [prevVal, if_true, Option.any_none, Bool.false_eq_true, if_false] at hfin
   repeat' (first | refine goH ?_ | refine goV ?_ | refine goB (fun b => ?_) | refine goC (fun ad cap => ?_) | refine goG ?_ | (refine Ops.k_guard ?_; first | (refine Ops.guard_dec rfl rfl ?_ ?_ <;> intro hc <;> try omega) | refine Ops.guard_split rfl rfl ?_ ?_ <;> intro hc) | refine goI ?_ | (refine Cw.k_cond ?_; first | (refine Cw.cond_dec rfl ?_ ?_ <;> intro hc <;> try omega) | refine Cw.cond_bool rfl ?_ ?_ <;> intro hc) | (refine Ops.k_calla ?_; first | (refine Ops.k_callf 45 ?_; refine Ops.callV o1 (Evs.cons rfl (Evs.cons rfl (Evs.cons rfl Evs.nil))) rfl ?_) | (refine Ops.k_callf 45 ?_; refine Ops.callV o2 (Evs.cons rfl (Evs.cons rfl (Evs.cons rfl Evs.nil))) rfl ?_) | (refine Ops.k_callf 45 ?_; refine Ops.callV o3 (Evs.cons rfl (Evs.cons rfl (Evs.cons rfl Evs.nil))) rfl ?_)) | (apply OpW.k_call; first | (apply OpW.k_callf 45; exact OpW.callV o1 (Evs.cons rfl (Evs.cons rfl (Evs.cons rfl Evs.nil)))) | (apply OpW.k_callf 45; exact OpW.callV o2 (Evs.cons rfl (Evs.cons rfl (Evs.cons rfl Evs.nil)))) | (apply OpW.k_callf 45; exact OpW.callV o3 (Evs.cons rfl (Evs.cons rfl (Evs.cons rfl Evs.nil))))) | refine goR ?_ | refine goP ?_ | apply PSeq.cons | apply PSeq.yes rfl rfl rfl | exact goW | fail)
   all_goals (try simp only [outB_eq, outB_f, Bool.not_eq_true] at *)
   all_goals first
    |(refine Fin.ret (Ent.take goTk) (Outs.one rfl rfl) ⟨rfl, congrArg Tr.int ?_⟩; rw [hfin]; (repeat' split) <;> first | rfl | omega)
    |(refine ⟨1, ⟨by omega, ?_⟩, by omega, (Ent.mk goSub goTk)⟩; rw [hnext]; rw [hfin]; (repeat' split) <;> first | rfl | omega)
  ·obtain ⟨d', hd'⟩ := at_lt (l := l) (k := k - 1) (by omega)
   have hrow' : (l.map Tube.row)[((k : Int) - 1).toNat]? = some [Tr.int d'.val, Tr.int d'.cnt, Tr.int d'.most] := by rw [show ((k : Int) - 1).toNat = k - 1 by omega]; exact rows_at hd'
   simp only [prevVal, hk0, if_false, hd', Option.map_some, Option.any_some, decide_eq_true_eq] at hfin
   repeat' (first | refine goH ?_ | refine goV ?_ | refine goB (fun b => ?_) | refine goC (fun ad cap => ?_) | refine goG ?_ | (refine Ops.k_guard ?_; first | (refine Ops.guard_dec rfl rfl ?_ ?_ <;> intro hc <;> try omega) | refine Ops.guard_split rfl rfl ?_ ?_ <;> intro hc) | refine goI ?_ | (refine Cw.k_cond ?_; first | (refine Cw.cond_dec rfl ?_ ?_ <;> intro hc <;> try omega) | refine Cw.cond_bool rfl ?_ ?_ <;> intro hc) | (refine Ops.k_calla ?_; first | (refine Ops.k_callf 45 ?_; refine Ops.callV o1 (Evs.cons rfl (Evs.cons rfl (Evs.cons rfl Evs.nil))) rfl ?_) | (refine Ops.k_callf 45 ?_; refine Ops.callV o2 (Evs.cons rfl (Evs.cons rfl (Evs.cons rfl Evs.nil))) rfl ?_) | (refine Ops.k_callf 45 ?_; refine Ops.callV o3 (Evs.cons rfl (Evs.cons rfl (Evs.cons rfl Evs.nil))) rfl ?_)) | (apply OpW.k_call; first | (apply OpW.k_callf 45; exact OpW.callV o1 (Evs.cons rfl (Evs.cons rfl (Evs.cons rfl Evs.nil)))) | (apply OpW.k_callf 45; exact OpW.callV o2 (Evs.cons rfl (Evs.cons rfl (Evs.cons rfl Evs.nil)))) | (apply OpW.k_callf 45; exact OpW.callV o3 (Evs.cons rfl (Evs.cons rfl (Evs.cons rfl Evs.nil))))) | refine goR ?_ | refine goP ?_ | apply PSeq.cons | apply PSeq.yes rfl rfl rfl | exact goW | fail)
   all_goals (try simp only [outB_eq, outB_f, Bool.not_eq_true] at *)
   all_goals first
    |(refine Fin.ret (Ent.take goTk) (Outs.one rfl rfl) ⟨rfl, congrArg Tr.int ?_⟩; rw [hfin]; (repeat' split) <;> first | rfl | omega)
    |(refine ⟨k + 1, ⟨by omega, ?_⟩, by omega, (Ent.mk goSub goTk)⟩; rw [hnext]; rw [hfin]; (repeat' split) <;> first | rfl | omega)
 ·rw [List.drop_eq_nil_of_le (by omega), tubeGo] at hfin
  repeat' (first | refine goH ?_ | refine goV ?_ | refine goB (fun b => ?_) | refine goC (fun ad cap => ?_) | refine goG ?_ | (refine Ops.k_guard ?_; first | (refine Ops.guard_dec rfl rfl ?_ ?_ <;> intro hc <;> try omega) | refine Ops.guard_split rfl rfl ?_ ?_ <;> intro hc) | refine goI ?_ | (refine Cw.k_cond ?_; first | (refine Cw.cond_dec rfl ?_ ?_ <;> intro hc <;> try omega) | refine Cw.cond_bool rfl ?_ ?_ <;> intro hc) | refine goR ?_ | refine goP ?_ | apply PSeq.cons | apply PSeq.yes rfl rfl rfl | exact goW | fail)
  refine Fin.ret (Ent.take goTk) (Outs.one rfl rfl) ⟨rfl, congrArg Tr.int ?_⟩
  rw [hfin]
end Lg
end
section
/-
 DERIVED: THE SHELF's CONTRACTS AT THIS DUMP, IN PLAIN WORDS (tools/lay-plain.mjs out of 'YtcojnmobcfpeeaaDoorShelfRaw.lean', which tools/lay-shelf.mjs wrote): THE SAME DECLARATIONS UNDER THE SAME NAMES: 'import', 'namespace', 'open', 'def', 'theorem' AND NOTHING ELSE: no command of the shelf's: FOR A HAND-IN. Each laying: the table of numbers ('.._ren') and one theorem, a field a fact of the dump's own or the kernel's comparison; each contract: ONE APPLICATION.
-/
namespace Go.Proofs
open Go.Shelf
def Tryd.lays160_ren : Go.Shelf.Ren := ⟨fun | 160 => 75 | 232 => 78 | 231 => 77 | 227 => 79 | 234 => 81 | 233 => 80 | 236 => 83 | 235 => 82 | 228 => 84 | 271 => 87 | 151 => 86 | 197 => 85 | 120 => 90 | 152 => 89 | 260 => 88 | 137 => 91 | 119 => 92 | 224 => 93 | 225 => 94 | 217 => 95 | 266 => 96 | n => n, fun | 9 => 9 | 4 => 4 | 3 => 3 | 5 => 5 | 117 => 115 | 116 => 114 | 0 => 0 | 124 => 118 | 21 => 21 | 105 => 123 | 46 => 128 | 119 => 127 | 139 => 131 | 138 => 130 | n => n, fun | 3 => 0 | 4 => 1 | n => n⟩
theorem Tryd.lays160 : Go.Proofs.Lays.n160 Tryd.prog Tryd.lays160_ren := {
 mixed := by kernel_rfl
 f119 := Tryd.func92.trans (congrArg some (by kernel_rfl))
 f120 := Tryd.func90.trans (congrArg some (by kernel_rfl))
 f137 := Tryd.func91.trans (congrArg some (by kernel_rfl))
 f151 := Tryd.func86.trans (congrArg some (by kernel_rfl))
 f152 := Tryd.func89.trans (congrArg some (by kernel_rfl))
 f160 := Tryd.func75.trans (congrArg some (by kernel_rfl))
 f197 := Tryd.func85.trans (congrArg some (by kernel_rfl))
 f217 := Tryd.func95.trans (congrArg some (by kernel_rfl))
 f224 := Tryd.func93.trans (congrArg some (by kernel_rfl))
 f225 := Tryd.func94.trans (congrArg some (by kernel_rfl))
 f227 := Tryd.func79.trans (congrArg some (by kernel_rfl))
 f228 := Tryd.func84.trans (congrArg some (by kernel_rfl))
 f231 := Tryd.func77.trans (congrArg some (by kernel_rfl))
 f232 := Tryd.func78.trans (congrArg some (by kernel_rfl))
 f233 := Tryd.func80.trans (congrArg some (by kernel_rfl))
 f234 := Tryd.func81.trans (congrArg some (by kernel_rfl))
 f235 := Tryd.func82.trans (congrArg some (by kernel_rfl))
 f236 := Tryd.func83.trans (congrArg some (by kernel_rfl))
 f260 := Tryd.func88.trans (congrArg some (by kernel_rfl))
 f266 := Tryd.func96.trans (congrArg some (by kernel_rfl))
 f271 := Tryd.func87.trans (congrArg some (by kernel_rfl))
 t0 := Tryd.underlying0
 a0 := Tryd.isAgg0
 z0 := Tryd.sizeOf0
 v0 := Tryd.zeroValue0
 t3 := Tryd.underlying3
 a3 := Tryd.isAgg3
 z3 := Tryd.sizeOf3
 v3 := Tryd.zeroValue3
 t4 := Tryd.underlying4
 a4 := Tryd.isAgg4
 z4 := Tryd.sizeOf4
 v4 := Tryd.zeroValue4
 t5 := Tryd.underlying5
 a5 := Tryd.isAgg5
 z5 := Tryd.sizeOf5
 v5 := Tryd.zeroValue5
 t9 := Tryd.underlying9
 a9 := Tryd.isAgg9
 z9 := Tryd.sizeOf9
 v9 := Tryd.zeroValue9
 t21 := Tryd.underlying21
 a21 := Tryd.isAgg21
 z21 := Tryd.sizeOf21
 v21 := Tryd.zeroValue21
 t46 := Tryd.underlying128
 a46 := Tryd.isAgg128
 z46 := Tryd.sizeOf128
 v46 := Tryd.zeroValue128
 t105 := Tryd.underlying123
 a105 := Tryd.isAgg123
 z105 := Tryd.sizeOf123
 v105 := Tryd.zeroValue123
 t116 := Tryd.underlying114
 a116 := Tryd.isAgg114
 z116 := Tryd.sizeOf114
 t117 := Tryd.underlying115
 a117 := Tryd.isAgg115
 z117 := Tryd.sizeOf115
 v117 := Tryd.zeroValue115
 t119 := Tryd.underlying127
 a119 := Tryd.isAgg127
 z119 := Tryd.sizeOf127
 t124 := Tryd.underlying118
 a124 := Tryd.isAgg118
 z124 := Tryd.sizeOf118
 v124 := Tryd.zeroValue118
 t138 := Tryd.underlying130
 a138 := Tryd.isAgg130
 z138 := Tryd.sizeOf130
 v138 := Tryd.zeroValue130
 t139 := Tryd.underlying131
 a139 := Tryd.isAgg131
 z139 := Tryd.sizeOf131
 v139 := Tryd.zeroValue131
 g3 := by kernel_rfl
 g4 := by kernel_rfl }
end Go.Proofs
end
section
set_option linter.all false
set_option maxRecDepth 100000
set_option maxHeartbeats 4000000
namespace Lg
open Go Go.Proofs

def smallB (b : Int) : Bool := decide (97 ≤ b ∧ b ≤ 122)
def keyB (b : Int) : Bool := decide ((97 ≤ b ∧ b ≤ 122) ∨ (48 ≤ b ∧ b ≤ 57) ∨ b = 45 ∨ b = 95)
/-- what a key is -/
def isKey (s : ByteArray) : Bool := decide (1 ≤ s.size ∧ s.size ≤ 40 ∧ smallB (sby s 0) = true ∧ ∀ j, j < s.size → keyB (sby s j) = true)

theorem str_empty (s : ByteArray) : s = ⟨#[]⟩ ↔ s.size = 0 := by
 constructor
 ·rintro rfl; rfl
 ·intro h
  apply ByteArray.ext
  apply Array.eq_empty_of_size_eq_zero
  simpa using h

theorem sby_range (s : ByteArray) (j : Nat) : 0 ≤ sby s j ∧ sby s j ≤ 255 := by
 unfold sby
 have := (s.data.toList.getD j 0).toNat_lt
 omega

theorem key_fn (s : ByteArray) : PFn Tryd.prog 48 [.str s] (· = .bool (isKey s)) := by
 refine PFn.mk (Spec.body Tryd.func48 rfl rfl (Tryd.ntmps48) rfl fun w0 own0 M => ?_)
 have hb := sby_range s 0
 by_cases h0 : s = ⟨#[]⟩
 ·have h1 := (str_empty s).1 h0
  repeat' (first | refine goH ?_ | refine goV ?_ | refine goB (fun b => ?_) | refine goC (fun ad cap => ?_) | refine goG ?_ | (refine Ops.k_guard ?_; first | (refine Ops.guard_dec rfl rfl ?_ ?_ <;> intro hc <;> try omega) | refine Ops.guard_split rfl rfl ?_ ?_ <;> intro hc) | refine goI ?_ | (refine Cw.k_cond ?_; first | (refine Cw.cond_dec rfl ?_ ?_ <;> intro hc <;> try omega) | refine Cw.cond_bool rfl ?_ ?_ <;> intro hc) | refine goR ?_ | refine goP ?_ | apply PSeq.cons | apply PSeq.yes rfl rfl rfl | exact goW | fail)
  refine Fin.ret Ent.refl (Outs.one rfl rfl) ⟨rfl, congrArg Tr.bool ?_⟩
  unfold isKey
  exact (decide_eq_false (by omega)).symm
 have h1 : s.size ≠ 0 := fun h => h0 ((str_empty s).2 h)
 by_cases h2 : (s.size : Int) > 40
 ·repeat' (first | refine goH ?_ | refine goV ?_ | refine goB (fun b => ?_) | refine goC (fun ad cap => ?_) | refine goG ?_ | (refine Ops.k_guard ?_; first | (refine Ops.guard_dec rfl rfl ?_ ?_ <;> intro hc <;> try omega) | refine Ops.guard_split rfl rfl ?_ ?_ <;> intro hc) | refine goI ?_ | (refine Cw.k_cond ?_; first | (refine Cw.cond_dec rfl ?_ ?_ <;> intro hc <;> try omega) | refine Cw.cond_bool rfl ?_ ?_ <;> intro hc) | refine goR ?_ | refine goP ?_ | apply PSeq.cons | apply PSeq.yes rfl rfl rfl | exact goW | fail)
  refine Fin.ret Ent.refl (Outs.one rfl rfl) ⟨rfl, congrArg Tr.bool ?_⟩
  unfold isKey
  exact (decide_eq_false (by omega)).symm
 by_cases h3 : smallB (sby s 0) = true
 rotate_left
 ·have h3' : sby s 0 < 97 ∨ sby s 0 > 122 := by simp [smallB] at h3; omega
  repeat' (first | refine goH ?_ | refine goV ?_ | refine goB (fun b => ?_) | refine goC (fun ad cap => ?_) | refine goG ?_ | (refine Ops.k_guard ?_; first | (refine Ops.guard_dec rfl rfl ?_ ?_ <;> intro hc <;> try omega) | refine Ops.guard_split rfl rfl ?_ ?_ <;> intro hc) | refine goI ?_ | (refine Cw.k_cond ?_; first | (refine Cw.cond_dec rfl ?_ ?_ <;> intro hc <;> try omega) | refine Cw.cond_bool rfl ?_ ?_ <;> intro hc) | refine goR ?_ | refine goP ?_ | apply PSeq.cons | apply PSeq.yes rfl rfl rfl | exact goW | fail)
  all_goals
   refine Fin.ret Ent.refl (Outs.one rfl rfl) ⟨rfl, congrArg Tr.bool ?_⟩
   unfold isKey
   exact (decide_eq_false (fun h => h3 h.2.2.1)).symm
 have h3' : 97 ≤ sby s 0 ∧ sby s 0 ≤ 122 := by simpa [smallB] using h3
 repeat' (first | refine goH ?_ | refine goV ?_ | refine goB (fun b => ?_) | refine goC (fun ad cap => ?_) | refine goG ?_ | (refine Ops.k_guard ?_; first | (refine Ops.guard_dec rfl rfl ?_ ?_ <;> intro hc <;> try omega) | refine Ops.guard_split rfl rfl ?_ ?_ <;> intro hc) | refine goI ?_ | (refine Cw.k_cond ?_; first | (refine Cw.cond_dec rfl ?_ ?_ <;> intro hc <;> try omega) | refine Cw.cond_bool rfl ?_ ?_ <;> intro hc) | refine goR ?_ | refine goP ?_ | apply PSeq.cons | apply PSeq.yes rfl rfl rfl | exact goW | fail)
 refine Cw.loop (ι := Nat) (fun k => k ≤ s.size ∧ ∀ j, j < k → keyB (sby s j) = true) (fun k => [(0, .str s), (23, .int s.size), (24, .int k)]) (fun _ => []) (fun k => s.size - k) ⟨0, ⟨by omega, fun _ h => by omega⟩, (Ent.mk goSub goTk)⟩ ?_
 rintro k ⟨hk, hall⟩
 by_cases hkl : k < s.size
 ·have hbk := sby_range s k
  by_cases hkey : keyB (sby s k) = true
  ·have hkey' : (97 ≤ sby s k ∧ sby s k ≤ 122) ∨ (48 ≤ sby s k ∧ sby s k ≤ 57) ∨ sby s k = 45 ∨ sby s k = 95 := by simpa [keyB] using hkey
   repeat' (first | refine goH ?_ | refine goV ?_ | refine goB (fun b => ?_) | refine goC (fun ad cap => ?_) | refine goG ?_ | (refine Ops.k_guard ?_; first | (refine Ops.guard_dec rfl rfl ?_ ?_ <;> intro hc <;> try omega) | refine Ops.guard_split rfl rfl ?_ ?_ <;> intro hc) | refine goI ?_ | (refine Cw.k_cond ?_; first | (refine Cw.cond_dec rfl ?_ ?_ <;> intro hc <;> try omega) | refine Cw.cond_bool rfl ?_ ?_ <;> intro hc) | refine goR ?_ | refine goP ?_ | apply PSeq.cons | apply PSeq.yes rfl rfl rfl | exact goW | fail)
   all_goals (refine ⟨k + 1, ⟨by omega, fun j hj => ?_⟩, by omega, (Ent.mk goSub goTk)⟩; rcases Nat.lt_succ_iff_lt_or_eq.1 hj with hj | rfl; exact hall j hj; exact hkey)
  ·have hkey' : ¬ ((97 ≤ sby s k ∧ sby s k ≤ 122) ∨ (48 ≤ sby s k ∧ sby s k ≤ 57) ∨ sby s k = 45 ∨ sby s k = 95) := by simpa [keyB] using hkey
   repeat' (first | refine goH ?_ | refine goV ?_ | refine goB (fun b => ?_) | refine goC (fun ad cap => ?_) | refine goG ?_ | (refine Ops.k_guard ?_; first | (refine Ops.guard_dec rfl rfl ?_ ?_ <;> intro hc <;> try omega) | refine Ops.guard_split rfl rfl ?_ ?_ <;> intro hc) | refine goI ?_ | (refine Cw.k_cond ?_; first | (refine Cw.cond_dec rfl ?_ ?_ <;> intro hc <;> try omega) | refine Cw.cond_bool rfl ?_ ?_ <;> intro hc) | refine goR ?_ | refine goP ?_ | apply PSeq.cons | apply PSeq.yes rfl rfl rfl | exact goW | fail)
   all_goals (refine Fin.ret Ent.refl (Outs.one rfl rfl) ⟨rfl, congrArg Tr.bool ?_⟩; unfold isKey; exact (decide_eq_false (fun h => hkey (h.2.2.2 k hkl))).symm)
 ·repeat' (first | refine goH ?_ | refine goV ?_ | refine goB (fun b => ?_) | refine goC (fun ad cap => ?_) | refine goG ?_ | (refine Ops.k_guard ?_; first | (refine Ops.guard_dec rfl rfl ?_ ?_ <;> intro hc <;> try omega) | refine Ops.guard_split rfl rfl ?_ ?_ <;> intro hc) | refine goI ?_ | (refine Cw.k_cond ?_; first | (refine Cw.cond_dec rfl ?_ ?_ <;> intro hc <;> try omega) | refine Cw.cond_bool rfl ?_ ?_ <;> intro hc) | refine goR ?_ | refine goP ?_ | apply PSeq.cons | apply PSeq.yes rfl rfl rfl | exact goW | fail)
  refine Fin.ret Ent.refl (Outs.one rfl rfl) ⟨rfl, congrArg Tr.bool ?_⟩
  unfold isKey
  exact (decide_eq_true ⟨by omega, by omega, h3, fun j hj => hall j (by omega)⟩).symm

/-! ### the reference's own -/
theorem trim_fn (s of : ByteArray) (hs : s.size ≤ 9223372036854775807) (h2 : 2 ≤ of.size) (hcs : of.size < 4294967281) (ha : of.data.toList.all (fun b => decide (b.toNat < 128)) = true) :
  PFn Tryd.prog 75 [.str s, .str of] (· = .str ⟨(Lib.trimS s.data.toList of.data.toList).toArray⟩) :=
 PFn.of_calls (args := [.string s, .string of]) (fun vs w => rfl) fun w => by
  have hz : (Tryd.prog.info? (Tryd.lays160_ren.t 116)).map (fun i => (i.zero, i.size)) = some (some (.agg (Array.replicate 256 (.bool false))), 256) := by kernel_rfl
  by_cases h0 : s.size = 0
  ·refine (Any.strings_Trim_empty Tryd.lays160 s of w (.inl h0)).mono fun e w' ⟨h1, h2⟩ => ⟨?_, h2 ▸ ⟨rfl, rfl, rfl, Nat.le_refl _, fun _ _ => rfl⟩, fun _ => h2 ▸ Nat.le_refl _⟩
   have hl : s.data.toList = [] := List.eq_nil_of_length_eq_zero (by rw [← Lib.size_eq]; exact h0)
   rw [h1, hl]
   congr 2
   rw [← Lib.mk_data s, hl]
   rfl
  ·refine (Any.strings_Trim_set Tryd.lays160 (zero_of_info hz).1 (zero_of_info hz).2 s of w h2 (by omega) hs hcs (ascii_of_all ha)).mono fun e w' ⟨h1, q, h2⟩ => ⟨h1, ?_, fun _ => ?_⟩
   ·subst h2
    exact (((Go.RowKit.Below.mk rfl rfl rfl (Nat.le_refl _) (fun _ _ => rfl) : Go.RowKit.Below w.heap.size w w).alloc (Nat.le_refl _) _).alloc (by simp) _).trans ⟨rfl, rfl, rfl, Nat.le_refl _, fun _ _ => rfl⟩
   ·subst h2
    exact Nat.le_add_right _ _

theorem dropWhile_nil {α : Type} (p : α → Bool) : ∀ (l : List α), l.dropWhile p = [] ↔ l.all p = true
 |[] => by simp
 |a :: l => by
  rw [List.dropWhile_cons]
  cases h : p a with
  |true => simp [h, dropWhile_nil p l]
  |false => simp [h]
theorem trimS_nil (l cs : List UInt8) : Lib.trimS l cs = [] ↔ l.all (cs.contains ·) = true := by
 unfold Lib.trimS Lib.trimLeftS
 rw [dropWhile_nil]
 unfold Lib.trimRightS
 constructor
 ·intro h
  by_cases hn : l.reverse.dropWhile (cs.contains ·) = []
  ·have := (dropWhile_nil _ _).1 hn
   rwa [List.all_reverse] at this
  ·exfalso
   have hm := List.head_mem hn
   have h1 : cs.contains ((l.reverse.dropWhile (cs.contains ·)).head hn) = false := by
    have := List.head_dropWhile_not (cs.contains ·) hn
    simpa using this
   have h2 := List.all_eq_true.1 h _ (List.mem_reverse.2 hm)
   rw [h1] at h2
   cases h2
 ·intro h
  rw [List.all_eq_true] at h ⊢
  intro x hx
  exact h x (by
   have h1 := List.mem_reverse.1 hx
   have h2 := (List.dropWhile_sublist _).mem h1
   exact List.mem_reverse.1 h2)

def allIn (s of : ByteArray) : Bool := s.data.toList.all (of.data.toList.contains ·)
theorem made_fn (s of : ByteArray) (hs : s.size ≤ 9223372036854775807) (h2 : 2 ≤ of.size) (hcs : of.size < 4294967281) (ha : of.data.toList.all (fun b => decide (b.toNat < 128)) = true) :
  PFn Tryd.prog 67 [.str s, .str of] (· = .bool (allIn s of)) := by
 refine PFn.mk (Spec.body Tryd.func67 rfl rfl (Tryd.ntmps67) rfl fun w0 own0 M => ?_)
 repeat' (first | refine goH ?_ | refine goV ?_ | refine goB (fun b => ?_) | refine goC (fun ad cap => ?_) | refine goG ?_ | (refine Ops.k_guard ?_; first | (refine Ops.guard_dec rfl rfl ?_ ?_ <;> intro hc <;> try omega) | refine Ops.guard_split rfl rfl ?_ ?_ <;> intro hc) | refine goI ?_ | (refine Cw.k_cond ?_; first | (refine Cw.cond_dec rfl ?_ ?_ <;> intro hc <;> try omega) | refine Cw.cond_bool rfl ?_ ?_ <;> intro hc) | (refine Ops.k_calla ?_; first | (refine Ops.k_callf 75 ?_; refine Ops.callV (trim_fn s of hs h2 hcs ha) (Evs.cons rfl (Evs.cons rfl Evs.nil)) rfl ?_)) | (apply OpW.k_call; first | (apply OpW.k_callf 75; exact OpW.callV (trim_fn s of hs h2 hcs ha) (Evs.cons rfl (Evs.cons rfl Evs.nil)))) | refine goR ?_ | refine goP ?_ | apply PSeq.cons | apply PSeq.yes rfl rfl rfl | exact goW | fail)
 refine Fin.ret Ent.refl (Outs.one rfl rfl) ⟨rfl, congrArg Tr.bool ?_⟩
 unfold allIn
 rw [Bool.eq_iff_iff, decide_eq_true_iff, ← trimS_nil, str_empty]
 cases Lib.trimS s.data.toList of.data.toList with
 |nil => simp [ByteArray.size]
 |cons a l => simp [ByteArray.size]

def smallS : ByteArray := ⟨#[97, 98, 99, 100, 101, 102, 103, 104, 105, 106, 107, 108, 109, 110, 111, 112, 113, 114, 115, 116, 117, 118, 119, 120, 121, 122]⟩
def keyS : ByteArray := ⟨#[97, 98, 99, 100, 101, 102, 103, 104, 105, 106, 107, 108, 109, 110, 111, 112, 113, 114, 115, 116, 117, 118, 119, 120, 121, 122, 48, 49, 50, 51, 52, 53, 54, 55, 56, 57, 45, 95]⟩
theorem keyS_has (b : UInt8) : keyS.data.toList.contains b = keyB (b.toNat : Int) := by
 have h : ∀ n, n < 256 → keyS.data.toList.contains (UInt8.ofNat n) = keyB ((UInt8.ofNat n).toNat : Int) := by decide +kernel
 have := h b.toNat b.toNat_lt
 rwa [UInt8.ofNat_toNat] at this
theorem smallS_has (b : UInt8) : smallS.data.toList.contains b = smallB (b.toNat : Int) := by
 have h : ∀ n, n < 256 → smallS.data.toList.contains (UInt8.ofNat n) = smallB ((UInt8.ofNat n).toNat : Int) := by decide +kernel
 have := h b.toNat b.toNat_lt
 rwa [UInt8.ofNat_toNat] at this
theorem all_sby (s : ByteArray) (p : Int → Bool) : s.data.toList.all (fun b => p (b.toNat : Int)) = decide (∀ j, j < s.size → p (sby s j) = true) := by
 rw [Bool.eq_iff_iff, List.all_eq_true, decide_eq_true_iff]
 have hl : s.data.toList.length = s.size := Array.length_toList
 constructor
 ·intro h j hj
  have := h (s.data.toList[j]'(by omega)) (List.getElem_mem _)
  unfold sby
  rw [List.getD_eq_getElem?_getD, List.getElem?_eq_getElem (by omega)]
  exact this
 ·intro h b hb
  obtain ⟨j, hj, rfl⟩ := List.getElem_of_mem hb
  have := h j (by omega)
  unfold sby at this
  rw [List.getD_eq_getElem?_getD, List.getElem?_eq_getElem hj] at this
  exact this
theorem allIn_key (s : ByteArray) : allIn s keyS = decide (∀ j, j < s.size → keyB (sby s j) = true) := by
 rw [← all_sby]
 unfold allIn
 congr 1
 funext b
 exact keyS_has b
theorem allIn_small (s : ByteArray) (h : 1 ≤ s.size) : allIn (s.extract 0 1) smallS = smallB (sby s 0) := by
 have h1 : allIn (s.extract 0 1) smallS = (s.extract 0 1).data.toList.all (fun b => smallB (b.toNat : Int)) := by
  unfold allIn
  congr 1
  funext b
  exact smallS_has b
 rw [h1, all_sby]
 have hs : (s.extract 0 1).size = 1 := by simp; omega
 have h0 : sby (s.extract 0 1) 0 = sby s 0 := by
  unfold sby
  simp only [ByteArray.data_extract, Array.toList_extract, List.getD_eq_getElem?_getD]
  simp
 rw [hs]
 rw [Bool.eq_iff_iff, decide_eq_true_iff]
 constructor
 ·intro h; rw [← h0]; exact h 0 (by omega)
 ·intro h j hj
  rw [show j = 0 by omega, h0]
  exact h

theorem keyOf_fn (s : ByteArray) : PFn Tryd.prog 40 [.str s] (· = .bool (isKey s)) := by
 refine PFn.mk (Spec.body Tryd.func40 rfl rfl (Tryd.ntmps40) rfl fun w0 own0 M => ?_)
 by_cases h1 : (s.size : Int) ≥ 1
 rotate_left
 ·repeat' (first | refine goH ?_ | refine goV ?_ | refine goB (fun b => ?_) | refine goC (fun ad cap => ?_) | refine goG ?_ | (refine Ops.k_guard ?_; first | (refine Ops.guard_dec rfl rfl ?_ ?_ <;> intro hc <;> try omega) | refine Ops.guard_split rfl rfl ?_ ?_ <;> intro hc) | refine goI ?_ | (refine Cw.k_cond ?_; first | (refine Cw.cond_dec rfl ?_ ?_ <;> intro hc <;> try omega) | refine Cw.cond_bool rfl ?_ ?_ <;> intro hc) | refine goR ?_ | refine goP ?_ | apply PSeq.cons | apply PSeq.yes rfl rfl rfl | exact goW | fail)
  refine Fin.ret Ent.refl (Outs.one rfl rfl) ⟨rfl, congrArg Tr.bool ?_⟩
  unfold isKey
  exact (decide_eq_false (by omega)).symm
 by_cases h2 : (s.size : Int) ≤ 40
 rotate_left
 ·repeat' (first | refine goH ?_ | refine goV ?_ | refine goB (fun b => ?_) | refine goC (fun ad cap => ?_) | refine goG ?_ | (refine Ops.k_guard ?_; first | (refine Ops.guard_dec rfl rfl ?_ ?_ <;> intro hc <;> try omega) | refine Ops.guard_split rfl rfl ?_ ?_ <;> intro hc) | refine goI ?_ | (refine Cw.k_cond ?_; first | (refine Cw.cond_dec rfl ?_ ?_ <;> intro hc <;> try omega) | refine Cw.cond_bool rfl ?_ ?_ <;> intro hc) | refine goR ?_ | refine goP ?_ | apply PSeq.cons | apply PSeq.yes rfl rfl rfl | exact goW | fail)
  refine Fin.ret Ent.refl (Outs.one rfl rfl) ⟨rfl, congrArg Tr.bool ?_⟩
  unfold isKey
  exact (decide_eq_false (by omega)).symm
 have hm1 := made_fn s keyS (by omega) (by decide) (by decide) (by decide)
 have hm2 := made_fn (s.extract 0 1) smallS (by simp; omega) (by decide) (by decide) (by decide)
 rw [allIn_key] at hm1
 rw [allIn_small s (by omega)] at hm2
 by_cases h3 : ∀ j, j < s.size → keyB (sby s j) = true
 rotate_left
 ·rw [decide_eq_false h3] at hm1
  repeat' (first | refine goH ?_ | refine goV ?_ | refine goB (fun b => ?_) | refine goC (fun ad cap => ?_) | refine goG ?_ | (refine Ops.k_guard ?_; first | (refine Ops.guard_dec rfl rfl ?_ ?_ <;> intro hc <;> try omega) | refine Ops.guard_split rfl rfl ?_ ?_ <;> intro hc) | refine goI ?_ | (refine Cw.k_cond ?_; first | (refine Cw.cond_dec rfl ?_ ?_ <;> intro hc <;> try omega) | refine Cw.cond_bool rfl ?_ ?_ <;> intro hc) | (refine Ops.k_calla ?_; first | (refine Ops.k_callf 67 ?_; refine Ops.callV hm1 (Evs.cons rfl (Evs.cons rfl Evs.nil)) rfl ?_)) | (apply OpW.k_call; first | (apply OpW.k_callf 67; exact OpW.callV hm1 (Evs.cons rfl (Evs.cons rfl Evs.nil)))) | refine goR ?_ | refine goP ?_ | apply PSeq.cons | apply PSeq.yes rfl rfl rfl | exact goW | fail)
  refine Fin.ret Ent.refl (Outs.one rfl rfl) ⟨rfl, congrArg Tr.bool ?_⟩
  unfold isKey
  exact (decide_eq_false (fun h => h3 h.2.2.2)).symm
 rw [decide_eq_true h3] at hm1
 repeat' (first | refine goH ?_ | refine goV ?_ | refine goB (fun b => ?_) | refine goC (fun ad cap => ?_) | refine goG ?_ | (refine Ops.k_guard ?_; first | (refine Ops.guard_dec rfl rfl ?_ ?_ <;> intro hc <;> try omega) | refine Ops.guard_split rfl rfl ?_ ?_ <;> intro hc) | refine goI ?_ | (refine Cw.k_cond ?_; first | (refine Cw.cond_dec rfl ?_ ?_ <;> intro hc <;> try omega) | refine Cw.cond_bool rfl ?_ ?_ <;> intro hc) | (refine Ops.k_calla ?_; first | (refine Ops.k_callf 67 ?_; refine Ops.callV hm1 (Evs.cons rfl (Evs.cons rfl Evs.nil)) rfl ?_) | (refine Ops.k_callf 67 ?_; refine Ops.callV hm2 (Evs.cons rfl (Evs.cons rfl Evs.nil)) rfl ?_)) | (apply OpW.k_call; first | (apply OpW.k_callf 67; exact OpW.callV hm1 (Evs.cons rfl (Evs.cons rfl Evs.nil))) | (apply OpW.k_callf 67; exact OpW.callV hm2 (Evs.cons rfl (Evs.cons rfl Evs.nil)))) | refine goR ?_ | refine goP ?_ | apply PSeq.cons | apply PSeq.yes rfl rfl rfl | exact goW | fail)
 refine Fin.ret Ent.refl (Outs.one rfl rfl) ⟨rfl, congrArg Tr.bool ?_⟩
 unfold isKey
 rw [Bool.eq_iff_iff, decide_eq_true_iff]
 exact ⟨fun h => ⟨by omega, by omega, h, h3⟩, fun h => h.2.2.1⟩
attribute [irreducible] isKey
end Lg
end
