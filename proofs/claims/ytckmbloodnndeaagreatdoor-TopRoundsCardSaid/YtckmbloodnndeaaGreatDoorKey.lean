/- A part of the proof of a law of this seat: it adds no condition. By an AI agent. -/
import Derived.Shelf.Strings.SlTrimAscii
import Derived.Test.YtckmbloodnndeaaGreatDoorProg
import Derived.Test.YtckmbloodnndeaaGreatDoorLgGo
import Derived.Test.YtckmbloodnndeaaGreatDoorIntTk
section
set_option linter.all false
set_option maxRecDepth 100000
set_option maxHeartbeats 1000000
namespace Lg
open Go Go.Proofs

theorem drop_at {α : Type} {l : List α} {k : Nat} {x : α} (h : l[k]? = some x) : l.drop k = x :: l.drop (k + 1) := by
  obtain ⟨hk, rfl⟩ := List.getElem?_eq_some_iff.1 h
  exact List.drop_eq_getElem_cons hk
theorem take_at {α : Type} {l : List α} {k : Nat} {x : α} (h : l[k]? = some x) : l.take (k + 1) = l.take k ++ [x] := by
  obtain ⟨hk, rfl⟩ := List.getElem?_eq_some_iff.1 h
  rw [List.take_add_one, h]
  rfl
theorem at_lt {α : Type} {l : List α} {k : Nat} (h : k < l.length) : ∃ x, l[k]? = some x := ⟨_, List.getElem?_eq_getElem h⟩

theorem outB_f {n lo hi : Int} : outB n lo hi = false ↔ (lo ≤ n ∧ n ≤ hi) := by simp [outB]
theorem out_t (n lo hi : Int) (h : n < lo ∨ hi < n) : PFn Tryz.prog 50 [.int n, .int lo, .int hi] (· = .bool true) := by
  have := out_fn n lo hi
  rwa [show outB n lo hi = true from outB_eq.2 h] at this
theorem out_f (n lo hi : Int) (h : lo ≤ n ∧ n ≤ hi) : PFn Tryz.prog 50 [.int n, .int lo, .int hi] (· = .bool false) := by
  have := out_fn n lo hi
  rwa [show outB n lo hi = false by unfold outB; exact decide_eq_false (by omega)] at this

section
variable {Γ : Ctx} {env : Env} {cs : List Chunk} {x y : Operand} {T2 ty : TypeId}
theorem OpV.eqb {a b : Bool} (hx : ev env x = some (Tr.bool a)) (hy : ev env y = some (Tr.bool b)) : OpV Tryz.prog Γ (.binOp .eql 4 x y T2) ty env cs (.bool (a == b)) := by
  unfold OpV
  intro ac w d
  have h1 := rd_raw (d.ev hx)
  have h2 := rd_raw (d.ev hy)
  have h3 := run_eql_bool (P := Tryz.prog) w 4 a b Tryz.underlying4
  exact ⟨.bool (a == b), by simp [execOp, h1, h2, h3, eqGuard], by unfold Tr.bool Tr.raw; rfl⟩
end
end Lg
end
section
/-
  DERIVED: THE SHELF's CONTRACTS AT THIS DUMP, IN PLAIN WORDS (tools/lay-plain.mjs out of 'YtckmbloodnndeaaGreatDoorShelfRaw.lean', which tools/lay-shelf.mjs wrote): THE SAME DECLARATIONS UNDER THE SAME NAMES: 'import', 'namespace', 'open', 'def', 'theorem' AND NOTHING ELSE: no command of the shelf's: FOR A HAND-IN. Each laying: the table of numbers ('.._ren') and one theorem, a field a fact of the dump's own or the kernel's comparison; each contract: ONE APPLICATION.
-/
namespace Go.Proofs
open Go.Shelf
def Tryz.lays160_ren : Go.Shelf.Ren := ⟨fun | 160 => 84 | 232 => 106 | 231 => 105 | 227 => 107 | 234 => 109 | 233 => 108 | 236 => 111 | 235 => 110 | 228 => 141 | 271 => 143 | 151 => 142 | 197 => 114 | 120 => 174 | 152 => 173 | 260 => 148 | 137 => 205 | 119 => 206 | 224 => 182 | 225 => 181 | 217 => 180 | 266 => 209 | n => n, fun | 9 => 9 | 4 => 4 | 3 => 3 | 5 => 5 | 117 => 170 | 116 => 169 | 0 => 0 | 124 => 173 | 21 => 21 | 105 => 175 | 46 => 215 | 119 => 258 | 139 => 261 | 138 => 260 | n => n, fun | 3 => 1 | 4 => 2 | n => n⟩
theorem Tryz.lays160 : Go.Proofs.Lays.n160 Tryz.prog Tryz.lays160_ren := {
  mixed := by kernel_rfl
  f119 := Tryz.func206.trans (congrArg some (by kernel_rfl))
  f120 := Tryz.func174.trans (congrArg some (by kernel_rfl))
  f137 := Tryz.func205.trans (congrArg some (by kernel_rfl))
  f151 := Tryz.func142.trans (congrArg some (by kernel_rfl))
  f152 := Tryz.func173.trans (congrArg some (by kernel_rfl))
  f160 := Tryz.func84.trans (congrArg some (by kernel_rfl))
  f197 := Tryz.func114.trans (congrArg some (by kernel_rfl))
  f217 := Tryz.func180.trans (congrArg some (by kernel_rfl))
  f224 := Tryz.func182.trans (congrArg some (by kernel_rfl))
  f225 := Tryz.func181.trans (congrArg some (by kernel_rfl))
  f227 := Tryz.func107.trans (congrArg some (by kernel_rfl))
  f228 := Tryz.func141.trans (congrArg some (by kernel_rfl))
  f231 := Tryz.func105.trans (congrArg some (by kernel_rfl))
  f232 := Tryz.func106.trans (congrArg some (by kernel_rfl))
  f233 := Tryz.func108.trans (congrArg some (by kernel_rfl))
  f234 := Tryz.func109.trans (congrArg some (by kernel_rfl))
  f235 := Tryz.func110.trans (congrArg some (by kernel_rfl))
  f236 := Tryz.func111.trans (congrArg some (by kernel_rfl))
  f260 := Tryz.func148.trans (congrArg some (by kernel_rfl))
  f266 := Tryz.func209.trans (congrArg some (by kernel_rfl))
  f271 := Tryz.func143.trans (congrArg some (by kernel_rfl))
  t0 := Tryz.underlying0
  a0 := Tryz.isAgg0
  z0 := Tryz.sizeOf0
  v0 := Tryz.zeroValue0
  t3 := Tryz.underlying3
  a3 := Tryz.isAgg3
  z3 := Tryz.sizeOf3
  v3 := Tryz.zeroValue3
  t4 := Tryz.underlying4
  a4 := Tryz.isAgg4
  z4 := Tryz.sizeOf4
  v4 := Tryz.zeroValue4
  t5 := Tryz.underlying5
  a5 := Tryz.isAgg5
  z5 := Tryz.sizeOf5
  v5 := Tryz.zeroValue5
  t9 := Tryz.underlying9
  a9 := Tryz.isAgg9
  z9 := Tryz.sizeOf9
  v9 := Tryz.zeroValue9
  t21 := Tryz.underlying21
  a21 := Tryz.isAgg21
  z21 := Tryz.sizeOf21
  v21 := Tryz.zeroValue21
  t46 := Tryz.underlying215
  a46 := Tryz.isAgg215
  z46 := Tryz.sizeOf215
  v46 := Tryz.zeroValue215
  t105 := Tryz.underlying175
  a105 := Tryz.isAgg175
  z105 := Tryz.sizeOf175
  v105 := Tryz.zeroValue175
  t116 := Tryz.underlying169
  a116 := Tryz.isAgg169
  z116 := Tryz.sizeOf169
  t117 := Tryz.underlying170
  a117 := Tryz.isAgg170
  z117 := Tryz.sizeOf170
  v117 := Tryz.zeroValue170
  t119 := Tryz.underlying258
  a119 := Tryz.isAgg258
  z119 := Tryz.sizeOf258
  t124 := Tryz.underlying173
  a124 := Tryz.isAgg173
  z124 := Tryz.sizeOf173
  v124 := Tryz.zeroValue173
  t138 := Tryz.underlying260
  a138 := Tryz.isAgg260
  z138 := Tryz.sizeOf260
  v138 := Tryz.zeroValue260
  t139 := Tryz.underlying261
  a139 := Tryz.isAgg261
  z139 := Tryz.sizeOf261
  v139 := Tryz.zeroValue261
  g3 := by kernel_rfl
  g4 := by kernel_rfl }
end Go.Proofs
end
section
set_option linter.all false
set_option maxRecDepth 100000
set_option maxHeartbeats 4000000
namespace Lg
open Go Go.Proofs

def smallB (b : Int) : Bool := decide (97 ≤ b ∧ b ≤ 122)
def keyB (b : Int) : Bool := decide ((97 ≤ b ∧ b ≤ 122) ∨ (48 ≤ b ∧ b ≤ 57) ∨ b = 45 ∨ b = 95)
/-- what a key is -/
def isKey (s : ByteArray) : Bool := decide (1 ≤ s.size ∧ s.size ≤ 40 ∧ smallB (sby s 0) = true ∧ ∀ j, j < s.size → keyB (sby s j) = true)

theorem str_empty (s : ByteArray) : s = ⟨#[]⟩ ↔ s.size = 0 := by
  constructor
  · rintro rfl; rfl
  · intro h
    apply ByteArray.ext
    apply Array.eq_empty_of_size_eq_zero
    simpa using h

theorem sby_range (s : ByteArray) (j : Nat) : 0 ≤ sby s j ∧ sby s j ≤ 255 := by
  unfold sby
  have := (s.data.toList.getD j 0).toNat_lt
  omega

theorem key_fn (s : ByteArray) : PFn Tryz.prog 63 [.str s] (· = .bool (isKey s)) := by
  refine PFn.mk (Spec.body Tryz.func63 rfl rfl (Tryz.ntmps63) rfl fun w0 own0 M => ?_)
  have hb := sby_range s 0
  by_cases h0 : s = ⟨#[]⟩
  · have h1 := (str_empty s).1 h0
    repeat' (first | refine goH ?_ | refine goV ?_ | refine goG ?_ | (refine Ops.k_guard ?_; first | (refine Ops.guard_dec rfl rfl (fun hc => ?_) (fun hc => ?_) <;> try (exfalso; omega)) | refine Ops.guard_split rfl rfl (fun hc => ?_) (fun hc => ?_)) | refine goI ?_ | (refine Cw.k_cond ?_; first | (refine Cw.cond_dec rfl (fun hc => ?_) (fun hc => ?_) <;> try (exfalso; omega)) | refine Cw.cond_bool rfl (fun hc => ?_) (fun hc => ?_)) | fail)
    refine Fin.ret Ent.refl (Outs.one rfl rfl) ⟨rfl, congrArg Tr.bool ?_⟩
    unfold isKey
    exact (decide_eq_false (by omega)).symm
  have h1 : s.size ≠ 0 := fun h => h0 ((str_empty s).2 h)
  by_cases h2 : (s.size : Int) > 40
  · repeat' (first | refine goH ?_ | refine goV ?_ | refine goG ?_ | (refine Ops.k_guard ?_; first | (refine Ops.guard_dec rfl rfl (fun hc => ?_) (fun hc => ?_) <;> try (exfalso; omega)) | refine Ops.guard_split rfl rfl (fun hc => ?_) (fun hc => ?_)) | refine goI ?_ | (refine Cw.k_cond ?_; first | (refine Cw.cond_dec rfl (fun hc => ?_) (fun hc => ?_) <;> try (exfalso; omega)) | refine Cw.cond_bool rfl (fun hc => ?_) (fun hc => ?_)) | fail)
    refine Fin.ret Ent.refl (Outs.one rfl rfl) ⟨rfl, congrArg Tr.bool ?_⟩
    unfold isKey
    exact (decide_eq_false (by omega)).symm
  by_cases h3 : smallB (sby s 0) = true
  rotate_left
  · have h3' : sby s 0 < 97 ∨ sby s 0 > 122 := by simp [smallB] at h3; omega
    repeat' (first | refine goH ?_ | refine goV ?_ | refine goG ?_ | (refine Ops.k_guard ?_; first | (refine Ops.guard_dec rfl rfl (fun hc => ?_) (fun hc => ?_) <;> try (exfalso; omega)) | refine Ops.guard_split rfl rfl (fun hc => ?_) (fun hc => ?_)) | refine goI ?_ | (refine Cw.k_cond ?_; first | (refine Cw.cond_dec rfl (fun hc => ?_) (fun hc => ?_) <;> try (exfalso; omega)) | refine Cw.cond_bool rfl (fun hc => ?_) (fun hc => ?_)) | fail)
    all_goals
      refine Fin.ret Ent.refl (Outs.one rfl rfl) ⟨rfl, congrArg Tr.bool ?_⟩
      unfold isKey
      exact (decide_eq_false (fun h => h3 h.2.2.1)).symm
  have h3' : 97 ≤ sby s 0 ∧ sby s 0 ≤ 122 := by simpa [smallB] using h3
  repeat' (first | refine goH ?_ | refine goV ?_ | refine goG ?_ | (refine Ops.k_guard ?_; first | (refine Ops.guard_dec rfl rfl (fun hc => ?_) (fun hc => ?_) <;> try (exfalso; omega)) | refine Ops.guard_split rfl rfl (fun hc => ?_) (fun hc => ?_)) | refine goI ?_ | (refine Cw.k_cond ?_; first | (refine Cw.cond_dec rfl (fun hc => ?_) (fun hc => ?_) <;> try (exfalso; omega)) | refine Cw.cond_bool rfl (fun hc => ?_) (fun hc => ?_)) | fail)
  refine Cw.loop (ι := Nat) (fun k => k ≤ s.size ∧ ∀ j, j < k → keyB (sby s j) = true) (fun k => [(0, .str s), (23, .int s.size), (24, .int k)]) (fun _ => []) (fun k => s.size - k) ⟨0, ⟨by omega, fun _ h => by omega⟩, (Ent.mk goSub goTk)⟩ ?_
  rintro k ⟨hk, hall⟩
  by_cases hkl : k < s.size
  · have hbk := sby_range s k
    by_cases hkey : keyB (sby s k) = true
    · have hkey' : (97 ≤ sby s k ∧ sby s k ≤ 122) ∨ (48 ≤ sby s k ∧ sby s k ≤ 57) ∨ sby s k = 45 ∨ sby s k = 95 := by simpa [keyB] using hkey
      repeat' (first | refine goH ?_ | refine goV ?_ | refine goG ?_ | (refine Ops.k_guard ?_; first | (refine Ops.guard_dec rfl rfl (fun hc => ?_) (fun hc => ?_) <;> try (exfalso; omega)) | refine Ops.guard_split rfl rfl (fun hc => ?_) (fun hc => ?_)) | refine goI ?_ | (refine Cw.k_cond ?_; first | (refine Cw.cond_dec rfl (fun hc => ?_) (fun hc => ?_) <;> try (exfalso; omega)) | refine Cw.cond_bool rfl (fun hc => ?_) (fun hc => ?_)) | fail)
      all_goals (refine ⟨k + 1, ⟨by omega, fun j hj => ?_⟩, by omega, (Ent.mk goSub goTk)⟩; rcases Nat.lt_succ_iff_lt_or_eq.1 hj with hj | rfl; exact hall j hj; exact hkey)
    · have hkey' : ¬ ((97 ≤ sby s k ∧ sby s k ≤ 122) ∨ (48 ≤ sby s k ∧ sby s k ≤ 57) ∨ sby s k = 45 ∨ sby s k = 95) := by simpa [keyB] using hkey
      repeat' (first | refine goH ?_ | refine goV ?_ | refine goG ?_ | (refine Ops.k_guard ?_; first | (refine Ops.guard_dec rfl rfl (fun hc => ?_) (fun hc => ?_) <;> try (exfalso; omega)) | refine Ops.guard_split rfl rfl (fun hc => ?_) (fun hc => ?_)) | refine goI ?_ | (refine Cw.k_cond ?_; first | (refine Cw.cond_dec rfl (fun hc => ?_) (fun hc => ?_) <;> try (exfalso; omega)) | refine Cw.cond_bool rfl (fun hc => ?_) (fun hc => ?_)) | fail)
      all_goals (refine Fin.ret Ent.refl (Outs.one rfl rfl) ⟨rfl, congrArg Tr.bool ?_⟩; unfold isKey; exact (decide_eq_false (fun h => hkey (h.2.2.2 k hkl))).symm)
  · repeat' (first | refine goH ?_ | refine goV ?_ | refine goG ?_ | (refine Ops.k_guard ?_; first | (refine Ops.guard_dec rfl rfl (fun hc => ?_) (fun hc => ?_) <;> try (exfalso; omega)) | refine Ops.guard_split rfl rfl (fun hc => ?_) (fun hc => ?_)) | refine goI ?_ | (refine Cw.k_cond ?_; first | (refine Cw.cond_dec rfl (fun hc => ?_) (fun hc => ?_) <;> try (exfalso; omega)) | refine Cw.cond_bool rfl (fun hc => ?_) (fun hc => ?_)) | fail)
    refine Fin.ret Ent.refl (Outs.one rfl rfl) ⟨rfl, congrArg Tr.bool ?_⟩
    unfold isKey
    exact (decide_eq_true ⟨by omega, by omega, h3, fun j hj => hall j (by omega)⟩).symm

/-! ### the reference's own -/
theorem trim_fn (s of : ByteArray) (hs : s.size ≤ 9223372036854775807) (h2 : 2 ≤ of.size) (hcs : of.size < 4294967281) (ha : of.data.toList.all (fun b => decide (b.toNat < 128)) = true) :
    PFn Tryz.prog 84 [.str s, .str of] (· = .str ⟨(Lib.trimS s.data.toList of.data.toList).toArray⟩) :=
  PFn.of_calls (args := [.string s, .string of]) (fun vs w => rfl) fun w => by
    have hz : (Tryz.prog.info? (Tryz.lays160_ren.t 116)).map (fun i => (i.zero, i.size)) = some (some (.agg (Array.replicate 256 (.bool false))), 256) := by kernel_rfl
    by_cases h0 : s.size = 0
    · refine (Any.strings_Trim_empty Tryz.lays160 s of w (.inl h0)).mono fun e w' ⟨h1, h2⟩ => ⟨?_, h2 ▸ ⟨rfl, rfl, rfl, Nat.le_refl _, fun _ _ => rfl⟩, fun _ => h2 ▸ Nat.le_refl _⟩
      have hl : s.data.toList = [] := List.eq_nil_of_length_eq_zero (by rw [← Lib.size_eq]; exact h0)
      rw [h1, hl]
      congr 2
      rw [← Lib.mk_data s, hl]
      rfl
    · refine (Any.strings_Trim_set Tryz.lays160 (zero_of_info hz).1 (zero_of_info hz).2 s of w h2 (by omega) hs hcs (ascii_of_all ha)).mono fun e w' ⟨h1, q, h2⟩ => ⟨h1, ?_, fun _ => ?_⟩
      · subst h2
        exact (((Go.RowKit.Below.mk rfl rfl rfl (Nat.le_refl _) (fun _ _ => rfl) : Go.RowKit.Below w.heap.size w w).alloc (Nat.le_refl _) _).alloc (by simp) _).trans ⟨rfl, rfl, rfl, Nat.le_refl _, fun _ _ => rfl⟩
      · subst h2
        exact Nat.le_add_right _ _

theorem dropWhile_nil {α : Type} (p : α → Bool) : ∀ (l : List α), l.dropWhile p = [] ↔ l.all p = true
  | [] => by simp
  | a :: l => by
    rw [List.dropWhile_cons]
    cases h : p a with
    | true => simp [h, dropWhile_nil p l]
    | false => simp [h]
theorem trimS_nil (l cs : List UInt8) : Lib.trimS l cs = [] ↔ l.all (cs.contains ·) = true := by
  unfold Lib.trimS Lib.trimLeftS
  rw [dropWhile_nil]
  unfold Lib.trimRightS
  constructor
  · intro h
    by_cases hn : l.reverse.dropWhile (cs.contains ·) = []
    · have := (dropWhile_nil _ _).1 hn
      rwa [List.all_reverse] at this
    · exfalso
      have hm := List.head_mem hn
      have h1 : cs.contains ((l.reverse.dropWhile (cs.contains ·)).head hn) = false := by
        have := List.head_dropWhile_not (cs.contains ·) hn
        simpa using this
      have h2 := List.all_eq_true.1 h _ (List.mem_reverse.2 hm)
      rw [h1] at h2
      cases h2
  · intro h
    rw [List.all_eq_true] at h ⊢
    intro x hx
    exact h x (by
      have h1 := List.mem_reverse.1 hx
      have h2 := (List.dropWhile_sublist _).mem h1
      exact List.mem_reverse.1 h2)

def allIn (s of : ByteArray) : Bool := s.data.toList.all (of.data.toList.contains ·)
theorem made_fn (s of : ByteArray) (hs : s.size ≤ 9223372036854775807) (h2 : 2 ≤ of.size) (hcs : of.size < 4294967281) (ha : of.data.toList.all (fun b => decide (b.toNat < 128)) = true) :
    PFn Tryz.prog 56 [.str s, .str of] (· = .bool (allIn s of)) := by
  refine PFn.mk (Spec.body Tryz.func56 rfl rfl (Tryz.ntmps56) rfl fun w0 own0 M => ?_)
  repeat' (first | refine goH ?_ | refine goV ?_ | refine goI ?_ | (refine Cw.k_cond ?_; first | (refine Cw.cond_dec rfl (fun hc => ?_) (fun hc => ?_) <;> try (exfalso; omega)) | refine Cw.cond_bool rfl (fun hc => ?_) (fun hc => ?_)) | (refine Ops.k_calla ?_; first | (refine Ops.k_callf 84 ?_; refine Ops.callV (trim_fn s of hs h2 hcs ha) (Evs.cons rfl (Evs.cons rfl Evs.nil)) rfl ?_)) | fail)
  refine Fin.ret Ent.refl (Outs.one rfl rfl) ⟨rfl, congrArg Tr.bool ?_⟩
  unfold allIn
  rw [Bool.eq_iff_iff, decide_eq_true_iff, ← trimS_nil, str_empty]
  cases Lib.trimS s.data.toList of.data.toList with
  | nil => simp [ByteArray.size]
  | cons a l => simp [ByteArray.size]

def smallS : ByteArray := ⟨#[97, 98, 99, 100, 101, 102, 103, 104, 105, 106, 107, 108, 109, 110, 111, 112, 113, 114, 115, 116, 117, 118, 119, 120, 121, 122]⟩
def keyS : ByteArray := ⟨#[97, 98, 99, 100, 101, 102, 103, 104, 105, 106, 107, 108, 109, 110, 111, 112, 113, 114, 115, 116, 117, 118, 119, 120, 121, 122, 48, 49, 50, 51, 52, 53, 54, 55, 56, 57, 45, 95]⟩
theorem keyS_has (b : UInt8) : keyS.data.toList.contains b = keyB (b.toNat : Int) := by
  have h : ∀ n, n < 256 → keyS.data.toList.contains (UInt8.ofNat n) = keyB ((UInt8.ofNat n).toNat : Int) := by decide +kernel
  have := h b.toNat b.toNat_lt
  rwa [UInt8.ofNat_toNat] at this
theorem smallS_has (b : UInt8) : smallS.data.toList.contains b = smallB (b.toNat : Int) := by
  have h : ∀ n, n < 256 → smallS.data.toList.contains (UInt8.ofNat n) = smallB ((UInt8.ofNat n).toNat : Int) := by decide +kernel
  have := h b.toNat b.toNat_lt
  rwa [UInt8.ofNat_toNat] at this
theorem all_sby (s : ByteArray) (p : Int → Bool) : s.data.toList.all (fun b => p (b.toNat : Int)) = decide (∀ j, j < s.size → p (sby s j) = true) := by
  rw [Bool.eq_iff_iff, List.all_eq_true, decide_eq_true_iff]
  have hl : s.data.toList.length = s.size := Array.length_toList
  constructor
  · intro h j hj
    have := h (s.data.toList[j]'(by omega)) (List.getElem_mem _)
    unfold sby
    rw [List.getD_eq_getElem?_getD, List.getElem?_eq_getElem (by omega)]
    exact this
  · intro h b hb
    obtain ⟨j, hj, rfl⟩ := List.getElem_of_mem hb
    have := h j (by omega)
    unfold sby at this
    rw [List.getD_eq_getElem?_getD, List.getElem?_eq_getElem hj] at this
    exact this
theorem allIn_key (s : ByteArray) : allIn s keyS = decide (∀ j, j < s.size → keyB (sby s j) = true) := by
  rw [← all_sby]
  unfold allIn
  congr 1
  funext b
  exact keyS_has b
theorem allIn_small (s : ByteArray) (h : 1 ≤ s.size) : allIn (s.extract 0 1) smallS = smallB (sby s 0) := by
  have h1 : allIn (s.extract 0 1) smallS = (s.extract 0 1).data.toList.all (fun b => smallB (b.toNat : Int)) := by
    unfold allIn
    congr 1
    funext b
    exact smallS_has b
  rw [h1, all_sby]
  have hs : (s.extract 0 1).size = 1 := by simp; omega
  have h0 : sby (s.extract 0 1) 0 = sby s 0 := by
    unfold sby
    simp only [ByteArray.data_extract, Array.toList_extract, List.getD_eq_getElem?_getD]
    simp
  rw [hs]
  rw [Bool.eq_iff_iff, decide_eq_true_iff]
  constructor
  · intro h; rw [← h0]; exact h 0 (by omega)
  · intro h j hj
    rw [show j = 0 by omega, h0]
    exact h

theorem keyOf_fn (s : ByteArray) : PFn Tryz.prog 24 [.str s] (· = .bool (isKey s)) := by
  refine PFn.mk (Spec.body Tryz.func24 rfl rfl (Tryz.ntmps24) rfl fun w0 own0 M => ?_)
  by_cases h1 : (s.size : Int) ≥ 1
  rotate_left
  · repeat' (first | refine goH ?_ | refine goV ?_ | refine goG ?_ | (refine Ops.k_guard ?_; first | (refine Ops.guard_dec rfl rfl (fun hc => ?_) (fun hc => ?_) <;> try (exfalso; omega)) | refine Ops.guard_split rfl rfl (fun hc => ?_) (fun hc => ?_)) | refine goI ?_ | (refine Cw.k_cond ?_; first | (refine Cw.cond_dec rfl (fun hc => ?_) (fun hc => ?_) <;> try (exfalso; omega)) | refine Cw.cond_bool rfl (fun hc => ?_) (fun hc => ?_)) | fail)
    refine Fin.ret Ent.refl (Outs.one rfl rfl) ⟨rfl, congrArg Tr.bool ?_⟩
    unfold isKey
    exact (decide_eq_false (by omega)).symm
  by_cases h2 : (s.size : Int) ≤ 40
  rotate_left
  · repeat' (first | refine goH ?_ | refine goV ?_ | refine goG ?_ | (refine Ops.k_guard ?_; first | (refine Ops.guard_dec rfl rfl (fun hc => ?_) (fun hc => ?_) <;> try (exfalso; omega)) | refine Ops.guard_split rfl rfl (fun hc => ?_) (fun hc => ?_)) | refine goI ?_ | (refine Cw.k_cond ?_; first | (refine Cw.cond_dec rfl (fun hc => ?_) (fun hc => ?_) <;> try (exfalso; omega)) | refine Cw.cond_bool rfl (fun hc => ?_) (fun hc => ?_)) | fail)
    refine Fin.ret Ent.refl (Outs.one rfl rfl) ⟨rfl, congrArg Tr.bool ?_⟩
    unfold isKey
    exact (decide_eq_false (by omega)).symm
  have hm1 := made_fn s keyS (by omega) (by decide) (by decide) (by decide)
  have hm2 := made_fn (s.extract 0 1) smallS (by simp; omega) (by decide) (by decide) (by decide)
  rw [allIn_key] at hm1
  rw [allIn_small s (by omega)] at hm2
  by_cases h3 : ∀ j, j < s.size → keyB (sby s j) = true
  rotate_left
  · rw [decide_eq_false h3] at hm1
    repeat' (first | refine goH ?_ | refine goV ?_ | refine goG ?_ | (refine Ops.k_guard ?_; first | (refine Ops.guard_dec rfl rfl (fun hc => ?_) (fun hc => ?_) <;> try (exfalso; omega)) | refine Ops.guard_split rfl rfl (fun hc => ?_) (fun hc => ?_)) | refine goI ?_ | (refine Cw.k_cond ?_; first | (refine Cw.cond_dec rfl (fun hc => ?_) (fun hc => ?_) <;> try (exfalso; omega)) | refine Cw.cond_bool rfl (fun hc => ?_) (fun hc => ?_)) | (refine Ops.k_calla ?_; first | (refine Ops.k_callf 56 ?_; refine Ops.callV hm1 (Evs.cons rfl (Evs.cons rfl Evs.nil)) rfl ?_)) | fail)
    refine Fin.ret Ent.refl (Outs.one rfl rfl) ⟨rfl, congrArg Tr.bool ?_⟩
    unfold isKey
    exact (decide_eq_false (fun h => h3 h.2.2.2)).symm
  rw [decide_eq_true h3] at hm1
  repeat' (first | refine goH ?_ | refine goV ?_ | refine goG ?_ | (refine Ops.k_guard ?_; first | (refine Ops.guard_dec rfl rfl (fun hc => ?_) (fun hc => ?_) <;> try (exfalso; omega)) | refine Ops.guard_split rfl rfl (fun hc => ?_) (fun hc => ?_)) | refine goI ?_ | (refine Cw.k_cond ?_; first | (refine Cw.cond_dec rfl (fun hc => ?_) (fun hc => ?_) <;> try (exfalso; omega)) | refine Cw.cond_bool rfl (fun hc => ?_) (fun hc => ?_)) | (refine Ops.k_calla ?_; first | (refine Ops.k_callf 56 ?_; refine Ops.callV hm1 (Evs.cons rfl (Evs.cons rfl Evs.nil)) rfl ?_) | (refine Ops.k_callf 56 ?_; refine Ops.callV hm2 (Evs.cons rfl (Evs.cons rfl Evs.nil)) rfl ?_)) | fail)
  refine Fin.ret Ent.refl (Outs.one rfl rfl) ⟨rfl, congrArg Tr.bool ?_⟩
  unfold isKey
  rw [Bool.eq_iff_iff, decide_eq_true_iff]
  exact ⟨fun h => ⟨by omega, by omega, h, h3⟩, fun h => h.2.2.1⟩
attribute [irreducible] isKey
end Lg
end
