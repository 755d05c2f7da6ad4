/- A part of the proof of a law of this seat: it adds no condition. By an AI agent. -/
import Derived.Test.YtaoclkglimibeaaGreatDoorLgGo
import Derived.Test.YtaoclkglimibeaaGreatDoorLgBit
import Derived.Test.YtaoclkglimibeaaGreatDoorShelf
section
set_option linter.all false
set_option maxRecDepth 100000
set_option maxHeartbeats 4000000
namespace Lg
open Go Go.Proofs

def smallB (b : Int) : Bool := decide (97 ≤ b ∧ b ≤ 122)
def keyB (b : Int) : Bool := decide ((97 ≤ b ∧ b ≤ 122) ∨ (48 ≤ b ∧ b ≤ 57) ∨ b = 45 ∨ b = 95)
/-- what a key is -/
def isKey (s : ByteArray) : Bool := decide (1 ≤ s.size ∧ s.size ≤ 40 ∧ smallB (sby s 0) = true ∧ ∀ j, j < s.size → keyB (sby s j) = true)

theorem str_empty (s : ByteArray) : s = ⟨#[]⟩ ↔ s.size = 0 := by
  constructor
  · rintro rfl; rfl
  · intro h
    apply ByteArray.ext
    apply Array.eq_empty_of_size_eq_zero
    simpa using h

theorem sby_range (s : ByteArray) (j : Nat) : 0 ≤ sby s j ∧ sby s j ≤ 255 := by
  unfold sby
  have := (s.data.toList.getD j 0).toNat_lt
  omega

theorem key_fn (s : ByteArray) : PFn Tryz.prog 78 [.str s] (· = .bool (isKey s)) := by
  refine PFn.mk (Spec.body Tryz.func78 rfl rfl (Tryz.ntmps78) rfl fun w0 own0 M => ?_)
  have hb := sby_range s 0
  by_cases h0 : s = ⟨#[]⟩
  · have h1 := (str_empty s).1 h0
    repeat' (first | refine goH ?_ | refine goV ?_ | refine goG ?_ | (refine Ops.k_guard ?_; first | (refine Ops.guard_dec rfl rfl (fun hc => ?_) (fun hc => ?_) <;> try (exfalso; omega)) | refine Ops.guard_split rfl rfl (fun hc => ?_) (fun hc => ?_)) | refine goI ?_ | (refine Cw.k_cond ?_; first | (refine Cw.cond_dec rfl (fun hc => ?_) (fun hc => ?_) <;> try (exfalso; omega)) | refine Cw.cond_bool rfl (fun hc => ?_) (fun hc => ?_)) | fail)
    refine Fin.ret Ent.refl (Outs.one rfl rfl) ⟨rfl, congrArg Tr.bool ?_⟩
    unfold isKey
    exact (decide_eq_false (by omega)).symm
  have h1 : s.size ≠ 0 := fun h => h0 ((str_empty s).2 h)
  by_cases h2 : (s.size : Int) > 40
  · repeat' (first | refine goH ?_ | refine goV ?_ | refine goG ?_ | (refine Ops.k_guard ?_; first | (refine Ops.guard_dec rfl rfl (fun hc => ?_) (fun hc => ?_) <;> try (exfalso; omega)) | refine Ops.guard_split rfl rfl (fun hc => ?_) (fun hc => ?_)) | refine goI ?_ | (refine Cw.k_cond ?_; first | (refine Cw.cond_dec rfl (fun hc => ?_) (fun hc => ?_) <;> try (exfalso; omega)) | refine Cw.cond_bool rfl (fun hc => ?_) (fun hc => ?_)) | fail)
    refine Fin.ret Ent.refl (Outs.one rfl rfl) ⟨rfl, congrArg Tr.bool ?_⟩
    unfold isKey
    exact (decide_eq_false (by omega)).symm
  by_cases h3 : smallB (sby s 0) = true
  rotate_left
  · have h3' : sby s 0 < 97 ∨ sby s 0 > 122 := by simp [smallB] at h3; omega
    repeat' (first | refine goH ?_ | refine goV ?_ | refine goG ?_ | (refine Ops.k_guard ?_; first | (refine Ops.guard_dec rfl rfl (fun hc => ?_) (fun hc => ?_) <;> try (exfalso; omega)) | refine Ops.guard_split rfl rfl (fun hc => ?_) (fun hc => ?_)) | refine goI ?_ | (refine Cw.k_cond ?_; first | (refine Cw.cond_dec rfl (fun hc => ?_) (fun hc => ?_) <;> try (exfalso; omega)) | refine Cw.cond_bool rfl (fun hc => ?_) (fun hc => ?_)) | fail)
    all_goals
      refine Fin.ret Ent.refl (Outs.one rfl rfl) ⟨rfl, congrArg Tr.bool ?_⟩
      unfold isKey
      exact (decide_eq_false (fun h => h3 h.2.2.1)).symm
  have h3' : 97 ≤ sby s 0 ∧ sby s 0 ≤ 122 := by simpa [smallB] using h3
  repeat' (first | refine goH ?_ | refine goV ?_ | refine goG ?_ | (refine Ops.k_guard ?_; first | (refine Ops.guard_dec rfl rfl (fun hc => ?_) (fun hc => ?_) <;> try (exfalso; omega)) | refine Ops.guard_split rfl rfl (fun hc => ?_) (fun hc => ?_)) | refine goI ?_ | (refine Cw.k_cond ?_; first | (refine Cw.cond_dec rfl (fun hc => ?_) (fun hc => ?_) <;> try (exfalso; omega)) | refine Cw.cond_bool rfl (fun hc => ?_) (fun hc => ?_)) | fail)
  refine Cw.loop (ι := Nat) (fun k => k ≤ s.size ∧ ∀ j, j < k → keyB (sby s j) = true) (fun k => [(0, .str s), (23, .int s.size), (24, .int k)]) (fun _ => []) (fun k => s.size - k) ⟨0, ⟨by omega, fun _ h => by omega⟩, (Ent.mk goSub goTk)⟩ ?_
  rintro k ⟨hk, hall⟩
  by_cases hkl : k < s.size
  · have hbk := sby_range s k
    by_cases hkey : keyB (sby s k) = true
    · have hkey' : (97 ≤ sby s k ∧ sby s k ≤ 122) ∨ (48 ≤ sby s k ∧ sby s k ≤ 57) ∨ sby s k = 45 ∨ sby s k = 95 := by simpa [keyB] using hkey
      repeat' (first | refine goH ?_ | refine goV ?_ | refine goG ?_ | (refine Ops.k_guard ?_; first | (refine Ops.guard_dec rfl rfl (fun hc => ?_) (fun hc => ?_) <;> try (exfalso; omega)) | refine Ops.guard_split rfl rfl (fun hc => ?_) (fun hc => ?_)) | refine goI ?_ | (refine Cw.k_cond ?_; first | (refine Cw.cond_dec rfl (fun hc => ?_) (fun hc => ?_) <;> try (exfalso; omega)) | refine Cw.cond_bool rfl (fun hc => ?_) (fun hc => ?_)) | fail)
      all_goals (refine ⟨k + 1, ⟨by omega, fun j hj => ?_⟩, by omega, (Ent.mk goSub goTk)⟩; rcases Nat.lt_succ_iff_lt_or_eq.1 hj with hj | rfl; exact hall j hj; exact hkey)
    · have hkey' : ¬ ((97 ≤ sby s k ∧ sby s k ≤ 122) ∨ (48 ≤ sby s k ∧ sby s k ≤ 57) ∨ sby s k = 45 ∨ sby s k = 95) := by simpa [keyB] using hkey
      repeat' (first | refine goH ?_ | refine goV ?_ | refine goG ?_ | (refine Ops.k_guard ?_; first | (refine Ops.guard_dec rfl rfl (fun hc => ?_) (fun hc => ?_) <;> try (exfalso; omega)) | refine Ops.guard_split rfl rfl (fun hc => ?_) (fun hc => ?_)) | refine goI ?_ | (refine Cw.k_cond ?_; first | (refine Cw.cond_dec rfl (fun hc => ?_) (fun hc => ?_) <;> try (exfalso; omega)) | refine Cw.cond_bool rfl (fun hc => ?_) (fun hc => ?_)) | fail)
      all_goals (refine Fin.ret Ent.refl (Outs.one rfl rfl) ⟨rfl, congrArg Tr.bool ?_⟩; unfold isKey; exact (decide_eq_false (fun h => hkey (h.2.2.2 k hkl))).symm)
  · repeat' (first | refine goH ?_ | refine goV ?_ | refine goG ?_ | (refine Ops.k_guard ?_; first | (refine Ops.guard_dec rfl rfl (fun hc => ?_) (fun hc => ?_) <;> try (exfalso; omega)) | refine Ops.guard_split rfl rfl (fun hc => ?_) (fun hc => ?_)) | refine goI ?_ | (refine Cw.k_cond ?_; first | (refine Cw.cond_dec rfl (fun hc => ?_) (fun hc => ?_) <;> try (exfalso; omega)) | refine Cw.cond_bool rfl (fun hc => ?_) (fun hc => ?_)) | fail)
    refine Fin.ret Ent.refl (Outs.one rfl rfl) ⟨rfl, congrArg Tr.bool ?_⟩
    unfold isKey
    exact (decide_eq_true ⟨by omega, by omega, h3, fun j hj => hall j (by omega)⟩).symm

/-! ### the reference's own -/
theorem trim_fn (s of : ByteArray) (hs : s.size ≤ 9223372036854775807) (h2 : 2 ≤ of.size) (hcs : of.size < 4294967281) (ha : of.data.toList.all (fun b => decide (b.toNat < 128)) = true) :
    PFn Tryz.prog 120 [.str s, .str of] (· = .str ⟨(Lib.trimS s.data.toList of.data.toList).toArray⟩) :=
  PFn.of_calls (args := [.string s, .string of]) (fun vs w => rfl) fun w => by
    have hz : (Tryz.prog.info? (Tryz.lays160_ren.t 116)).map (fun i => (i.zero, i.size)) = some (some (.agg (Array.replicate 256 (.bool false))), 256) := by kernel_rfl
    by_cases h0 : s.size = 0
    · refine (Any.strings_Trim_empty Tryz.lays160 s of w (.inl h0)).mono fun e w' ⟨h1, h2⟩ => ⟨?_, h2 ▸ ⟨rfl, rfl, rfl, Nat.le_refl _, fun _ _ => rfl⟩, fun _ => h2 ▸ Nat.le_refl _⟩
      have hl : s.data.toList = [] := List.eq_nil_of_length_eq_zero (by rw [← Lib.size_eq]; exact h0)
      rw [h1, hl]
      congr 2
      rw [← Lib.mk_data s, hl]
      rfl
    · refine (Any.strings_Trim_set Tryz.lays160 (zero_of_info hz).1 (zero_of_info hz).2 s of w h2 (by omega) hs hcs (ascii_of_all ha)).mono fun e w' ⟨h1, q, h2⟩ => ⟨h1, ?_, fun _ => ?_⟩
      · subst h2
        exact (((Go.RowKit.Below.mk rfl rfl rfl (Nat.le_refl _) (fun _ _ => rfl) : Go.RowKit.Below w.heap.size w w).alloc (Nat.le_refl _) _).alloc (by simp) _).trans ⟨rfl, rfl, rfl, Nat.le_refl _, fun _ _ => rfl⟩
      · subst h2
        exact Nat.le_add_right _ _

theorem dropWhile_nil {α : Type} (p : α → Bool) : ∀ (l : List α), l.dropWhile p = [] ↔ l.all p = true
  | [] => by simp
  | a :: l => by
    rw [List.dropWhile_cons]
    cases h : p a with
    | true => simp [h, dropWhile_nil p l]
    | false => simp [h]
theorem trimS_nil (l cs : List UInt8) : Lib.trimS l cs = [] ↔ l.all (cs.contains ·) = true := by
  unfold Lib.trimS Lib.trimLeftS
  rw [dropWhile_nil]
  unfold Lib.trimRightS
  constructor
  · intro h
    by_cases hn : l.reverse.dropWhile (cs.contains ·) = []
    · have := (dropWhile_nil _ _).1 hn
      rwa [List.all_reverse] at this
    · exfalso
      have hm := List.head_mem hn
      have h1 : cs.contains ((l.reverse.dropWhile (cs.contains ·)).head hn) = false := by
        have := List.head_dropWhile_not (cs.contains ·) hn
        simpa using this
      have h2 := List.all_eq_true.1 h _ (List.mem_reverse.2 hm)
      rw [h1] at h2
      cases h2
  · intro h
    rw [List.all_eq_true] at h ⊢
    intro x hx
    exact h x (by
      have h1 := List.mem_reverse.1 hx
      have h2 := (List.dropWhile_sublist _).mem h1
      exact List.mem_reverse.1 h2)

def allIn (s of : ByteArray) : Bool := s.data.toList.all (of.data.toList.contains ·)
theorem made_fn (s of : ByteArray) (hs : s.size ≤ 9223372036854775807) (h2 : 2 ≤ of.size) (hcs : of.size < 4294967281) (ha : of.data.toList.all (fun b => decide (b.toNat < 128)) = true) :
    PFn Tryz.prog 102 [.str s, .str of] (· = .bool (allIn s of)) := by
  refine PFn.mk (Spec.body Tryz.func102 rfl rfl (Tryz.ntmps102) rfl fun w0 own0 M => ?_)
  repeat' (first | refine goH ?_ | refine goV ?_ | refine goI ?_ | (refine Cw.k_cond ?_; first | (refine Cw.cond_dec rfl (fun hc => ?_) (fun hc => ?_) <;> try (exfalso; omega)) | refine Cw.cond_bool rfl (fun hc => ?_) (fun hc => ?_)) | (refine Ops.k_calla ?_; first | (refine Ops.k_callf 120 ?_; refine Ops.callV (trim_fn s of hs h2 hcs ha) (Evs.cons rfl (Evs.cons rfl Evs.nil)) rfl ?_)) | fail)
  refine Fin.ret Ent.refl (Outs.one rfl rfl) ⟨rfl, congrArg Tr.bool ?_⟩
  unfold allIn
  rw [Bool.eq_iff_iff, decide_eq_true_iff, ← trimS_nil, str_empty]
  cases Lib.trimS s.data.toList of.data.toList with
  | nil => simp [ByteArray.size]
  | cons a l => simp [ByteArray.size]

def smallS : ByteArray := ⟨#[97, 98, 99, 100, 101, 102, 103, 104, 105, 106, 107, 108, 109, 110, 111, 112, 113, 114, 115, 116, 117, 118, 119, 120, 121, 122]⟩
def keyS : ByteArray := ⟨#[97, 98, 99, 100, 101, 102, 103, 104, 105, 106, 107, 108, 109, 110, 111, 112, 113, 114, 115, 116, 117, 118, 119, 120, 121, 122, 48, 49, 50, 51, 52, 53, 54, 55, 56, 57, 45, 95]⟩
theorem keyS_has (b : UInt8) : keyS.data.toList.contains b = keyB (b.toNat : Int) := by
  have h : ∀ n, n < 256 → keyS.data.toList.contains (UInt8.ofNat n) = keyB ((UInt8.ofNat n).toNat : Int) := by decide +kernel
  have := h b.toNat b.toNat_lt
  rwa [UInt8.ofNat_toNat] at this
theorem smallS_has (b : UInt8) : smallS.data.toList.contains b = smallB (b.toNat : Int) := by
  have h : ∀ n, n < 256 → smallS.data.toList.contains (UInt8.ofNat n) = smallB ((UInt8.ofNat n).toNat : Int) := by decide +kernel
  have := h b.toNat b.toNat_lt
  rwa [UInt8.ofNat_toNat] at this
theorem all_sby (s : ByteArray) (p : Int → Bool) : s.data.toList.all (fun b => p (b.toNat : Int)) = decide (∀ j, j < s.size → p (sby s j) = true) := by
  rw [Bool.eq_iff_iff, List.all_eq_true, decide_eq_true_iff]
  have hl : s.data.toList.length = s.size := Array.length_toList
  constructor
  · intro h j hj
    have := h (s.data.toList[j]'(by omega)) (List.getElem_mem _)
    unfold sby
    rw [List.getD_eq_getElem?_getD, List.getElem?_eq_getElem (by omega)]
    exact this
  · intro h b hb
    obtain ⟨j, hj, rfl⟩ := List.getElem_of_mem hb
    have := h j (by omega)
    unfold sby at this
    rw [List.getD_eq_getElem?_getD, List.getElem?_eq_getElem hj] at this
    exact this
theorem allIn_key (s : ByteArray) : allIn s keyS = decide (∀ j, j < s.size → keyB (sby s j) = true) := by
  rw [← all_sby]
  unfold allIn
  congr 1
  funext b
  exact keyS_has b
theorem allIn_small (s : ByteArray) (h : 1 ≤ s.size) : allIn (s.extract 0 1) smallS = smallB (sby s 0) := by
  have h1 : allIn (s.extract 0 1) smallS = (s.extract 0 1).data.toList.all (fun b => smallB (b.toNat : Int)) := by
    unfold allIn
    congr 1
    funext b
    exact smallS_has b
  rw [h1, all_sby]
  have hs : (s.extract 0 1).size = 1 := by simp; omega
  have h0 : sby (s.extract 0 1) 0 = sby s 0 := by
    unfold sby
    simp only [ByteArray.data_extract, Array.toList_extract, List.getD_eq_getElem?_getD]
    simp
  rw [hs]
  rw [Bool.eq_iff_iff, decide_eq_true_iff]
  constructor
  · intro h; rw [← h0]; exact h 0 (by omega)
  · intro h j hj
    rw [show j = 0 by omega, h0]
    exact h

theorem keyOf_fn (s : ByteArray) : PFn Tryz.prog 67 [.str s] (· = .bool (isKey s)) := by
  refine PFn.mk (Spec.body Tryz.func67 rfl rfl (Tryz.ntmps67) rfl fun w0 own0 M => ?_)
  by_cases h1 : (s.size : Int) ≥ 1
  rotate_left
  · repeat' (first | refine goH ?_ | refine goV ?_ | refine goG ?_ | (refine Ops.k_guard ?_; first | (refine Ops.guard_dec rfl rfl (fun hc => ?_) (fun hc => ?_) <;> try (exfalso; omega)) | refine Ops.guard_split rfl rfl (fun hc => ?_) (fun hc => ?_)) | refine goI ?_ | (refine Cw.k_cond ?_; first | (refine Cw.cond_dec rfl (fun hc => ?_) (fun hc => ?_) <;> try (exfalso; omega)) | refine Cw.cond_bool rfl (fun hc => ?_) (fun hc => ?_)) | fail)
    refine Fin.ret Ent.refl (Outs.one rfl rfl) ⟨rfl, congrArg Tr.bool ?_⟩
    unfold isKey
    exact (decide_eq_false (by omega)).symm
  by_cases h2 : (s.size : Int) ≤ 40
  rotate_left
  · repeat' (first | refine goH ?_ | refine goV ?_ | refine goG ?_ | (refine Ops.k_guard ?_; first | (refine Ops.guard_dec rfl rfl (fun hc => ?_) (fun hc => ?_) <;> try (exfalso; omega)) | refine Ops.guard_split rfl rfl (fun hc => ?_) (fun hc => ?_)) | refine goI ?_ | (refine Cw.k_cond ?_; first | (refine Cw.cond_dec rfl (fun hc => ?_) (fun hc => ?_) <;> try (exfalso; omega)) | refine Cw.cond_bool rfl (fun hc => ?_) (fun hc => ?_)) | fail)
    refine Fin.ret Ent.refl (Outs.one rfl rfl) ⟨rfl, congrArg Tr.bool ?_⟩
    unfold isKey
    exact (decide_eq_false (by omega)).symm
  have hm1 := made_fn s keyS (by omega) (by decide) (by decide) (by decide)
  have hm2 := made_fn (s.extract 0 1) smallS (by simp; omega) (by decide) (by decide) (by decide)
  rw [allIn_key] at hm1
  rw [allIn_small s (by omega)] at hm2
  by_cases h3 : ∀ j, j < s.size → keyB (sby s j) = true
  rotate_left
  · rw [decide_eq_false h3] at hm1
    repeat' (first | refine goH ?_ | refine goV ?_ | refine goG ?_ | (refine Ops.k_guard ?_; first | (refine Ops.guard_dec rfl rfl (fun hc => ?_) (fun hc => ?_) <;> try (exfalso; omega)) | refine Ops.guard_split rfl rfl (fun hc => ?_) (fun hc => ?_)) | refine goI ?_ | (refine Cw.k_cond ?_; first | (refine Cw.cond_dec rfl (fun hc => ?_) (fun hc => ?_) <;> try (exfalso; omega)) | refine Cw.cond_bool rfl (fun hc => ?_) (fun hc => ?_)) | (refine Ops.k_calla ?_; first | (refine Ops.k_callf 102 ?_; refine Ops.callV hm1 (Evs.cons rfl (Evs.cons rfl Evs.nil)) rfl ?_)) | fail)
    refine Fin.ret Ent.refl (Outs.one rfl rfl) ⟨rfl, congrArg Tr.bool ?_⟩
    unfold isKey
    exact (decide_eq_false (fun h => h3 h.2.2.2)).symm
  rw [decide_eq_true h3] at hm1
  repeat' (first | refine goH ?_ | refine goV ?_ | refine goG ?_ | (refine Ops.k_guard ?_; first | (refine Ops.guard_dec rfl rfl (fun hc => ?_) (fun hc => ?_) <;> try (exfalso; omega)) | refine Ops.guard_split rfl rfl (fun hc => ?_) (fun hc => ?_)) | refine goI ?_ | (refine Cw.k_cond ?_; first | (refine Cw.cond_dec rfl (fun hc => ?_) (fun hc => ?_) <;> try (exfalso; omega)) | refine Cw.cond_bool rfl (fun hc => ?_) (fun hc => ?_)) | (refine Ops.k_calla ?_; first | (refine Ops.k_callf 102 ?_; refine Ops.callV hm1 (Evs.cons rfl (Evs.cons rfl Evs.nil)) rfl ?_) | (refine Ops.k_callf 102 ?_; refine Ops.callV hm2 (Evs.cons rfl (Evs.cons rfl Evs.nil)) rfl ?_)) | fail)
  refine Fin.ret Ent.refl (Outs.one rfl rfl) ⟨rfl, congrArg Tr.bool ?_⟩
  unfold isKey
  rw [Bool.eq_iff_iff, decide_eq_true_iff]
  exact ⟨fun h => ⟨by omega, by omega, h, h3⟩, fun h => h.2.2.1⟩
attribute [irreducible] isKey
end Lg
end
section
set_option linter.all false
set_option maxRecDepth 100000
set_option maxHeartbeats 4000000
namespace Lg
open Go Go.Proofs

/-! ### entries and ledgers, in plain terms -/
structure Ln where
  acc : ByteArray
  c : Int
structure En where
  day : Int
  text : ByteArray
  ls : List Ln
structure Ps where
  e : En
  back : Int
def Ln.row (x : Ln) : List Tr := [.str x.acc, .int x.c]
abbrev Tr.lns (l : List Ln) : Tr := Tr.sl 2 (l.map Ln.row)
def En.row (x : En) : List Tr := [.int x.day, .str x.text, .lns x.ls]
def lnX (tw : Bool) (x : Ln) : Int := if isKey x.acc = false then 5 else if tw = true then 6 else if x.c = 0 ∨ (x.c < -1000000000 ∨ 1000000000 < x.c) then 1 else 0
def twL (l : List Ln) (k : Nat) (x : Ln) : Bool := (l.take k).any fun y => decide (y.acc = x.acc)
def lnE (l : List Ln) (k : Nat) : Int := match l[k]? with
  | none => 0
  | some x => lnX (twL l k x) x
def sumC (l : List Ln) : Int := l.foldl (fun n x => n + x.c) 0
def linE (l : List Ln) : Int := if firstE (lnE l) 0 l.length ≠ 0 then firstE (lnE l) 0 l.length else if sumC l ≠ 0 then 15 else 0
def entE (pl : ByteArray → Bool) (e : En) : Int := if dayB e.day = false then 1 else if (e.text.size < 1 ∨ 60 < e.text.size) ∨ pl e.text = false then 3 else if e.ls.length < 2 then 8 else if 20 < e.ls.length then 2 else linE e.ls
theorem sumC_snoc (l : List Ln) (x : Ln) : sumC (l ++ [x]) = sumC l + x.c := by unfold sumC; rw [List.foldl_append]; rfl
/-- what the lines of an entry put to an account -/
def lnsOf (a : ByteArray) : List Ln → Int
  | [] => 0
  | x :: l => (if x.acc = a then x.c else 0) + lnsOf a l
def bal (a : ByteArray) : List Ps → Int
  | [] => 0
  | p :: L => lnsOf a p.e.ls + bal a L
theorem bal_app (a : ByteArray) (L M : List Ps) : bal a (L ++ M) = bal a L + bal a M := by
  induction L with
  | nil => simp [bal]
  | cons p L ih => rw [List.cons_append, bal, bal, ih]; omega
theorem bal_snoc (a : ByteArray) (L : List Ps) (p : Ps) : bal a (L ++ [p]) = bal a L + lnsOf a p.e.ls := by
  rw [bal_app, bal, bal]; omega
def ovL (L : List Ps) (x : Ln) : Bool := decide (bal x.acc L + x.c < -1000000000000 ∨ 1000000000000 < bal x.acc L + x.c)
/-- an entry that has its form is added -/
def addO (most : Nat) (L : List Ps) (p : Ps) : List Ps × Int × Int := if L.length = most then (L, 0, 12) else if p.e.ls.any (ovL L) = true then (L, 0, 2) else (L ++ [p], L.length + 1, 0)
def pstO (most : Nat) (pl : ByteArray → Bool) (L : List Ps) (e : En) : List Ps × Int × Int := if entE pl e ≠ 0 then (L, 0, entE pl e) else if (L.getLast?).any (fun q => decide (e.day < q.e.day)) = true then (L, 0, 7) else addO most L ⟨e, 0⟩
def accs (L : List Ps) : List ByteArray := L.flatMap fun p => p.e.ls.map Ln.acc
def Ln.neg (x : Ln) : Ln := ⟨x.acc, -x.c⟩
def lastDay (L : List Ps) : Int := match L.getLast? with
  | none => 0
  | some q => q.e.day
def offB (L : List Ps) (no : Int) (p : Ps) : Bool := decide (0 < p.back) || L.any fun q => decide (q.back = no)
/-- the contrary of entry no; txt is what the text is made of no -/
def cnlO (most : Nat) (txt : Int → ByteArray) (L : List Ps) (no : Int) : List Ps × Int × Int := if no < 1 ∨ (L.length : Int) < no then (L, 0, 8) else match L[(no - 1).toNat]? with
  | none => (L, 0, 8)
  | some p => if offB L no p = true then (L, 0, 11) else addO most L ⟨⟨lastDay L, txt no, p.e.ls.map Ln.neg⟩, no⟩
/-! ### the lines of an account -/
structure Po where
  no : Int
  day : Int
  text : ByteArray
  c : Int
  sum : Int
def Po.row (x : Po) : List Tr := [.int x.no, .int x.day, .str x.text, .int x.c, .int x.sum]
def lin1 (a : ByteArray) (no : Int) (e : En) : List Ln → Int × List Po → Int × List Po
  | [], s => s
  | x :: l, s => lin1 a no e l (if x.acc = a then (s.1 + x.c, s.2 ++ [⟨no, e.day, e.text, x.c, s.1 + x.c⟩]) else s)
def linA (a : ByteArray) : List Ps → Nat → Int × List Po → Int × List Po
  | [], _, s => s
  | p :: L, i, s => linA a L (i + 1) (lin1 a ((i : Int) + 1) p.e p.e.ls s)
def sumP (l : List Po) : Int := l.foldl (fun n x => n + x.c) 0
theorem sumP_snoc (l : List Po) (x : Po) : sumP (l ++ [x]) = sumP l + x.c := by unfold sumP; rw [List.foldl_append]; rfl
theorem lin1_sum (a : ByteArray) (no : Int) (e : En) : ∀ (l : List Ln) (s : Int × List Po), (lin1 a no e l s).1 = s.1 + lnsOf a l
  | [], s => by simp [lin1, lnsOf]
  | x :: l, s => by
    rw [lin1, lin1_sum a no e l, lnsOf]
    by_cases h : x.acc = a
    · rw [if_pos h, if_pos h]; simp only; omega
    · rw [if_neg h, if_neg h]; omega
theorem lin1_inv (a : ByteArray) (no : Int) (e : En) : ∀ (l : List Ln) (s : Int × List Po), s.1 = sumP s.2 → (lin1 a no e l s).1 = sumP (lin1 a no e l s).2
  | [], s, h => h
  | x :: l, s, h => by
    rw [lin1]
    refine lin1_inv a no e l _ ?_
    by_cases h2 : x.acc = a
    · rw [if_pos h2, sumP_snoc, ← h]
    · rw [if_neg h2]; exact h
theorem linA_sum (a : ByteArray) : ∀ (L : List Ps) (i : Nat) (s : Int × List Po), (linA a L i s).1 = s.1 + bal a L
  | [], i, s => by simp [linA, bal]
  | p :: L, i, s => by rw [linA, linA_sum a L, lin1_sum, bal]; omega
theorem linA_inv (a : ByteArray) : ∀ (L : List Ps) (i : Nat) (s : Int × List Po), s.1 = sumP s.2 → (linA a L i s).1 = sumP (linA a L i s).2
  | [], i, s, h => h
  | p :: L, i, s, h => by rw [linA]; exact linA_inv a L _ _ (lin1_inv a _ p.e p.e.ls s h)
def linO (a : ByteArray) (L : List Ps) : List Po := (linA a L 0 (0, [])).2
/-- the reference's balance: the sum of an account's lines -/
theorem linO_bal (a : ByteArray) (L : List Ps) : sumP (linO a L) = bal a L := by
  have h := linA_inv a L 0 (0, []) rfl
  rw [linA_sum] at h
  unfold linO
  rw [← h]
  simp
/-! ### the trial: an account that has no line has no balance -/
end Lg
end
section
set_option linter.all false
set_option maxRecDepth 100000
set_option maxHeartbeats 4000000
namespace Lg
open Go Go.Proofs

/-! ### utf8.ValidString -/
def wrdK (s : ByteArray) : Nat → Int
  | 0 => IntKind.u64.wrap (sby s 0)
  | k + 1 => bits .or .u64 (wrdK s k) (IntKind.u64.wrap (IntKind.u64.wrap (sby s (k + 1)) * 2 ^ (8 * (k + 1))))
theorem wrd_fn (s : ByteArray) (hs : 8 ≤ s.size) : PFn Tryz.prog 140 [.str s] (· = .raw (.int .u64 (wrdK s 7))) := by
  refine PFn.mk (Spec.body Tryz.func140 rfl rfl (Tryz.ntmps140) rfl fun w0 own0 M => ?_)
  repeat' (first | refine goH ?_ | refine goV ?_ | refine goI ?_ | (refine Cw.k_cond ?_; first | (refine Cw.cond_dec rfl (fun hc => ?_) (fun hc => ?_) <;> try (exfalso; omega)) | refine Cw.cond_bool rfl (fun hc => ?_) (fun hc => ?_)) | exact OpV.w (OpV.indexS_0 rfl rfl rfl (by omega)) | exact OpV.w (OpV.indexS rfl rfl rfl (by omega)) | exact OpV.w (OpV.bOr rfl rfl) | exact OpV.w (OpV.bShl rfl rfl (by decide)) | exact OpV.w (OpV.convI Tryz.underlying5 Tryz.underlying137 rfl) | refine goR ?_ | refine goP ?_ | apply PSeq.cons | apply PSeq.yes rfl rfl rfl | exact goW | fail)
  exact Fin.ret (Ent.take goTk) (Outs.one rfl rfl) ⟨rfl, rfl⟩
end Lg
end
