/- A part of the proof of a law of this seat: it adds no condition. By an AI agent. -/
import Derived.Lib.DecodeN
import Derived.Lib.ItoaMem
import Derived.Lib.ItoaNum
import Derived.Lib.LaidTab
import Derived.Test.YtaoclkglimibeaaGreatDoorLgUtf
import Derived.Test.YtaoclkglimibeaaGreatDoorLe2
section
set_option linter.all false
set_option maxRecDepth 100000
set_option maxHeartbeats 4000000
namespace Lg
open Go Go.Proofs

/-! ### the variables of Go's library that ledgers read -/
abbrev u8V (n : Int) : Value := .int .u8 n
def utfX (n : Nat) : Int := (Lib.firstT n : Int)
def utfL (n : Nat) : Int := (Lib.accLo n : Int)
def utfH (n : Nat) : Int := (Lib.accHi n : Int)
theorem utfX_bd (n : Nat) : 0 ≤ utfX n ∧ utfX n ≤ 255 := by
  unfold utfX Lib.firstT
  repeat' split
  all_goals omega
def firP (a : Array Value) : Prop := ∀ c, c < 256 → a[c]? = some (u8V (utfX c))
def accP (a : Array Value) : Prop := ∀ i, i < 16 → a[2 * i]? = some (u8V (utfL i)) ∧ a[2 * i + 1]? = some (u8V (utfH i))
def powP (a : Array Value) : Prop := a = (Lib.pow10Tab.map fun z => Value.int .u64 z).toArray
def maxP (a : Array Value) : Prop := ∃ m, a[0]? = some (.int .i64 m)
def ifcP (a : Array Value) : Prop := ∃ tp p, a = #[.iface tp p]
def bkV : List (String × (Array Value → Prop)) := [("internal/strconv.uint64pow10", powP), ("unicode/utf8.first", firP), ("unicode/utf8.acceptRanges", accP), ("internal/bytealg.MaxLen", maxP)]
  ++ [("strconv.ErrSyntax", ifcP), ("strconv.ErrRange", ifcP)]
theorem bk_pow : ("internal/strconv.uint64pow10", powP) ∈ bkV := by unfold bkV; simp
theorem bk_first : ("unicode/utf8.first", firP) ∈ bkV := by unfold bkV; simp
theorem bk_acc : ("unicode/utf8.acceptRanges", accP) ∈ bkV := by unfold bkV; simp
theorem bk_max : ("internal/bytealg.MaxLen", maxP) ∈ bkV := by unfold bkV; simp
abbrev bkC : Chunk := varC Tryz.prog bkV
theorem take_one {l : List Value} {n : Nat} {x : Value} (h : l[n]? = some x) : (l.drop n).take 1 = [x] := by
  obtain ⟨hn, e⟩ := List.getElem?_eq_some_iff.1 h
  rw [List.drop_eq_getElem_cons hn, e]
  simp
theorem take_two {l : List Value} {n : Nat} {x y : Value} (h : l[n]? = some x) (h2 : l[n + 1]? = some y) : (l.drop n).take 2 = [x, y] := by
  obtain ⟨hn, e⟩ := List.getElem?_eq_some_iff.1 h
  rw [List.drop_eq_getElem_cons hn, e, List.take_succ_cons, take_one h2]
theorem first_row {p : Int} (h : 0 ≤ p ∧ p < 256) : ∀ a : Array Value, firP a → (a.toList.drop (p.toNat * 1)).take 1 = [u8V (utfX p.toNat)] := by
  intro a ha
  have := ha p.toNat (by omega)
  rw [← Array.getElem?_toList] at this
  rw [Nat.mul_one]
  exact take_one this
theorem accept_row {p : Int} (h : 0 ≤ p ∧ p < 16) : ∀ a : Array Value, accP a → (a.toList.drop (p.toNat * 2)).take 2 = [u8V (utfL p.toNat), u8V (utfH p.toNat)] := by
  intro a ha
  obtain ⟨h1, h2⟩ := ha p.toNat (by omega)
  rw [← Array.getElem?_toList] at h1 h2
  rw [Nat.mul_comm]
  exact take_two h1 h2
end Lg
end
section
set_option linter.all false
set_option maxRecDepth 100000
set_option maxHeartbeats 8000000
namespace Lg
open Go Go.Proofs

/-! ### utf8.ValidString: what it answers, as its text says it -/
def dr (n : Int) (s : ByteArray) : ByteArray := s.extract n.toNat s.size
theorem dr_size (n : Int) (s : ByteArray) : (dr n s).size = s.size - n.toNat := by unfold dr; rw [ByteArray.size_extract]; omega
def andU (p : Int) : Int := bits .and .u64 p 9259542123273814144
def orU (p q : Int) : Int := bits .or .u64 p q
def wd (s : ByteArray) : Int := wrdK s 7
attribute [irreducible] andU orU wd
def hw1 (s : ByteArray) : Int := andU (wd s)
def hw2 (s : ByteArray) : Int := andU (orU (wd s) (wd (dr 8 s)))
def hw4 (s : ByteArray) : Int := andU (orU (orU (wd s) (wd (dr 8 s))) (orU (wd (dr 16 s)) (wd (dr 24 s))))
def vI (s : ByteArray) : ByteArray := if h : 32 < s.size ∧ hw4 s = 0 then vI (dr 32 s) else s
termination_by s.size
decreasing_by rw [dr_size]; omega
theorem vI_yes {s : ByteArray} (h : 32 < s.size ∧ hw4 s = 0) : vI s = vI (dr 32 s) := by rw [vI, dif_pos h]
theorem vI_no {s : ByteArray} (h : ¬ (32 < s.size ∧ hw4 s = 0)) : vI s = s := by rw [vI, dif_neg h]
theorem vI_size (s : ByteArray) : (vI s).size ≤ s.size := by
  induction hn : s.size using Nat.strongRecOn generalizing s with
  | _ n ih =>
    by_cases h : 32 < s.size ∧ hw4 s = 0
    · rw [vI_yes h]
      have := ih (dr 32 s).size (by rw [dr_size]; omega) (dr 32 s) rfl
      rw [dr_size] at this
      omega
    · rw [vI_no h]; omega
/-- what is left behind a first byte below 128 -/
def vA (s : ByteArray) : ByteArray := if 8 < (dr 1 s).size ∧ hw1 (dr 1 s) = 0 then (if 16 < (dr 8 (dr 1 s)).size ∧ hw2 (dr 8 (dr 1 s)) = 0 then vI (dr 16 (dr 8 (dr 1 s))) else dr 8 (dr 1 s)) else dr 1 s
theorem vA_size (s : ByteArray) : (vA s).size ≤ s.size - 1 := by
  unfold vA
  have h1 := dr_size 1 s
  have h2 := dr_size 8 (dr 1 s)
  have h3 := dr_size 16 (dr 8 (dr 1 s))
  have h4 := vI_size (dr 16 (dr 8 (dr 1 s)))
  split
  · split <;> omega
  · omega
def fX (s : ByteArray) : Int := utfX (sby s 0).toNat
def fL (s : ByteArray) : Int := utfL (fX s / 16).toNat
def fH (s : ByteArray) : Int := utfH (fX s / 16).toNat
def fN (s : ByteArray) : Int := fX s % 8
def badA (s : ByteArray) : Prop := sby s 1 < fL s ∨ fH s < sby s 1
def badC (s : ByteArray) (k : Nat) : Prop := sby s k < 128 ∨ 191 < sby s k
instance (s : ByteArray) : Decidable (badA s) := by unfold badA; infer_instance
instance (s : ByteArray) (k : Nat) : Decidable (badC s k) := by unfold badC; infer_instance
/-- one round: an answer, or what is left -/
def vStep (s : ByteArray) : Option ByteArray := if sby s 0 < 128 then some (vA s) else
  if fN s = 2 then (if s.size < 2 ∨ badA s then none else some (dr 2 s)) else
  if fN s = 3 then (if s.size < 3 ∨ badA s ∨ badC s 2 then none else some (dr 3 s)) else
  if fN s = 4 then (if s.size < 4 ∨ badA s ∨ badC s 2 ∨ badC s 3 then none else some (dr 4 s)) else none
theorem vStep_size {s t : ByteArray} (h : vStep s = some t) : t.size ≤ s.size - 1 := by
  unfold vStep at h
  have h2 := vA_size s
  have d2 : (dr 2 s).size = s.size - 2 := dr_size 2 s
  have d3 : (dr 3 s).size = s.size - 3 := dr_size 3 s
  have d4 : (dr 4 s).size = s.size - 4 := dr_size 4 s
  split at h
  · cases h; omega
  split at h
  · split at h
    · cases h
    · cases h; omega
  split at h
  · split at h
    · cases h
    · cases h; omega
  split at h
  · split at h
    · cases h
    · cases h; omega
  cases h
def vS (s : ByteArray) : Bool := if h : s.size = 0 then true else match hs : vStep s with
  | none => false
  | some t => vS t
termination_by s.size
decreasing_by have := vStep_size hs; omega
theorem vS_0 {s : ByteArray} (h : s.size = 0) : vS s = true := by rw [vS, dif_pos h]
theorem vS_none {s : ByteArray} (h : ¬ s.size = 0) (hs : vStep s = none) : vS s = false := by
  rw [vS, dif_neg h]
  split
  · rfl
  · rename_i h2; rw [hs] at h2; cases h2
theorem vS_some {s t : ByteArray} (h : ¬ s.size = 0) (hs : vStep s = some t) : vS s = vS t := by
  rw [vS, dif_neg h]
  split
  · rename_i h2; rw [hs] at h2; cases h2
  · rename_i h2; rw [hs] at h2; cases h2; rfl
end Lg
end
