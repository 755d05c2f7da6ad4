/- A part of the proof of a law of this seat: it adds no condition. By an AI agent. -/
import Derived.Test.YtjndncefoiniiaaGreatDoorLgGo
import Derived.Test.YtjndncefoiniiaaGreatDoorShelf
section
set_option linter.all false
set_option maxRecDepth 100000
set_option maxHeartbeats 4000000
namespace Lg
open Go Go.Proofs

theorem str_empty (s : ByteArray) : s = ⟨#[]⟩ ↔ s.size = 0 := by
  constructor
  · rintro rfl; rfl
  · intro h
    apply ByteArray.ext
    apply Array.eq_empty_of_size_eq_zero
    simpa using h

/-! ### the reference's own -/
theorem trim_fn (s of : ByteArray) (hs : s.size ≤ 9223372036854775807) (h2 : 2 ≤ of.size) (hcs : of.size < 4294967281) (ha : of.data.toList.all (fun b => decide (b.toNat < 128)) = true) :
    PFn Tryz.prog 32 [.str s, .str of] (· = .str ⟨(Lib.trimS s.data.toList of.data.toList).toArray⟩) :=
  PFn.of_calls (args := [.string s, .string of]) (enters_of Tryz.func32 (by kernel_rfl) rfl) fun w => by
    have hz : (Tryz.prog.info? (Tryz.lays160_ren.t 116)).map (fun i => (i.zero, i.size)) = some (some (.agg (Array.replicate 256 (.bool false))), 256) := by kernel_rfl
    by_cases h0 : s.size = 0
    · refine (Any.strings_Trim_empty Tryz.lays160 s of w (.inl h0)).mono fun e w' ⟨h1, h2⟩ => ⟨?_, h2 ▸ ⟨rfl, rfl, rfl, Nat.le_refl _, fun _ _ => rfl⟩, fun _ => h2 ▸ Nat.le_refl _⟩
      have hl : s.data.toList = [] := List.eq_nil_of_length_eq_zero (by rw [← Lib.size_eq]; exact h0)
      rw [h1, hl]
      congr 2
      rw [← Lib.mk_data s, hl]
      rfl
    · refine (Any.strings_Trim_set Tryz.lays160 (zero_of_info hz).1 (zero_of_info hz).2 s of w h2 (by omega) hs hcs (ascii_of_all ha)).mono fun e w' ⟨h1, q, h2⟩ => ⟨h1, ?_, fun _ => ?_⟩
      · subst h2
        exact (((Go.RowKit.Below.mk rfl rfl rfl (Nat.le_refl _) (fun _ _ => rfl) : Go.RowKit.Below w.heap.size w w).alloc (Nat.le_refl _) _).alloc (by simp) _).trans ⟨rfl, rfl, rfl, Nat.le_refl _, fun _ _ => rfl⟩
      · subst h2
        exact Nat.le_add_right _ _

theorem dropWhile_nil {α : Type} (p : α → Bool) : ∀ (l : List α), l.dropWhile p = [] ↔ l.all p = true
  | [] => by simp
  | a :: l => by
    rw [List.dropWhile_cons]
    cases h : p a with
    | true => simp [h, dropWhile_nil p l]
    | false => simp [h]
theorem trimS_nil (l cs : List UInt8) : Lib.trimS l cs = [] ↔ l.all (cs.contains ·) = true := by
  unfold Lib.trimS Lib.trimLeftS
  rw [dropWhile_nil]
  unfold Lib.trimRightS
  constructor
  · intro h
    by_cases hn : l.reverse.dropWhile (cs.contains ·) = []
    · have := (dropWhile_nil _ _).1 hn
      rwa [List.all_reverse] at this
    · exfalso
      have hm := List.head_mem hn
      have h1 : cs.contains ((l.reverse.dropWhile (cs.contains ·)).head hn) = false := by
        have := List.head_dropWhile_not (cs.contains ·) hn
        simpa using this
      have h2 := List.all_eq_true.1 h _ (List.mem_reverse.2 hm)
      rw [h1] at h2
      cases h2
  · intro h
    rw [List.all_eq_true] at h ⊢
    intro x hx
    exact h x (by
      have h1 := List.mem_reverse.1 hx
      have h2 := (List.dropWhile_sublist _).mem h1
      exact List.mem_reverse.1 h2)

def allIn (s of : ByteArray) : Bool := s.data.toList.all (of.data.toList.contains ·)
theorem made_fn (s of : ByteArray) (hs : s.size ≤ 9223372036854775807) (h2 : 2 ≤ of.size) (hcs : of.size < 4294967281) (ha : of.data.toList.all (fun b => decide (b.toNat < 128)) = true) :
    PFn Tryz.prog 34 [.str s, .str of] (· = .bool (allIn s of)) := by
  refine PFn.mk (Spec.body Tryz.func34 rfl rfl (Tryz.ntmps34) rfl fun w0 own0 M => ?_)
  repeat' (first | refine goH ?_ | refine goV ?_ | refine goI ?_ | (refine Cw.k_cond ?_; first | (refine Cw.cond_dec rfl (fun hc => ?_) (fun hc => ?_) <;> try (exfalso; omega)) | refine Cw.cond_bool rfl (fun hc => ?_) (fun hc => ?_)) | (refine Ops.k_calla ?_; first | (refine Ops.k_callf 32 ?_; refine Ops.callV (trim_fn s of hs h2 hcs ha) (Evs.cons rfl (Evs.cons rfl Evs.nil)) rfl ?_)) | fail)
  refine Fin.ret Ent.refl (Outs.one rfl rfl) ⟨rfl, congrArg Tr.bool ?_⟩
  unfold allIn
  rw [Bool.eq_iff_iff, decide_eq_true_iff, ← trimS_nil, str_empty]
  cases Lib.trimS s.data.toList of.data.toList with
  | nil => simp [ByteArray.size]
  | cons a l => simp [ByteArray.size]

end Lg
end
section
set_option linter.all false
set_option maxRecDepth 100000
set_option maxHeartbeats 2000000
namespace Lg
open Go Go.Proofs

@[simp] theorem rowsOf_len (k n : Nat) (ts : List Tr) : (rowsOf k n ts).length = n := by simp [rowsOf]
theorem intRows_app (a b : List Int) : intRows (a ++ b) = intRows a ++ intRows b := by simp [intRows]

end Lg
end
section
set_option linter.all false
set_option maxRecDepth 100000
set_option maxHeartbeats 4000000
namespace Lg
open Go Go.Proofs

def strRows (l : List ByteArray) : List (List Tr) := l.map fun x => [Tr.str x]
abbrev Tr.strs (l : List ByteArray) : Tr := Tr.sl 1 (strRows l)
theorem strRows_len (l : List ByteArray) : (strRows l).length = l.length := by simp [strRows]
theorem strRows_at {l : List ByteArray} {j : Nat} {x : ByteArray} (h : l[j]? = some x) : (strRows l)[j]? = some [Tr.str x] := rows_at h
theorem strRows_app (a b : List ByteArray) : strRows (a ++ b) = strRows a ++ strRows b := by simp [strRows]
theorem strRows_get {l : List ByteArray} {j : Nat} (h : j < l.length) : (strRows l)[j]? = some [Tr.str l[j]] := strRows_at (List.getElem?_eq_getElem h)
inductive IsStrs : List (List Tr) → List ByteArray → Prop
  | nil : IsStrs [] []
  | cons {rows : List (List Tr)} {l : List ByteArray} {x : ByteArray} (h : IsStrs rows l) : IsStrs ([Tr.str x] :: rows) (x :: l)
theorem IsStrs.eq {rows : List (List Tr)} {l : List ByteArray} (h : IsStrs rows l) : rows = strRows l := by
  induction h with
  | nil => rfl
  | cons h ih => rw [ih]; rfl
/-- one of some strings -/
theorem one_gen {rows : List (List Tr)} {l : List ByteArray} (hr : IsStrs rows l) (h : 0 < l.length ∧ l.length ≤ 100000) :
    Gen Tryz.prog 25 29 [.sl 1 rows] 1 (fun r => ∃ v, r = .str v ∧ v ∈ l) := by
  have h := hr.eq
  subst h
  unfold Gen
  intro b xs N hN
  refine Spec.body Tryz.func29 rfl rfl (Tryz.ntmps29) rfl fun w0 own0 M => ?_
  have hl := strRows_len l
  repeat' (first | refine goH ?_ | refine goV ?_ | refine goI ?_ | (refine Cw.k_cond ?_; first | (refine Cw.cond_dec rfl (fun hc => ?_) (fun hc => ?_) <;> try (exfalso; omega)) | refine Cw.cond_bool rfl (fun hc => ?_) (fun hc => ?_)) | (refine Ops.k_calla ?_; first | (refine Ops.k_callf 15 ?_; (refine Ops.callG (next_gen _ (by omega)) (Evs.cons rfl (Evs.cons rfl Evs.nil)) goPk (by omega) rfl ?_; rintro r ⟨v, rfl, hv⟩; unfold InRange at hv; have hj : v.toNat < l.length := (by omega); have hj2 := strRows_get hj))) | fail)
  exact Fin.ret Ent.refl (Outs.one rfl rfl) ⟨rfl, _, rfl, List.getElem_mem hj⟩
end Lg
end
