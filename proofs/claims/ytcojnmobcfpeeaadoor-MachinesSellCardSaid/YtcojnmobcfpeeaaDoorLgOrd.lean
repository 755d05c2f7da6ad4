/- A part of the proof of a law of this seat: it adds no condition. By an AI agent. -/
import Derived.Lib.Bytealg
import Derived.Laws.Externs
import Derived.Test.YtcojnmobcfpeeaaDoorLgMap4
section
set_option linter.all false
namespace Lg
open Go

/-- what a call does not take stays as it is -/
theorem Spec.frame {P : Program} {f : FuncId} {args : List Tr} {cin : List Chunk} {post : Tr → List Chunk → Prop} (h : Spec P f args cin post) (F : List Chunk) : Spec P f args (cin ++ F) (fun r cs => ∃ c2, post r c2 ∧ cs = c2 ++ F) := by
 unfold Spec at h ⊢
 refine ⟨h.1, fun M w vs hv hch hnd hlt hM => ?_⟩
 have hfa : ∀ c : List Chunk, fps (c ++ F) = fps c ++ fps F := fun c => by simp only [fps, List.flatMap_append]
 have hav : ∀ c : List Chunk, av (fun b => M b ∨ b ∈ fps F) c = av M (c ++ F) := fun c => by
  funext b
  simp only [av, hfa, List.mem_append]
  apply propext
  constructor
  ·rintro ⟨h1, h2⟩
   exact ⟨fun h => h1 (.inl h), fun h => h.elim h2 (fun h => h1 (.inr h))⟩
  ·rintro ⟨h1, h2⟩
   exact ⟨fun h => h.elim h1 (fun h => h2 (.inr h)), fun h => h2 (.inl h)⟩
 rw [hfa] at hnd hlt
 obtain ⟨hn1, hn2, hdis⟩ := List.nodup_append.1 hnd
 have key := h.2 (fun b => M b ∨ b ∈ fps F) w vs (by rw [hav]; exact hv) (fun c hc => by rw [hav]; exact hch c (List.mem_append_left _ hc)) hn1
  (fun b hb => ⟨(hlt b (List.mem_append_left _ hb)).1, fun hm => hm.elim (hlt b (List.mem_append_left _ hb)).2 (fun hf => hdis b hb b hf rfl)⟩)
  (fun b hm => hm.elim (hM b) (fun hf => (hlt b (List.mem_append_right _ hf)).1))
 refine key.mono ?_
 rintro e w' ⟨v, r, cs', he, hp, hrd, hc, hnd', hfr, hf⟩
 rw [hav] at hrd hc
 have hnew : ∀ b ∈ fps cs', b ∉ fps F := fun b hb hbF => by
  obtain ⟨_, h2, h3⟩ := hfr b hb
  exact h2 (.inr hbF)
 refine ⟨v, r, cs' ++ F, he, ⟨cs', hp, rfl⟩, hrd, ?_, ?_, ?_, ?_⟩
 ·intro c hcm
  rcases List.mem_append.1 hcm with h1 | h1
  ·exact hc c h1
  ·refine c.mono (fun b hb hlt2 => hf.block b hlt2 fun hm => ?_) ?_ (hch c (List.mem_append_right _ h1))
   ·exact hdis b hm b (List.mem_flatMap.2 ⟨c, h1, hb⟩) rfl
   ·intro b hb hA
    have hA2 := hA
    simp only [av, hfa, List.mem_append, not_or] at hA2
    refine ⟨?_, hf.block b hb hA2.2.1⟩
    simp only [av, hfa, List.mem_append, not_or]
    refine ⟨hA2.1, fun hm => ?_, hA2.2.2⟩
    rcases (hfr b hm).2.2 with h2 | h2
    ·exact hA2.2.1 h2
    ·omega
 ·rw [hfa]
  exact List.nodup_append.2 ⟨hnd', hn2, fun x hx y hy e => hnew x hx (e ▸ hy)⟩
 ·intro b hb
  rw [hfa] at hb ⊢
  rcases List.mem_append.1 hb with h1 | h1
  ·obtain ⟨g1, g2, g3⟩ := hfr b h1
   exact ⟨g1, fun h => g2 (.inl h), g3.imp_left (List.mem_append_left _)⟩
  ·obtain ⟨g1, g2⟩ := hlt b (List.mem_append_right _ h1)
   exact ⟨Nat.lt_of_lt_of_le g1 hf.size, g2, .inl (List.mem_append_right _ h1)⟩
 ·rw [hfa]
  exact ⟨hf.os, hf.tape, hf.output, hf.size, fun b hb hn => hf.block b hb fun hm => hn (List.mem_append_left _ hm), hf.drawn⟩
end Lg
end
section
set_option linter.all false
namespace Lg
open Go

/-! ### strings in order -/
theorem bl_nil (a : List UInt8) : Op.bytesLess a [] = false := by cases a <;> rfl
theorem bl_cons (a b : UInt8) (x y : List UInt8) : Op.bytesLess (a :: x) (b :: y) = (decide (a < b) || (a == b && Op.bytesLess x y)) := rfl
theorem bl_irrefl : ∀ a : List UInt8, Op.bytesLess a a = false
 |[] => rfl
 |a :: x => by rw [bl_cons, bl_irrefl x]; simp
theorem bl_trans : ∀ {a b c : List UInt8}, Op.bytesLess a b = true → Op.bytesLess b c = true → Op.bytesLess a c = true
 |a, [], c, h, _ => by rw [bl_nil] at h; cases h
 |a, b :: y, [], _, h => by rw [bl_nil] at h; cases h
 |[], b :: y, c :: z, _, _ => rfl
 |a :: x, b :: y, c :: z, h1, h2 => by
  rw [bl_cons] at h1 h2 ⊢
  simp only [Bool.or_eq_true, decide_eq_true_eq, Bool.and_eq_true, beq_iff_eq] at *
  rcases h1 with h1 | ⟨rfl, h1⟩
  ·rcases h2 with h2 | ⟨rfl, h2⟩
   ·exact .inl (UInt8.lt_trans h1 h2)
   ·exact .inl h1
  ·rcases h2 with h2 | ⟨rfl, h2⟩
   ·exact .inl h2
   ·exact .inr ⟨rfl, bl_trans h1 h2⟩
theorem bl_tri : ∀ {a b : List UInt8}, Op.bytesLess a b = false → Op.bytesLess b a = false → a = b
 |[], [], _, _ => rfl
 |[], _ :: _, h, _ => by cases h
 |_ :: _, [], _, h => by cases h
 |a :: x, b :: y, h1, h2 => by
  rw [bl_cons] at h1 h2
  simp only [Bool.or_eq_false_iff, decide_eq_false_iff_not, Bool.and_eq_false_iff] at h1 h2
  have hab : a = b := UInt8.le_antisymm (UInt8.not_lt.1 h2.1) (UInt8.not_lt.1 h1.1)
  subst hab
  rw [bl_tri (a := x) (b := y) (by simpa using h1.2) (by simpa using h2.2)]
theorem strLt_irrefl (a : ByteArray) : strLt a a = false := by unfold strLt; exact bl_irrefl _
theorem strLt_trans {a b c : ByteArray} (h1 : strLt a b = true) (h2 : strLt b c = true) : strLt a c = true := by unfold strLt at *; exact bl_trans h1 h2
theorem strLt_tri {a b : ByteArray} (h1 : strLt a b = false) (h2 : strLt b a = false) : a = b := by
 unfold strLt at *
 have := str_beq a b
 rw [bl_tri h1 h2] at this
 simpa using this
/-! ### a sorted list of keys that differ is determined by its elements -/
section uniq
variable {α : Type} (lt : α → α → Bool)
end uniq
/-! ### maps of numbers -/
section mapI
variable {α : Type} [DecidableEq α]
end mapI
end Lg
end
