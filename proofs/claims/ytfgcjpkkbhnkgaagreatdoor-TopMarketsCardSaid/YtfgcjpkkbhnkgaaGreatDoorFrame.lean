/- A part of the proof of a law of this seat: it adds no condition. By an AI agent. -/
import Derived.Below
import Derived.OpenShut
import Derived.Test.YtfgcjpkkbhnkgaaGreatDoorCore
set_option linter.all false
namespace Lg
open Go Go.RowKit

/-- a slice of numbers that came in -/
def IsRow (k : IntKind) (w : World) (a : Option Addr) (len cap : Nat) (zs : List Int) : Prop :=
 (a = none ∧ len = 0 ∧ cap = 0 ∧ zs = []) ∨
 ∃ x, a = some x ∧ len ≤ cap ∧ cap ≤ maxLen ∧ zs.length = cap ∧ (∀ i, i < zs.length → w.cell? (x.add i) = some (.int k (zs.getD i 0))) ∧ ∀ n ∈ zs, (Lit.int k n).wf = true

theorem raw_rd {w : World} {A : Nat → Prop} (v : Value) : (Tr.raw v).rd w A v := by unfold Tr.raw; rfl

theorem rdc_ints {w : World} {A : Nat → Prop} : ∀ {zs : List Int} {vs : List Value}, vs.length = zs.length → (∀ i, i < zs.length → vs[i]? = some (.int .i64 (zs.getD i 0))) → RdC w A (intRows zs).flatten vs
 |[], vs, h, _ => by
  simp at h
  subst h
  exact rfl
 |z :: zs, vs, h, hc => by
  cases vs with
  |nil => simp at h
  |cons v vs =>
   have h0 := hc 0 (by simp)
   simp at h0
   subst h0
   refine ⟨_, _, rfl, raw_rd _, rfl, rdc_ints (by simpa using h) (fun i hi => ?_)⟩
   have := hc (i + 1) (by simpa using hi)
   simpa using this

theorem isRow_rd {w : World} {a : Option Addr} {len cap : Nat} {zs : List Int} (h : IsRow .i64 w a len cap zs) {A : Nat → Prop} (hA : ∀ b, A b) : (Tr.ints (zs.take len)).rd w A (.slice a len cap) := by
 have hlen : (intRows (zs.take len)).length = len ∧ len ≤ maxLen := by
  rcases h with ⟨_, rfl, _, rfl⟩ | ⟨x, _, hl, hm, hz, _, _⟩
  ·simp [intRows]
  ·rw [intRows_len, List.length_take]; omega
 have hval : Value.slice a len cap = .slice a (intRows (zs.take len)).length cap := by rw [hlen.1]
 rw [hval]
 unfold Tr.ints Tr.sl
 refine ⟨?_, by rw [hlen.1]; exact hlen.2, a, cap, rfl, ?_⟩
 ·intro r hr
  simp only [intRows, List.mem_map] at hr
  obtain ⟨x, _, rfl⟩ := hr
  rfl
 rcases h with ⟨rfl, rfl, rfl, rfl⟩ | ⟨x, rfl, hl, hm, hz, hc, _⟩
 ·exact ⟨by simp [intRows], by simp, fun _ => ⟨by simp [intRows], rfl⟩, .inl (by simp [intRows])⟩
 ·refine ⟨by omega, hm, fun e => (by cases e), ?_⟩
  by_cases h0 : len = 0
  ·left; subst h0; simp [intRows]
  right
  have hc0 := hc 0 (by omega)
  obtain ⟨b, off, spot⟩ := x
  have hs : spot = none := by simpa [Addr.add] using World.cell?_spot hc0
  subst hs
  refine ⟨b, off, rfl, hA b, ?_⟩
  cases hb : w.heap[b]? with
  |none => simp [World.cell?, Addr.add, hb] at hc0
  |some o =>
   cases o with
   |cells c e fz =>
    refine ⟨c, e, fz, rfl, ?_⟩
    have hat : ∀ i, i < zs.length → c[off + i]? = some (.int .i64 (zs.getD i 0)) := by
     intro i hi
     have := hc i hi
     by_cases hi0 : i = 0
     ·subst hi0; simpa [World.cell?, Addr.add, hb] using this
     ·simpa [World.cell?, Addr.add, hb, hi0] using this
    have hsz : off + zs.length ≤ c.size := by
     have := hat (zs.length - 1) (by omega)
     have := (Array.getElem?_eq_some_iff.1 this).1
     omega
    have hfl : (intRows (zs.take len)).flatten.length = len := by
     have : ∀ l : List Int, (intRows l).flatten.length = l.length := by
      intro l; induction l with
      |nil => rfl
      |cons a l ih => simp [intRows] at ih ⊢; exact ih
     rw [this, List.length_take]; omega
    rw [hfl]
    refine rdc_ints (by simp; omega) ?_
    intro i hi
    simp only [List.length_take] at hi
    rw [List.getElem?_take, if_pos (by omega), List.getElem?_drop, Array.getElem?_toList, hat i (by omega)]
    congr 2
    simp only [List.getD_eq_getElem?_getD, List.getElem?_take]
    rw [if_pos (by omega)]
   |_ => simp [World.cell?, Addr.add, hb] at hc0

/-- a law of one slice of numbers -/
theorem law_calls {P : Program} {f : FuncId} {w : World} {a : Option Addr} {len cap : Nat} {zs : List Int} (h : Spec P f [Tr.ints (zs.take len)] [] (fun r _ => r = Tr.bool true)) (hr : IsRow .i64 w a len cap zs) :
  Calls P f #[.slice a len cap] w fun e w' => e = .returned (.bool true) ∧ Below w.heap.size w w' := by
 unfold Spec at h
 refine (h.2 (fun _ => False) w [.slice a len cap] ⟨_, _, rfl, isRow_rd hr (fun b => ⟨id, by simp [fps]⟩), rfl⟩ (by simp) (by simp [fps]) (by simp [fps]) (fun _ h => h.elim)).mono ?_
 rintro e w' ⟨v, r, cs', rfl, rfl, hv, _, _, _, hf⟩
 cases (show v = .bool true by unfold Tr.bool Tr.raw at hv; exact hv)
 exact ⟨rfl, hf.os, hf.tape, hf.output, hf.size, fun k hk => hf.block k hk (by simp [fps])⟩
end Lg
