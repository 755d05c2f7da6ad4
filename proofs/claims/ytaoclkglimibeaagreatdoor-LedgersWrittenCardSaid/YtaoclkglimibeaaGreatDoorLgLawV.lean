/- A part of the proof of a law of this seat: it adds no condition. By an AI agent. -/
import Derived.Stop.LaidErr
import Derived.Test.YtaoclkglimibeaaGreatDoorLgUtf
section
set_option linter.all false
namespace Lg
open Go

/-- what a call does not take stays as it is -/
theorem Spec.frame {P : Program} {f : FuncId} {args : List Tr} {cin : List Chunk} {post : Tr → List Chunk → Prop} (h : Spec P f args cin post) (F : List Chunk) : Spec P f args (cin ++ F) (fun r cs => ∃ c2, post r c2 ∧ cs = c2 ++ F) := by
  unfold Spec at h ⊢
  refine ⟨h.1, fun M w vs hv hch hnd hlt hM => ?_⟩
  have hfa : ∀ c : List Chunk, fps (c ++ F) = fps c ++ fps F := fun c => by simp only [fps, List.flatMap_append]
  have hav : ∀ c : List Chunk, av (fun b => M b ∨ b ∈ fps F) c = av M (c ++ F) := fun c => by
    funext b
    simp only [av, hfa, List.mem_append]
    apply propext
    constructor
    · rintro ⟨h1, h2⟩
      exact ⟨fun h => h1 (.inl h), fun h => h.elim h2 (fun h => h1 (.inr h))⟩
    · rintro ⟨h1, h2⟩
      exact ⟨fun h => h.elim h1 (fun h => h2 (.inr h)), fun h => h2 (.inl h)⟩
  rw [hfa] at hnd hlt
  obtain ⟨hn1, hn2, hdis⟩ := List.nodup_append.1 hnd
  have key := h.2 (fun b => M b ∨ b ∈ fps F) w vs (by rw [hav]; exact hv) (fun c hc => by rw [hav]; exact hch c (List.mem_append_left _ hc)) hn1
    (fun b hb => ⟨(hlt b (List.mem_append_left _ hb)).1, fun hm => hm.elim (hlt b (List.mem_append_left _ hb)).2 (fun hf => hdis b hb b hf rfl)⟩)
    (fun b hm => hm.elim (hM b) (fun hf => (hlt b (List.mem_append_right _ hf)).1))
  refine key.mono ?_
  rintro e w' ⟨v, r, cs', he, hp, hrd, hc, hnd', hfr, hf⟩
  rw [hav] at hrd hc
  have hnew : ∀ b ∈ fps cs', b ∉ fps F := fun b hb hbF => by
    obtain ⟨_, h2, h3⟩ := hfr b hb
    exact h2 (.inr hbF)
  refine ⟨v, r, cs' ++ F, he, ⟨cs', hp, rfl⟩, hrd, ?_, ?_, ?_, ?_⟩
  · intro c hcm
    rcases List.mem_append.1 hcm with h1 | h1
    · exact hc c h1
    · refine c.mono (fun b hb hlt2 => hf.block b hlt2 fun hm => ?_) ?_ (hch c (List.mem_append_right _ h1))
      · exact hdis b hm b (List.mem_flatMap.2 ⟨c, h1, hb⟩) rfl
      · intro b hb hA
        have hA2 := hA
        simp only [av, hfa, List.mem_append, not_or] at hA2
        refine ⟨?_, hf.block b hb hA2.2.1⟩
        simp only [av, hfa, List.mem_append, not_or]
        refine ⟨hA2.1, fun hm => ?_, hA2.2.2⟩
        rcases (hfr b hm).2.2 with h2 | h2
        · exact hA2.2.1 h2
        · omega
  · rw [hfa]
    exact List.nodup_append.2 ⟨hnd', hn2, fun x hx y hy e => hnew x hx (e ▸ hy)⟩
  · intro b hb
    rw [hfa] at hb ⊢
    rcases List.mem_append.1 hb with h1 | h1
    · obtain ⟨g1, g2, g3⟩ := hfr b h1
      exact ⟨g1, fun h => g2 (.inl h), g3.imp_left (List.mem_append_left _)⟩
    · obtain ⟨g1, g2⟩ := hlt b (List.mem_append_right _ h1)
      exact ⟨Nat.lt_of_lt_of_le g1 hf.size, g2, .inl (List.mem_append_right _ h1)⟩
  · rw [hfa]
    exact ⟨hf.os, hf.tape, hf.output, hf.size, fun b hb hn => hf.block b hb fun hm => hn (List.mem_append_left _ hm), hf.drawn⟩
end Lg
end
section
set_option linter.all false
namespace Lg
open Go

/-! ### a law over package variables of the library -/
theorem law_callsV {P : Program} {f : FuncId} {w : World} {a : Option Addr} {len cap : Nat} {zs : List Int} {vs : List (String × (Array Value → Prop))} (ht : VarsIn P vs w) (h : Spec P f [Tr.ints (zs.take len)] [varC P vs] (fun r _ => r = Tr.bool true)) (hr : IsRow .i64 w a len cap zs) :
    Calls P f #[.slice a len cap] w fun e w' => e = .returned (.bool true) ∧ Go.RowKit.Below w.heap.size w w' := by
  unfold Spec at h
  have hav : ∀ b, av (fun _ => False) [varC P vs] b := fun b => ⟨id, by simp [fps, varC]⟩
  refine (h.2 (fun _ => False) w [.slice a len cap] ⟨_, _, rfl, isRow_rd hr hav, rfl⟩ ?_ (by simp [fps, varC]) (by simp [fps, varC]) (fun _ h => h.elim)).mono ?_
  · intro c hc
    rw [List.mem_singleton.1 hc]
    intro x hx
    obtain ⟨a, h1, h2⟩ := ht x hx
    obtain ⟨g, hg⟩ : ∃ g, P.globalNamed x.1 = some g := by
      unfold World.var? at h1
      cases hx : P.globalNamed x.1 with
      | none => rw [hx] at h1; cases h1
      | some g => exact ⟨g, rfl⟩
    exact ⟨g, a, hg, hav g, h1, h2⟩
  rintro e w' ⟨v, r, cs', rfl, rfl, hv, _, _, _, hf⟩
  cases (show v = .bool true by unfold Tr.bool Tr.raw at hv; exact hv)
  exact ⟨rfl, hf.os, hf.tape, hf.output, hf.size, fun k hk => hf.block k hk (by simp [fps, varC])⟩
theorem laid_iface {P : Program} {n nm : String} {d : DataW Unit} {r : List (String × DataW Unit)} {W : World} {g : Nat} {ti : TypeId} {ms : Array (String × TypeId)}
    (h : laidMet P ((n, .iface nm d) :: r) W) (hg : P.globalNamed n = some g) (ht : (P.globals[g]?).map (·.type) = some ti) (hi : P.underlying ti = some (.interface ms)) : ∃ tp p, W.var? P n = some #[.iface tp p] := by
  obtain ⟨ps, ⟨g0, t0, cs0, f0, p0, q0, hg0, ht0, hv0, hd0, _, e0⟩, _, hrows⟩ := h
  obtain rfl := Option.some.inj (hg.symm.trans hg0)
  obtain rfl := Option.some.inj (ht.symm.trans ht0)
  subst e0
  obtain ⟨l0⟩ := cs0
  obtain ⟨f1, u, v, rfl, hn, h1⟩ := Go.iface_of_trod hi hd0
  exact ⟨u, v, hv0⟩
end Lg
end
