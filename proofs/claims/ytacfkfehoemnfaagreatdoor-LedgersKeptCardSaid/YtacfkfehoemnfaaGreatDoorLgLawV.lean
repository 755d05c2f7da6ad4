/- A part of the proof of a law of this seat: it adds no condition. By an AI agent. -/
import Derived.Stop.LaidErr
import Derived.Test.YtacfkfehoemnfaaGreatDoorLgUtf
set_option linter.all false
namespace Lg
open Go

/-! ### a law over package variables of the library -/
theorem law_callsV {P : Program} {f : FuncId} {w : World} {a : Option Addr} {len cap : Nat} {zs : List Int} {vs : List (String × (Array Value → Prop))} (ht : VarsIn P vs w) (h : Spec P f [Tr.ints (zs.take len)] [varC P vs] (fun r _ => r = Tr.bool true)) (hr : IsRow .i64 w a len cap zs) :
    Calls P f #[.slice a len cap] w fun e w' => e = .returned (.bool true) ∧ Go.RowKit.Below w.heap.size w w' := by
  unfold Spec at h
  have hav : ∀ b, av (fun _ => False) [varC P vs] b := fun b => ⟨id, by simp [fps, varC]⟩
  refine (h.2 (fun _ => False) w [.slice a len cap] ⟨_, _, rfl, isRow_rd hr hav, rfl⟩ ?_ (by simp [fps, varC]) (by simp [fps, varC]) (fun _ h => h.elim)).mono ?_
  · intro c hc
    rw [List.mem_singleton.1 hc]
    intro x hx
    obtain ⟨a, h1, h2⟩ := ht x hx
    obtain ⟨g, hg⟩ : ∃ g, P.globalNamed x.1 = some g := by
      unfold World.var? at h1
      cases hx : P.globalNamed x.1 with
      | none => rw [hx] at h1; cases h1
      | some g => exact ⟨g, rfl⟩
    exact ⟨g, a, hg, hav g, h1, h2⟩
  rintro e w' ⟨v, r, cs', rfl, rfl, hv, _, _, _, hf⟩
  cases (show v = .bool true by unfold Tr.bool Tr.raw at hv; exact hv)
  exact ⟨rfl, hf.os, hf.tape, hf.output, hf.size, fun k hk => hf.block k hk (by simp [fps, varC])⟩
theorem laid_iface {P : Program} {n nm : String} {d : DataW Unit} {r : List (String × DataW Unit)} {W : World} {g : Nat} {ti : TypeId} {ms : Array (String × TypeId)}
    (h : laidMet P ((n, .iface nm d) :: r) W) (hg : P.globalNamed n = some g) (ht : (P.globals[g]?).map (·.type) = some ti) (hi : P.underlying ti = some (.interface ms)) : ∃ tp p, W.var? P n = some #[.iface tp p] := by
  obtain ⟨ps, ⟨g0, t0, cs0, f0, p0, q0, hg0, ht0, hv0, hd0, _, e0⟩, _, hrows⟩ := h
  obtain rfl := Option.some.inj (hg.symm.trans hg0)
  obtain rfl := Option.some.inj (ht.symm.trans ht0)
  subst e0
  obtain ⟨l0⟩ := cs0
  obtain ⟨f1, u, v, rfl, hn, h1⟩ := Go.iface_of_trod hi hd0
  exact ⟨u, v, hv0⟩
end Lg
