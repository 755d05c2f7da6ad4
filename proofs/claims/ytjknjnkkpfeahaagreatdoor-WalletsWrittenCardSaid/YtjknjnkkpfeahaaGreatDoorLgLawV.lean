/- A part of the proof of a law of this seat: it adds no condition. By an AI agent. -/
import Derived.Stop.LaidErr
import Derived.Test.YtjknjnkkpfeahaaGreatDoorLgFct
section
set_option linter.all false
set_option maxRecDepth 100000
namespace Lg
open Go Go.RowKit

/-! ### s[l:h:h] of a settled slice -/
section
variable {P : Program} {Γ : Ctx} {env env' : Env} {cs cs' cf : List Chunk} {Q : Post} {R : Array Oper}
variable {i : Tmp} {ty : TypeId} {pos : String} {af : Array Edge} {rest : List Oper}
variable {x y z z2 : Operand} {T : TypeId} {k : IntKind} {p q : Int}
theorem sl_capL {w : World} {A : Nat → Prop} {kk : Nat} {rows : List (List Tr)} {ad : Option Addr} {n cap cap2 : Nat} (hv : (Tr.sl kk rows).rd w A (.slice ad n cap)) (h0 : rows ≠ []) (h1 : rows.length ≤ cap2) (h2 : cap2 ≤ cap) : (Tr.sl kk rows).rd w A (.slice ad n cap2) := by
  unfold Tr.sl at hv ⊢
  obtain ⟨hk, hm, ad', cap', he, h3, h4, h5, h6⟩ := hv
  simp only [Value.slice.injEq] at he
  obtain ⟨rfl, rfl, rfl⟩ := he
  exact ⟨hk, hm, _, _, rfl, h1, by omega, fun hn => absurd (h5 hn).1 h0, h6⟩
end
end Lg
end
section
set_option linter.all false
set_option maxRecDepth 100000
namespace Lg
open Go Go.RowKit

/-! ### s[:h:h] of a settled slice -/
section
variable {P : Program} {Γ : Ctx} {env env' : Env} {cs cs' cf : List Chunk} {Q : Post} {R : Array Oper}
variable {i : Tmp} {ty : TypeId} {pos : String} {af : Array Edge} {rest : List Oper}
variable {x y z z2 : Operand} {T : TypeId} {k : IntKind} {p q : Int}
theorem OpV.slice_hm {E kk bb zs} [hS : TySl P T E kk bb zs] {rows : List (List Tr)} (hx : ev env x = some (.sl kk rows)) (hz : ev env z = some (.raw (.int k q))) (hz2 : ev env z2 = some (.raw (.int k q))) (h0 : 0 < q ∧ q ≤ rows.length) : OpV P Γ (.slice T x none (some z) (some z2)) ty env cs (.sl kk (rows.take q.toNat)) := by
  unfold OpV
  intro a w d
  have hv := d.ev hx
  have hq := rd_raw (d.ev hz)
  have hq2 := rd_raw (d.ev hz2)
  have hv2 := hv
  unfold Tr.sl at hv2
  obtain ⟨hk, hm, ad, cap, he, h1, h2, h3, h4⟩ := hv2
  obtain ⟨ti, zv, e1, e2, e3, e4, _⟩ := hS.hE
  have hb := bounds_hm (P := P) (k := k) (len := rows.length) (cap := cap) (h := q) (w := w) (by omega) (by omega)
  have hne : ¬ q.toNat = 0 := by omega
  have hne2 : ¬ q ≤ 0 := by omega
  have hrun : (Instr.sliceAt T (.slice ad rows.length cap) none (some (.int k q)) (some (.int k q))).run P w = .ok (.slice (ad.map (·.add (0 * kk))) (q.toNat - 0) (q.toNat - 0)) w := by
    simp [Instr.sliceAt, Instr.slice, run_underlying hS.hT, hb, Go.sizeOf, typeInfo, e1, e4, hne, hne2]
  refine ⟨_, by simp [execOp, he, hq, hq2, hrun] <;> rfl, ?_⟩
  rw [he] at hv
  have hs := sl_sub (l := 0) (h := q.toNat) hv (by omega) (by omega)
  have hlen : (rows.take q.toNat).length = q.toNat := by simp; omega
  rw [if_neg (by omega), List.drop_zero, Nat.zero_mul, Nat.sub_zero, Nat.sub_zero] at hs
  exact sl_capL hs (fun h => by rw [h] at hlen; simp at hlen; omega) (by omega) (by omega)
theorem Ops.slice_hm {E kk bb zs} [hS : TySl P T E kk bb zs] {rows : List (List Tr)} (hx : ev env x = some (.sl kk rows)) (hz : ev env z = some (.raw (.int k q))) (hz2 : ev env z2 = some (.raw (.int k q))) (h0 : 0 < q ∧ q ≤ rows.length) (hi : Nat.blt i Γ.n = true)
    (kont : Ops P Γ R rest ((i, .sl kk (rows.take q.toNat)) :: env) cs Q) : Ops P Γ R (⟨some i, .slice T x none (some z) (some z2), ty, pos, af, none⟩ :: rest) env cs Q :=
  Ops.val' hi (OpV.slice_hm hx hz hz2 h0) kont
end
end Lg
end
section
set_option linter.all false
namespace Lg
open Go

/-! ### a law over package variables of the library -/
theorem law_callsV {P : Program} {f : FuncId} {w : World} {a : Option Addr} {len cap : Nat} {zs : List Int} {vs : List (String × (Array Value → Prop))} (ht : VarsIn P vs w) (h : Spec P f [Tr.ints (zs.take len)] [varC P vs] (fun r _ => r = Tr.bool true)) (hr : IsRow .i64 w a len cap zs) :
    Calls P f #[.slice a len cap] w fun e w' => e = .returned (.bool true) ∧ Go.RowKit.Below w.heap.size w w' := by
  unfold Spec at h
  have hav : ∀ b, av (fun _ => False) [varC P vs] b := fun b => ⟨id, by simp [fps, varC]⟩
  refine (h.2 (fun _ => False) w [.slice a len cap] ⟨_, _, rfl, isRow_rd hr hav, rfl⟩ ?_ (by simp [fps, varC]) (by simp [fps, varC]) (fun _ h => h.elim)).mono ?_
  · intro c hc
    rw [List.mem_singleton.1 hc]
    intro x hx
    obtain ⟨a, h1, h2⟩ := ht x hx
    obtain ⟨g, hg⟩ : ∃ g, P.globalNamed x.1 = some g := by
      unfold World.var? at h1
      cases hx : P.globalNamed x.1 with
      | none => rw [hx] at h1; cases h1
      | some g => exact ⟨g, rfl⟩
    exact ⟨g, a, hg, hav g, h1, h2⟩
  rintro e w' ⟨v, r, cs', rfl, rfl, hv, _, _, _, hf⟩
  cases (show v = .bool true by unfold Tr.bool Tr.raw at hv; exact hv)
  exact ⟨rfl, hf.os, hf.tape, hf.output, hf.size, fun k hk => hf.block k hk (by simp [fps, varC])⟩
theorem laid_iface {P : Program} {n nm : String} {d : DataW Unit} {r : List (String × DataW Unit)} {W : World} {g : Nat} {ti : TypeId} {ms : Array (String × TypeId)}
    (h : laidMet P ((n, .iface nm d) :: r) W) (hg : P.globalNamed n = some g) (ht : (P.globals[g]?).map (·.type) = some ti) (hi : P.underlying ti = some (.interface ms)) : ∃ tp p, W.var? P n = some #[.iface tp p] := by
  obtain ⟨ps, ⟨g0, t0, cs0, f0, p0, q0, hg0, ht0, hv0, hd0, _, e0⟩, _, hrows⟩ := h
  obtain rfl := Option.some.inj (hg.symm.trans hg0)
  obtain rfl := Option.some.inj (ht.symm.trans ht0)
  subst e0
  obtain ⟨l0⟩ := cs0
  obtain ⟨f1, u, v, rfl, hn, h1⟩ := Go.iface_of_trod hi hd0
  exact ⟨u, v, hv0⟩
end Lg
end
