/- A part of the proof of a law of this seat: it adds no condition. By an AI agent. -/
import Derived.Lib.LaidTab
import Derived.Sort.Grow
import Derived.Deep.Draws
import Derived.Test.YtaoclkglimibeaaGreatDoorLgClr
import Derived.Test.YtaoclkglimibeaaGreatDoorFrame
section
set_option linter.all false
namespace Lg
open Go

/-! ### a table of the library's own: a chunk without blocks -/
def tabC (P : Program) (name : String) (k : IntKind) (zs : List Int) : Chunk :=
  ⟨[], fun w A => ∃ g, P.globalNamed name = some g ∧ A g ∧ Lib.TabIs P w name k zs, fun {w w' A A'} _ hs ⟨g, h1, h2, h3⟩ => by
    refine ⟨g, h1, ?_⟩
    unfold Lib.TabIs World.var? at h3 ⊢
    rw [h1] at h3 ⊢
    simp only [Option.bind_some] at h3 ⊢
    have hlt : g < w.heap.size := by
      rcases Nat.lt_or_ge g w.heap.size with h | h
      · exact h
      · rw [Array.getElem?_eq_none h] at h3
        cases h3
    obtain ⟨a1, a2⟩ := hs g hlt h2
    rw [a2]
    exact ⟨a1, h3⟩⟩
/-- a law of one slice of numbers, with a table -/
theorem law_callsT {P : Program} {f : FuncId} {w : World} {a : Option Addr} {len cap : Nat} {zs : List Int} {name : String} {k : IntKind} {ts : List Int} (ht : Lib.TabIs P w name k ts) (h : Spec P f [Tr.ints (zs.take len)] [tabC P name k ts] (fun r _ => r = Tr.bool true)) (hr : IsRow .i64 w a len cap zs) :
    Calls P f #[.slice a len cap] w fun e w' => e = .returned (.bool true) ∧ Go.RowKit.Below w.heap.size w w' := by
  unfold Spec at h
  have hav : ∀ b, av (fun _ => False) [tabC P name k ts] b := fun b => ⟨id, by simp [fps, tabC]⟩
  have hg : ∃ g, P.globalNamed name = some g := by
    unfold Lib.TabIs World.var? at ht
    cases hx : P.globalNamed name with
    | none => rw [hx] at ht; cases ht
    | some g => exact ⟨g, rfl⟩
  obtain ⟨g, hg⟩ := hg
  refine (h.2 (fun _ => False) w [.slice a len cap] ⟨_, _, rfl, isRow_rd hr hav, rfl⟩ ?_ (by simp [fps, tabC]) (by simp [fps, tabC]) (fun _ h => h.elim)).mono ?_
  · intro c hc
    rw [List.mem_singleton.1 hc]
    exact ⟨g, hg, hav g, ht⟩
  rintro e w' ⟨v, r, cs', rfl, rfl, hv, _, _, _, hf⟩
  cases (show v = .bool true by unfold Tr.bool Tr.raw at hv; exact hv)
  exact ⟨rfl, hf.os, hf.tape, hf.output, hf.size, fun k hk => hf.block k hk (by simp [fps, tabC])⟩
attribute [irreducible] tabC
end Lg
end
section
set_option linter.all false
namespace Lg
open Go

/-! ### package variables of the library: a chunk without blocks -/
def varC (P : Program) (vs : List (String × (Array Value → Prop))) : Chunk :=
  ⟨[], fun w A => ∀ x ∈ vs, ∃ g a, P.globalNamed x.1 = some g ∧ A g ∧ w.var? P x.1 = some a ∧ x.2 a, fun {w w' A A'} _ hs h x hx => by
    obtain ⟨g, a, h1, h2, h3, h4⟩ := h x hx
    have hlt : g < w.heap.size := by
      rcases Nat.lt_or_ge g w.heap.size with h | h
      · exact h
      · unfold World.var? at h3
        rw [h1] at h3
        simp only [Option.bind_some] at h3
        rw [Array.getElem?_eq_none h] at h3
        cases h3
    obtain ⟨a1, a2⟩ := hs g hlt h2
    refine ⟨g, a, h1, a1, ?_, h4⟩
    unfold World.var? at h3 ⊢
    rw [h1] at h3 ⊢
    simp only [Option.bind_some] at h3 ⊢
    rw [a2]
    exact h3⟩
def VarsIn (P : Program) (vs : List (String × (Array Value → Prop))) (w : World) : Prop := ∀ x ∈ vs, ∃ a, w.var? P x.1 = some a ∧ x.2 a
theorem Spec.of_vars {P : Program} {f : FuncId} {args : List Value} {vs : List (String × (Array Value → Prop))} {post : Tr → Prop} (he : ∀ (vs : Array Value) (w : World), (callFunc f vs).run P w = .ok (.enter f vs) w)
    (h : ∀ w, VarsIn P vs w → Calls P f args.toArray w fun e w' => ∃ v r, e = .returned v ∧ post r ∧ (∀ w A, r.rd w A v) ∧ Go.RowKit.Below w.heap.size w w' ∧ (Strict → w.drawn ≤ w'.drawn)) :
    Spec P f (args.map Tr.raw) [varC P vs] (fun r cs => post r ∧ cs = [varC P vs]) := by
  unfold Spec
  refine ⟨he, fun M w vs' hv hc _ _ hM => ?_⟩
  have : ∀ (as us : List Value), RdL w (av M [varC P vs]) (as.map Tr.raw) us → us = as := by
    intro as
    induction as with
    | nil => intro vs h; exact h
    | cons a as ih =>
      rintro vs ⟨u, rest, rfl, h1, h2⟩
      rw [ih rest h2, rd_raw h1]
  rw [this args vs' hv]
  have ht := hc _ (List.mem_singleton.2 rfl)
  have hin : VarsIn P vs w := fun x hx => by
    obtain ⟨g, a, _, _, h3, h4⟩ := ht x hx
    exact ⟨a, h3, h4⟩
  refine (h w hin).mono ?_
  rintro e w' ⟨v, r, rfl, hp, hrd, hb, hd⟩
  have hold : ∀ b, b < w.heap.size → w'.heap[b]? = w.heap[b]? := hb.block
  have hf : Frm (fps [varC P vs]) w w' := ⟨hb.os, hb.tape, hb.output, hb.size, fun b hb _ => hold b hb, hd⟩
  refine ⟨v, r, _, rfl, ⟨hp, rfl⟩, hrd _ _, ?_, by simp [fps, varC], by simp [fps, varC], hf⟩
  intro c hc2
  rw [List.mem_singleton.1 hc2]
  exact (varC P vs).mono (A := av M [varC P vs]) (fun b hb _ => hold b (by simp [varC] at hb)) (fun b hb h => ⟨h, hold b hb⟩) ht
/-- the same without a word on draws: no call takes one back -/
theorem Spec.of_varsB {P : Program} {f : FuncId} {args : List Value} {vs : List (String × (Array Value → Prop))} {post : Tr → Prop} (he : ∀ (vs : Array Value) (w : World), (callFunc f vs).run P w = .ok (.enter f vs) w)
    (h : ∀ w, VarsIn P vs w → Calls P f args.toArray w fun e w' => ∃ v r, e = .returned v ∧ post r ∧ (∀ w A, r.rd w A v) ∧ Go.RowKit.Below w.heap.size w w') :
    Spec P f (args.map Tr.raw) [varC P vs] (fun r cs => post r ∧ cs = [varC P vs]) :=
  Spec.of_vars he fun w hv => (calls_drawn (h w hv) (fun e w' hr => by obtain ⟨v, r, h1, _⟩ := hr; exact ⟨v, h1⟩)).mono fun e w' hr => by
    obtain ⟨⟨v, r, h1, h2, h3, h4⟩, hd⟩ := hr
    exact ⟨v, r, h1, h2, h3, h4, fun _ => hd⟩
end Lg
end
section
set_option linter.all false
set_option maxRecDepth 100000
namespace Lg
open Go

/-! ### an array in a package variable of the library -/
section
variable {P : Program} {Γ : Ctx} {env env' : Env} {cs cs' cf : List Chunk} {Q : Post} {R : Array Oper} {rest : List Oper}
variable {x y : Operand} {T T2 ty : TypeId} {k : IntKind} {p q : Int} {i pos : _} {af : _}
theorem OpV.indexAddr_tab {vs : List (String × (Array Value → Prop))} {name : String} {pr : Array Value → Prop} {g n E kk : Nat} {r : List Value}
    (hT : P.underlying T = some (.array n E)) (hE : ∃ i, P.info? E = some i ∧ i.size = kk) (hx : ev env x = some (.raw (.pointer (some ⟨g, 0, none⟩)))) (hy : ev env y = some (.raw (.int k p))) (hg : P.globalNamed name = some g)
    (hp : cs.Perm (varC P vs :: cf)) (hm : (name, pr) ∈ vs) (h0 : 0 ≤ p ∧ p < n) (hr : ∀ a, pr a → (a.toList.drop (p.toNat * kk)).take kk = r) (hl : r.length = kk) (h1 : ∀ v ∈ r, v.oneCell' = true) :
    OpV P Γ (.indexAddr T x y) ty env cs (.ref (r.map Tr.raw)) := by
  unfold OpV
  intro a w d
  have e1 := rd_raw (d.ev hx)
  have e2 := rd_raw (d.ev hy)
  obtain ⟨g', c, e, hA, hv, hc⟩ := d.has hp _ hm
  obtain rfl := Option.some.inj (hg.symm.trans e)
  obtain ⟨inf, hi, hs⟩ := hE
  have hheap : ∃ e fz, w.heap[g]? = some (.cells c e fz) := by
    unfold World.var? at hv
    rw [hg] at hv
    simp only [Option.bind_some] at hv
    split at hv
    · rename_i h
      cases hv
      exact ⟨_, _, h⟩
    · cases hv
  obtain ⟨e, fz, hb⟩ := hheap
  refine ⟨.pointer (some ⟨g, p.toNat * kk, none⟩), ?_, ?_⟩
  · simp [execOp, e1, e2, Instr.indexAt, run_underlying hT, asIntOf, h0.1, h0.2, Go.sizeOf, typeInfo, hi, hs, add_plain, Instr.sureAddr]
  · unfold Tr.ref
    refine ⟨g, p.toNat * kk, rfl, hA, c, e, fz, hb, ?_⟩
    rw [List.length_map, hl, hr c hc]
    exact rdc_raw h1
end
/-- a contract over some variables serves where there are more -/
theorem Spec.varS {P : Program} {f : FuncId} {args : List Tr} {vs1 vs2 : List (String × (Array Value → Prop))} {post : Tr → Prop} (hsub : ∀ x ∈ vs1, x ∈ vs2)
    (h : Spec P f args [varC P vs1] (fun r cs => post r ∧ cs = [varC P vs1])) : Spec P f args [varC P vs2] (fun r cs => post r ∧ cs = [varC P vs2]) := by
  unfold Spec at h ⊢
  refine ⟨h.1, fun M w vs hv hc h5 h6 hM => ?_⟩
  have hav : av M [varC P vs1] = av M [varC P vs2] := by unfold av; simp [fps, varC]
  have ht := hc _ (List.mem_singleton.2 rfl)
  refine (h.2 M w vs (by rw [hav]; exact hv) ?_ (by simp [fps, varC]) (by simp [fps, varC]) hM).mono ?_
  · intro c hc2
    rw [List.mem_singleton.1 hc2, hav]
    exact fun x hx => ht x (hsub x hx)
  rintro e w' ⟨v, r, cs', rfl, ⟨hp, rfl⟩, hrd, _, _, _, hf⟩
  refine ⟨v, r, _, rfl, ⟨hp, rfl⟩, by rw [← hav]; exact hrd, ?_, by simp [fps, varC], by simp [fps, varC], ?_⟩
  · intro c hc2
    rw [List.mem_singleton.1 hc2]
    exact (varC P vs2).mono (A := av M [varC P vs2]) (fun b hb _ => by simp [varC] at hb) (fun b hb h => ⟨h, hf.block b hb (by simp [fps, varC])⟩) ht
  · have e : fps [varC P vs1] = fps [varC P vs2] := by simp [fps, varC]
    rw [← e]
    exact hf
end Lg
end
