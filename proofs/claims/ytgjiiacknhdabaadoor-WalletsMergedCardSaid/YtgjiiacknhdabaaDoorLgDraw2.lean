/- A part of the proof of a law of this seat: it adds no condition. By an AI agent. -/
import Derived.Test.YtgjiiacknhdabaaDoorLgDraw
import Derived.Test.YtgjiiacknhdabaaDoorLgStr
set_option linter.all false
namespace Lg
open Go

/-! ### values of which only some law is known -/
def Tr.intS (p : Int → Prop) : Tr := ⟨fun _ _ v => ∃ n, v = .int .i64 n ∧ p n, fun _ h => h⟩
def Tr.strS (p : ByteArray → Prop) : Tr := ⟨fun _ _ v => ∃ s, v = .string s ∧ p s, fun _ h => h⟩
def Tr.boolS : Tr := ⟨fun _ _ v => ∃ b, v = .bool b, fun _ h => h⟩
instance {p} : OneT (Tr.intS p) := ⟨fun _ _ _ h => by obtain ⟨n, rfl, _⟩ := h; exact ⟨rfl, rfl⟩⟩
instance {p} : OneT (Tr.strS p) := ⟨fun _ _ _ h => by obtain ⟨n, rfl, _⟩ := h; exact ⟨rfl, rfl⟩⟩
instance : OneT Tr.boolS := ⟨fun _ _ _ h => by obtain ⟨n, rfl⟩ := h; exact ⟨rfl, rfl⟩⟩

section strmrow
variable {P : Program} {Γ : Ctx} {env env' : Env} {cs cs' cf : List Chunk} {Q : Post} {C B : Nat}

theorem Row.strm {st b N : Nat} {rows : List (List Tr)} : Row Γ (fun k => Chunk.strm st b rows (N + k) :: cf) := by
  refine ⟨fun k => ?_, fun k k' hk env a w d => ?_⟩
  · funext x
    simp [Lg.av, fps, Chunk.strm]
  · have h : Ent Γ env (Chunk.strm st b rows (N + k) :: cf) env (Chunk.strm st b rows (N + k') :: cf) := Ent.more_strm (by omega)
    unfold Ent at h
    exact h a w d

/-- a call that takes numbers off the stream -/
theorem OpH.callG {st f c b N : Nat} {l : List Operand} {ts : Array TypeId} {ty : TypeId} {args : List Tr} {post : Tr → Prop} {xs : List Int} {t : Tr} (hg : Gen P st f args c post) (hc : c ≤ C) (hN : N + B ≤ 1000000000000) (ha : Evs env l (Tr.ptr b :: args))
    (ht : ∀ r, post r → ∀ w A v, r.rd w A v → t.rd w A v) :
    OpH P Γ (.call ⟨.value (.func f), l.toArray, ts⟩) ty env (fun k => Chunk.strm st b (intRows xs) (N + k) :: cf) C B t := by
  unfold Gen at hg
  intro k hk a w dd d pos af g next F hn
  have hs := hg b xs (N + k) (by omega)
  have hcc := call_core2 (cf := cf) hs dd (List.Perm.refl _) (ha.rd dd)
  have hrun : (execOp a.eval ⟨some d, .call ⟨.value (.func f), l.toArray, ts⟩, ty, pos, af, g⟩).run P w = .ok (.enter f (l.map a.eval).toArray) w := by
    unfold Spec at hs
    have := hs.1 (l.map a.eval).toArray w
    simp [execOp, resolve, invoke, Deferred.ofValue, Act.eval, this]
  unfold Oper.wp
  rw [hrun]
  refine hcc.mono ?_
  rintro e w' ⟨v, r, cs', rfl, ⟨rfl, hp⟩, hrd, hd⟩
  refine hn _ _ (ht r hp _ _ _ ?_) fun env2 h => (Row.strm (Γ := Γ) (cf := cf) (st := st) (b := b) (N := N) (rows := intRows xs)).mono (k + c) (k + C) (by omega) env2 a w' (by have := hd env2 h; rwa [Nat.add_assoc] at this)
  have h0 := (Row.strm (Γ := Γ) (cf := cf) (st := st) (b := b) (N := N) (rows := intRows xs)).av (k + c)
  rw [← h0, ← Nat.add_assoc]
  exact hrd

theorem Cw.region_strm {id m st b N : Nat} {rows : List (List Tr)} {l : List Oper} (C : Nat) (hp : cs.Perm (Chunk.strm st b rows N :: cf)) (hm : P.follows .mixedOrders = true) (hb : (backOk l && (nodupB (dsts (l.take m)) && (ssaFrom l 0 (l.take m) && (tailOk l m && Nat.ble m l.length)))) = true) (hlt : (dsts (l.take m)).all (Nat.blt · Γ.n) = true)
    (h : PSeqH P Γ (fun k => Chunk.strm st b rows (N + k) :: cf) C (C * l.length) (fun acc => Ops P Γ l.toArray (l.drop m) acc (Chunk.strm st b rows (N + C * m) :: cf) Q) 0 [] env (l.take m)) : Cw P Γ (.region id l.toArray true) env cs Q :=
  Cw.ent (Ent.perm hp) (Cw.region_H (H := fun k => Chunk.strm st b rows (N + k) :: cf) C Row.strm hm hb hlt h)

/-- what a slot holds is looked at more closely -/
theorem Ops.open_slot {ι : Type} {R : Array Oper} {l : List Oper} {i : Nat} {t : Tr} {p : ι → Prop} {f : ι → Tr} (hl : look env i = some t) (ho : ∀ w A v, t.rd w A v → ∃ x, p x ∧ (f x).rd w A v) (k : ∀ x, p x → Ops P Γ R l ((i, f x) :: env) cs Q) : Ops P Γ R l env cs Q := by
  unfold Ops
  intro a w d
  obtain ⟨x, hp, hx⟩ := ho w _ _ (d.env i t hl)
  have h := k x hp
  unfold Ops at h
  refine h a w ⟨d.nodefer, d.tmps, ?_, d.chunks, d.nodup, d.fresh, d.below, d.frame⟩
  intro j u hj
  by_cases e : i = j
  · subst e; rw [look_cons_same] at hj; cases hj; exact hx
  · rw [look_cons_ne _ _ e] at hj; exact d.env j u hj
end strmrow

theorem open_sl1 {ι : Type} {k : Nat} {row : List Tr} {p : ι → Prop} {f : ι → List Tr} (hk : ∀ x, (f x).length = row.length) (h : ∀ w A vs, RdC w A row vs → ∃ x, p x ∧ RdC w A (f x) vs) : ∀ w A v, (Tr.sl k [row]).rd w A v → ∃ x, p x ∧ (Tr.sl k [f x]).rd w A v := by
  intro w A v hv
  unfold Tr.sl at hv
  obtain ⟨h1, h2, a, cap, rfl, h3, h4, h5, h6⟩ := hv
  rcases h6 with h6 | ⟨b, off, rfl, hA, c, e, fz, hb, hr⟩
  · cases h6
  · simp only [List.flatten_cons, List.flatten_nil, List.append_nil] at hr
    obtain ⟨x, hp, hx⟩ := h _ _ _ hr
    refine ⟨x, hp, ?_⟩
    unfold Tr.sl
    refine ⟨fun r hr => ?_, h2, some ⟨b, off, none⟩, cap, rfl, h3, h4, fun e => (by cases e), .inr ⟨b, off, rfl, hA, c, e, fz, hb, ?_⟩⟩
    · simp only [List.mem_singleton] at hr
      subst hr
      rw [hk]
      exact h1 row (by simp)
    · simp only [List.flatten_cons, List.flatten_nil, List.append_nil]
      rw [hk]
      exact hx
theorem rdc_intS {w : World} {A : Nat → Prop} {p : Int → Prop} {ts : List Tr} {vs : List Value} (h : RdC w A (Tr.intS p :: ts) vs) : ∃ n, p n ∧ ∃ rest, vs = .int .i64 n :: rest ∧ RdC w A ts rest := by
  obtain ⟨v, rest, rfl, ⟨n, rfl, hp⟩, _, hr⟩ := h
  exact ⟨n, hp, rest, rfl, hr⟩
theorem rdc_strS {w : World} {A : Nat → Prop} {p : ByteArray → Prop} {ts : List Tr} {vs : List Value} (h : RdC w A (Tr.strS p :: ts) vs) : ∃ n, p n ∧ ∃ rest, vs = .string n :: rest ∧ RdC w A ts rest := by
  obtain ⟨v, rest, rfl, ⟨n, rfl, hp⟩, _, hr⟩ := h
  exact ⟨n, hp, rest, rfl, hr⟩
theorem rdc_rawv {w : World} {A : Nat → Prop} {v : Value} (ho : v.oneCell' = true) {ts : List Tr} {vs : List Value} (h : RdC w A ts vs) : RdC w A (Tr.raw v :: ts) (v :: vs) :=
  ⟨v, vs, rfl, raw_self v, ho, h⟩
end Lg
