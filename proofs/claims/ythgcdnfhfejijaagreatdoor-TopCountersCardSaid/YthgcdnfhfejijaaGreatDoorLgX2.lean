/- A part of the proof of a law of this seat: it adds no condition. By an AI agent. -/
import Derived.Test.YthgcdnfhfejijaaGreatDoorLgNest
section
set_option linter.all false
namespace Lg
open Go

section mk
variable {P : Program} {Γ : Ctx} {env env' : Env} {cs cs' cf : List Chunk} {Q : Post} {R : Array Oper}
variable {x y : Operand} {T T2 : TypeId} {ty : TypeId} {k k2 : IntKind} {p : Int}
theorem OpV.convI {d1 : TypeDesc} (h1 : P.underlying T = some d1) (h2 : P.underlying T2 = some (.int k2)) (hx : ev env x = some (.raw (.int k p))) : OpV P Γ (.convert T T2 x) ty env cs (.raw (.int k2 (k2.wrap p))) := by
 unfold OpV
 intro a w d
 have hv := rd_raw (d.ev hx)
 refine ⟨.int k2 (k2.wrap p), ?_, raw_self _⟩
 simp [execOp, hv, convert, run_underlying h1, run_underlying h2, Conv.intToInt]
end mk
end Lg
end
section
set_option linter.all false
namespace Lg
open Go

/-! ### regions whose order is open, in which operations turn the owned memory: H says what is owned once the operations of S are done, by what they yielded -/
section x
variable {P : Program} {Γ : Ctx} {env base : Env} {cs : List Chunk} {Q : Post} {H : (Nat → Value) → (Nat → Bool) → List Chunk} {L : List Oper}

def upd (ξ : Nat → Value) (i : Nat) (v : Value) : Nat → Value := fun j => match Nat.beq j i with | true => v | false => ξ j
def updD (S : Nat → Bool) (i : Nat) : Nat → Bool := fun j => match Nat.beq j i with | true => true | false => S j
theorem nbeq_ne {j i : Nat} (h : j ≠ i) : Nat.beq j i = false := by
 cases hb : Nat.beq j i
 ·rfl
 ·exact absurd (Nat.eq_of_beq_eq_true hb) h
theorem upd_same (ξ : Nat → Value) (i : Nat) (v : Value) : upd ξ i v i = v := by simp [upd]
theorem upd_ne (ξ : Nat → Value) {i j : Nat} (v : Value) (h : j ≠ i) : upd ξ i v j = ξ j := by
 unfold upd
 rw [nbeq_ne h]
theorem updD_same (S : Nat → Bool) (i : Nat) : updD S i i = true := by simp [updD]
theorem updD_ne (S : Nat → Bool) {i j : Nat} (h : j ≠ i) : updD S i j = S j := by
 unfold updD
 rw [nbeq_ne h]

/-- it speaks of the operation's own value, and of those that it waits for -/
def PvOk (n : Nat) (o : Oper) (Pv : (Nat → Value) → Prop) : Prop := ∀ ξ k v, k ≠ n → k ∉ preds o.after → Pv ξ → Pv (upd ξ k v)
theorem PvOk.own {n : Nat} {o : Oper} {p : Value → Prop} : PvOk n o (fun ξ => p (ξ n)) := fun ξ k v hk _ h => by
 show p (upd ξ k v n)
 rw [upd_ne _ _ (Ne.symm hk)]
 exact h
theorem PvOk.triv {n : Nat} {o : Oper} : PvOk n o (fun _ => True) := fun _ _ _ _ _ _ => trivial

structure XI (L : List Oper) (env : Env) (n : Nat) (acc : (Nat → Value) → Env) (Pf : Nat → (Nat → Value) → Prop) (T : Nat → Value → Tr) (Pv : Nat → (Nat → Value) → Prop) : Prop where
 look : ∀ ξ s t, Lg.look (acc ξ) s = some t → (∃ j oj, j < n ∧ L[j]? = some oj ∧ oj.dst = some s ∧ t = T j (ξ j)) ∨ (Lg.look env s = some t ∧ ∀ j oj, j < n → L[j]? = some oj → oj.dst ≠ some s)
 pf : ∀ (k : Nat) (ξ : Nat → Value), (k < n → Pv k ξ) → Pf k ξ
theorem XI.agree {n : Nat} {acc : (Nat → Value) → Env} {Pf : Nat → (Nat → Value) → Prop} {T T' : Nat → Value → Tr} {Pv Pv' : Nat → (Nat → Value) → Prop} (h : XI L env n acc Pf T Pv) (e : ∀ j, j < n → T' j = T j ∧ Pv' j = Pv j) : XI L env n acc Pf T' Pv' := by
 refine ⟨fun ξ s t hl => ?_, fun k v hk => h.pf k v fun hkn => ?_⟩
 ·rcases h.look ξ s t hl with ⟨j, oj, h1, h2, h3, h4⟩ | h
  ·exact .inl ⟨j, oj, h1, h2, h3, by rw [(e j h1).1]; exact h4⟩
  ·exact .inr h
 ·rw [← (e k hkn).2]
  exact hk hkn

theorem nodup_dst {l : List Oper} (hnd : (dsts l).Nodup) : ∀ {i j : Nat} {oi oj : Oper} {d : Nat}, l[i]? = some oi → l[j]? = some oj → oi.dst = some d → oj.dst = some d → i = j := by
 unfold dsts at hnd
 induction l with
 |nil => intro i j oi oj d h; simp at h
 |cons p l ih =>
  intro i j oi oj d hi hj hdi hdj
  have mem : ∀ {k : Nat} {ok : Oper}, l[k]? = some ok → ok.dst = some d → d ∈ l.filterMap (·.dst) := fun hk hd => List.mem_filterMap.2 ⟨_, List.mem_of_getElem? hk, hd⟩
  have hnd' : (l.filterMap (·.dst)).Nodup := by
   cases hp : p.dst with
   |none => rwa [List.filterMap_cons, hp] at hnd
   |some x => rw [List.filterMap_cons, hp] at hnd; exact (List.nodup_cons.1 hnd).2
  have hno : p.dst = some d → d ∉ l.filterMap (·.dst) := by
   intro hp
   rw [List.filterMap_cons, hp] at hnd
   exact (List.nodup_cons.1 hnd).1
  cases i with
  |zero =>
   simp at hi
   subst hi
   cases j with
   |zero => rfl
   |succ j => simp at hj; exact absurd (mem hj hdj) (hno hdi)
  |succ i =>
   simp at hi
   cases j with
   |zero => simp at hj; subst hj; exact absurd (mem hi hdi) (hno hdj)
   |succ j => simp at hj; rw [ih hnd' hi hj hdi hdj]

def noGuards (l : List Oper) : Bool := l.all fun o => match o.guard with | none => true | some _ => false

def blk : Value → Nat
 | .pointer (some a) => a.block
 |_ => 0
theorem closed_false {S : Nat → Bool} {i k : Nat} {ok : Oper} (h1 : S i = false) (h3 : ∀ k ok, L[k]? = some ok → S k = true → ∀ j ∈ preds ok.after, S j = true) (hk : L[k]? = some ok) (hi : (preds ok.after).contains i = true) : S k = false := by
 cases h : S k
 ·rfl
 ·have := h3 k ok hk h i (by simpa using hi)
  rw [h1] at this
  cases this
variable {Pf : Nat → (Nat → Value) → Prop} {i d : Nat} {op : Op} {ty : TypeId} {pos : String} {af : Array Edge} {acc : (Nat → Value) → Env} {t : Tr}
section seqs
variable {K : Env → List Chunk → Prop} {n : Nat} {l : List Oper}
end seqs
end x

section imp
variable {P : Program} {Γ : Ctx} {env env' : Env} {cs cs' cf : List Chunk} {Q : Post}
/-- says no more -/
def Imp (t t' : Tr) : Prop := ∀ w A v, t.rd w A v → t'.rd w A v
inductive ImpL : List Tr → List Tr → Prop
 |nil : ImpL [] []
 |cons {t t' : Tr} {ts ts' : List Tr} (h : Imp t t') (k : ImpL ts ts') : ImpL (t :: ts) (t' :: ts')
theorem Imp.refl {t : Tr} : Imp t t := fun _ _ _ h => h
theorem Imp.nil {k : Nat} : Imp (Tr.raw (.slice none 0 0)) (Tr.sl k []) := by
 intro w A v h
 have := rd_raw h
 subst this
 unfold Tr.sl
 exact ⟨by simp, by simp, none, 0, rfl, by simp, by simp, fun _ => ⟨rfl, rfl⟩, .inl rfl⟩
theorem ImpL.refl : ∀ {ts : List Tr}, ImpL ts ts
 |[] => .nil
 |t :: ts => .cons Imp.refl ImpL.refl
theorem ImpL.len {ts ts' : List Tr} (h : ImpL ts ts') : ts'.length = ts.length := by
 induction h with
 |nil => rfl
 |cons _ _ ih => simp [ih]
theorem ImpL.rd {w : World} {A : Nat → Prop} {ts ts' : List Tr} (h : ImpL ts ts') : ∀ {vs : List Value}, RdC w A ts vs → RdC w A ts' vs := by
 induction h with
 |nil => intro vs h; exact h
 |cons h k ih =>
  intro vs hv
  obtain ⟨v, rest, rfl, h1, h2, h3⟩ := hv
  exact ⟨v, rest, rfl, h _ _ _ h1, h2, ih h3⟩
theorem Imp.agg {ts ts' : List Tr} (h : ImpL ts ts') : Imp (.agg ts) (.agg ts') := by
 intro w A v hv
 unfold Tr.agg at hv ⊢
 obtain ⟨vs, e, hr⟩ := hv
 exact ⟨vs, e, h.rd hr⟩
theorem Imp.sl1 {k : Nat} {row row' : List Tr} (h : ImpL row row') : Imp (.sl k [row]) (.sl k [row']) := by
 intro w A v hv
 obtain ⟨_, _, h2⟩ := open_sl1 (ι := Unit) (k := k) (row := row) (p := fun _ => True) (f := fun _ => row') (fun _ => h.len) (fun w A vs hr => ⟨(), trivial, h.rd hr⟩) w A v hv
 exact h2
theorem Ent.imp {s : Nat} {t t' : Tr} (hl : Lg.look env s = some t) (h : Imp t t') : Ent Γ env cs ((s, t') :: env) cs := by
 unfold Ent
 intro a w d
 refine ⟨d.nodefer, d.tmps, ?_, d.chunks, d.nodup, d.fresh, d.below, d.frame⟩
 intro j u hj
 by_cases e : s = j
 ·subst e; rw [look_cons_same] at hj; cases hj; exact h _ _ _ (d.env s t hl)
 ·rw [look_cons_ne _ _ e] at hj; exact d.env j u hj
theorem Ent.imp_box {b : Nat} {e : TypeId} {ts ts' : List Tr} (hp : cs.Perm (Chunk.box b e ts :: cf)) (h : ImpL ts ts') : Ent Γ env cs env (Chunk.box b e ts' :: cf) := by
 unfold Ent
 intro a w d
 have d := d.perm hp
 refine d.swapc (by simp only [fps, List.flatMap_cons]; unfold Chunk.box; rfl) ?_
 intro c hc
 rcases List.mem_cons.1 hc with rfl | hc
 ·have := d.chunks (Chunk.box b e ts) (by simp)
  generalize av Γ.M (Chunk.box b e ts :: cf) = A at *
  unfold Chunk.box at this ⊢
  obtain ⟨c, h1, h2⟩ := this
  exact ⟨c, h1, h.rd h2⟩
 ·exact d.chunks c (List.mem_cons_of_mem _ hc)
end imp
end Lg
end
section
set_option linter.all false
namespace Lg
open Go
section x2
variable {P : Program} {Γ : Ctx} {env : Env} {cs cf : List Chunk} {H : (Nat → Value) → (Nat → Bool) → List Chunk} {L : List Oper} {K : Env → List Chunk → Prop} {n : Nat} {l : List Oper}
variable {Pf : Nat → (Nat → Value) → Prop} {d : Nat} {op : Op} {ty : TypeId} {pos : String} {af : Array Edge} {acc : (Nat → Value) → Env} {t t' : Tr}

def b2n : Bool → Nat
 |true => 1
 |false => 0
/-! ### one of some trees -/
def Tr.anyOf (ts : List Tr) : Tr := ⟨fun w A v => ∃ t ∈ ts, t.rd w A v, fun h ⟨t, ht, hr⟩ => ⟨t, ht, t.mono h hr⟩⟩
theorem open_strS {p : ByteArray → Prop} : ∀ w A v, (Tr.strS p).rd w A v → ∃ x, p x ∧ (Tr.str x).rd w A v := by
 rintro w A v ⟨n, rfl, h⟩
 exact ⟨n, h, raw_self _⟩
theorem OneT.anyOf {ts : List Tr} (h : ∀ t ∈ ts, OneT t) : OneT (Tr.anyOf ts) := ⟨fun w A v ⟨t, ht, hr⟩ => (h t ht).h w A v hr⟩
theorem Imp.intS {x : Int} {p : Int → Prop} (h : p x) : Imp (Tr.int x) (Tr.intS p) := fun w A v hr => ⟨x, rd_raw hr, h⟩
theorem Imp.strS {x : ByteArray} {p : ByteArray → Prop} (h : p x) : Imp (Tr.str x) (Tr.strS p) := fun w A v hr => ⟨x, rd_raw hr, h⟩
theorem Cw.open_slot {ι : Type} {c : Code} {Q : Post} {i : Nat} {p : ι → Prop} {f : ι → Tr} (hl : look env i = some t) (ho : ∀ w A v, t.rd w A v → ∃ x, p x ∧ (f x).rd w A v) (k : ∀ x, p x → Cw P Γ c ((i, f x) :: env) cs Q) : Cw P Γ c env cs Q := by
 unfold Cw
 intro a w d
 obtain ⟨x, hp, hx⟩ := ho w _ _ (d.env i t hl)
 have h := k x hp
 unfold Cw at h
 refine h a w ⟨d.nodefer, d.tmps, ?_, d.chunks, d.nodup, d.fresh, d.below, d.frame⟩
 intro j u hj
 by_cases e : i = j
 ·subst e; rw [look_cons_same] at hj; cases hj; exact hx
 ·rw [look_cons_ne _ _ e] at hj; exact d.env j u hj
theorem b2n_le (b : Bool) : b2n b ≤ 1 := by cases b <;> decide
theorem perm_strm {st bs a c : Nat} {rows : List (List Tr)} (h : a = c) : (Chunk.strm st bs rows a :: cf).Perm (Chunk.strm st bs rows c :: cf) := by rw [h]
end x2
attribute [irreducible] Tr.anyOf

end Lg
end
