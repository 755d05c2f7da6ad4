/- A part of the proof of a law of this seat: it adds no condition. By an AI agent. -/
import Derived.Lib.AppendZeros
import Derived.Test.YtfgcjpkkbhnkgaaGreatDoorLgMk
section
set_option linter.all false
namespace Lg
open Go

/-! ### regions whose order is open, in which operations turn the owned memory: H says what is owned once the operations of S are done, by what they yielded -/
section x
variable {P : Program} {Γ : Ctx} {env base : Env} {cs : List Chunk} {Q : Post} {H : (Nat → Value) → (Nat → Bool) → List Chunk} {L : List Oper}

def upd (ξ : Nat → Value) (i : Nat) (v : Value) : Nat → Value := fun j => match Nat.beq j i with | true => v | false => ξ j
def updD (S : Nat → Bool) (i : Nat) : Nat → Bool := fun j => match Nat.beq j i with | true => true | false => S j
theorem nbeq_ne {j i : Nat} (h : j ≠ i) : Nat.beq j i = false := by
 cases hb : Nat.beq j i
 ·rfl
 ·exact absurd (Nat.eq_of_beq_eq_true hb) h
theorem upd_same (ξ : Nat → Value) (i : Nat) (v : Value) : upd ξ i v i = v := by simp [upd]
theorem upd_ne (ξ : Nat → Value) {i j : Nat} (v : Value) (h : j ≠ i) : upd ξ i v j = ξ j := by
 unfold upd
 rw [nbeq_ne h]
theorem updD_same (S : Nat → Bool) (i : Nat) : updD S i i = true := by simp [updD]
theorem updD_ne (S : Nat → Bool) {i j : Nat} (h : j ≠ i) : updD S i j = S j := by
 unfold updD
 rw [nbeq_ne h]

/-- it speaks of the operation's own value, and of those that it waits for -/
def PvOk (n : Nat) (o : Oper) (Pv : (Nat → Value) → Prop) : Prop := ∀ ξ k v, k ≠ n → k ∉ preds o.after → Pv ξ → Pv (upd ξ k v)
theorem PvOk.own {n : Nat} {o : Oper} {p : Value → Prop} : PvOk n o (fun ξ => p (ξ n)) := fun ξ k v hk _ h => by
 show p (upd ξ k v n)
 rw [upd_ne _ _ (Ne.symm hk)]
 exact h
theorem PvOk.triv {n : Nat} {o : Oper} : PvOk n o (fun _ => True) := fun _ _ _ _ _ _ => trivial

structure XI (L : List Oper) (env : Env) (n : Nat) (acc : (Nat → Value) → Env) (Pf : Nat → (Nat → Value) → Prop) (T : Nat → Value → Tr) (Pv : Nat → (Nat → Value) → Prop) : Prop where
 look : ∀ ξ s t, Lg.look (acc ξ) s = some t → (∃ j oj, j < n ∧ L[j]? = some oj ∧ oj.dst = some s ∧ t = T j (ξ j)) ∨ (Lg.look env s = some t ∧ ∀ j oj, j < n → L[j]? = some oj → oj.dst ≠ some s)
 pf : ∀ (k : Nat) (ξ : Nat → Value), (k < n → Pv k ξ) → Pf k ξ
theorem XI.agree {n : Nat} {acc : (Nat → Value) → Env} {Pf : Nat → (Nat → Value) → Prop} {T T' : Nat → Value → Tr} {Pv Pv' : Nat → (Nat → Value) → Prop} (h : XI L env n acc Pf T Pv) (e : ∀ j, j < n → T' j = T j ∧ Pv' j = Pv j) : XI L env n acc Pf T' Pv' := by
 refine ⟨fun ξ s t hl => ?_, fun k v hk => h.pf k v fun hkn => ?_⟩
 ·rcases h.look ξ s t hl with ⟨j, oj, h1, h2, h3, h4⟩ | h
  ·exact .inl ⟨j, oj, h1, h2, h3, by rw [(e j h1).1]; exact h4⟩
  ·exact .inr h
 ·rw [← (e k hkn).2]
  exact hk hkn

theorem nodup_dst {l : List Oper} (hnd : (dsts l).Nodup) : ∀ {i j : Nat} {oi oj : Oper} {d : Nat}, l[i]? = some oi → l[j]? = some oj → oi.dst = some d → oj.dst = some d → i = j := by
 unfold dsts at hnd
 induction l with
 |nil => intro i j oi oj d h; simp at h
 |cons p l ih =>
  intro i j oi oj d hi hj hdi hdj
  have mem : ∀ {k : Nat} {ok : Oper}, l[k]? = some ok → ok.dst = some d → d ∈ l.filterMap (·.dst) := fun hk hd => List.mem_filterMap.2 ⟨_, List.mem_of_getElem? hk, hd⟩
  have hnd' : (l.filterMap (·.dst)).Nodup := by
   cases hp : p.dst with
   |none => rwa [List.filterMap_cons, hp] at hnd
   |some x => rw [List.filterMap_cons, hp] at hnd; exact (List.nodup_cons.1 hnd).2
  have hno : p.dst = some d → d ∉ l.filterMap (·.dst) := by
   intro hp
   rw [List.filterMap_cons, hp] at hnd
   exact (List.nodup_cons.1 hnd).1
  cases i with
  |zero =>
   simp at hi
   subst hi
   cases j with
   |zero => rfl
   |succ j => simp at hj; exact absurd (mem hj hdj) (hno hdi)
  |succ i =>
   simp at hi
   cases j with
   |zero => simp at hj; subst hj; exact absurd (mem hi hdi) (hno hdj)
   |succ j => simp at hj; rw [ih hnd' hi hj hdi hdj]

def noGuards (l : List Oper) : Bool := l.all fun o => match o.guard with | none => true | some _ => false

def blk : Value → Nat
 | .pointer (some a) => a.block
 |_ => 0
theorem closed_false {S : Nat → Bool} {i k : Nat} {ok : Oper} (h1 : S i = false) (h3 : ∀ k ok, L[k]? = some ok → S k = true → ∀ j ∈ preds ok.after, S j = true) (hk : L[k]? = some ok) (hi : (preds ok.after).contains i = true) : S k = false := by
 cases h : S k
 ·rfl
 ·have := h3 k ok hk h i (by simpa using hi)
  rw [h1] at this
  cases this
variable {Pf : Nat → (Nat → Value) → Prop} {i d : Nat} {op : Op} {ty : TypeId} {pos : String} {af : Array Edge} {acc : (Nat → Value) → Env} {t : Tr}
section seqs
variable {K : Env → List Chunk → Prop} {n : Nat} {l : List Oper}
end seqs
end x

section imp
variable {P : Program} {Γ : Ctx} {env env' : Env} {cs cs' cf : List Chunk} {Q : Post}
/-- says no more -/
def Imp (t t' : Tr) : Prop := ∀ w A v, t.rd w A v → t'.rd w A v
inductive ImpL : List Tr → List Tr → Prop
 |nil : ImpL [] []
 |cons {t t' : Tr} {ts ts' : List Tr} (h : Imp t t') (k : ImpL ts ts') : ImpL (t :: ts) (t' :: ts')
theorem Imp.refl {t : Tr} : Imp t t := fun _ _ _ h => h
theorem Imp.nil {k : Nat} : Imp (Tr.raw (.slice none 0 0)) (Tr.sl k []) := by
 intro w A v h
 have := rd_raw h
 subst this
 unfold Tr.sl
 exact ⟨by simp, by simp, none, 0, rfl, by simp, by simp, fun _ => ⟨rfl, rfl⟩, .inl rfl⟩
theorem ImpL.refl : ∀ {ts : List Tr}, ImpL ts ts
 |[] => .nil
 |t :: ts => .cons Imp.refl ImpL.refl
theorem ImpL.len {ts ts' : List Tr} (h : ImpL ts ts') : ts'.length = ts.length := by
 induction h with
 |nil => rfl
 |cons _ _ ih => simp [ih]
theorem ImpL.rd {w : World} {A : Nat → Prop} {ts ts' : List Tr} (h : ImpL ts ts') : ∀ {vs : List Value}, RdC w A ts vs → RdC w A ts' vs := by
 induction h with
 |nil => intro vs h; exact h
 |cons h k ih =>
  intro vs hv
  obtain ⟨v, rest, rfl, h1, h2, h3⟩ := hv
  exact ⟨v, rest, rfl, h _ _ _ h1, h2, ih h3⟩
theorem Imp.agg {ts ts' : List Tr} (h : ImpL ts ts') : Imp (.agg ts) (.agg ts') := by
 intro w A v hv
 unfold Tr.agg at hv ⊢
 obtain ⟨vs, e, hr⟩ := hv
 exact ⟨vs, e, h.rd hr⟩
theorem Imp.sl1 {k : Nat} {row row' : List Tr} (h : ImpL row row') : Imp (.sl k [row]) (.sl k [row']) := by
 intro w A v hv
 obtain ⟨_, _, h2⟩ := open_sl1 (ι := Unit) (k := k) (row := row) (p := fun _ => True) (f := fun _ => row') (fun _ => h.len) (fun w A vs hr => ⟨(), trivial, h.rd hr⟩) w A v hv
 exact h2
theorem Ent.imp {s : Nat} {t t' : Tr} (hl : Lg.look env s = some t) (h : Imp t t') : Ent Γ env cs ((s, t') :: env) cs := by
 unfold Ent
 intro a w d
 refine ⟨d.nodefer, d.tmps, ?_, d.chunks, d.nodup, d.fresh, d.below, d.frame⟩
 intro j u hj
 by_cases e : s = j
 ·subst e; rw [look_cons_same] at hj; cases hj; exact h _ _ _ (d.env s t hl)
 ·rw [look_cons_ne _ _ e] at hj; exact d.env j u hj
theorem Ent.imp_box {b : Nat} {e : TypeId} {ts ts' : List Tr} (hp : cs.Perm (Chunk.box b e ts :: cf)) (h : ImpL ts ts') : Ent Γ env cs env (Chunk.box b e ts' :: cf) := by
 unfold Ent
 intro a w d
 have d := d.perm hp
 refine d.swapc (by simp only [fps, List.flatMap_cons]; unfold Chunk.box; rfl) ?_
 intro c hc
 rcases List.mem_cons.1 hc with rfl | hc
 ·have := d.chunks (Chunk.box b e ts) (by simp)
  generalize av Γ.M (Chunk.box b e ts :: cf) = A at *
  unfold Chunk.box at this ⊢
  obtain ⟨c, h1, h2⟩ := this
  exact ⟨c, h1, h.rd h2⟩
 ·exact d.chunks c (List.mem_cons_of_mem _ hc)
end imp
end Lg
end
section
set_option linter.all false
namespace Lg
open Go
section x2
variable {P : Program} {Γ : Ctx} {env : Env} {cs cf : List Chunk} {H : (Nat → Value) → (Nat → Bool) → List Chunk} {L : List Oper} {K : Env → List Chunk → Prop} {n : Nat} {l : List Oper}
variable {Pf : Nat → (Nat → Value) → Prop} {d : Nat} {op : Op} {ty : TypeId} {pos : String} {af : Array Edge} {acc : (Nat → Value) → Env} {t t' : Tr}

def b2n : Bool → Nat
 |true => 1
 |false => 0
/-! ### one of some trees -/
def Tr.anyOf (ts : List Tr) : Tr := ⟨fun w A v => ∃ t ∈ ts, t.rd w A v, fun h ⟨t, ht, hr⟩ => ⟨t, ht, t.mono h hr⟩⟩
theorem OneT.anyOf {ts : List Tr} (h : ∀ t ∈ ts, OneT t) : OneT (Tr.anyOf ts) := ⟨fun w A v ⟨t, ht, hr⟩ => (h t ht).h w A v hr⟩
theorem Imp.intS {x : Int} {p : Int → Prop} (h : p x) : Imp (Tr.int x) (Tr.intS p) := fun w A v hr => ⟨x, rd_raw hr, h⟩
theorem Imp.strS {x : ByteArray} {p : ByteArray → Prop} (h : p x) : Imp (Tr.str x) (Tr.strS p) := fun w A v hr => ⟨x, rd_raw hr, h⟩
end x2
attribute [irreducible] Tr.anyOf

end Lg
end
section
set_option linter.all false
namespace Lg
open Go
section cat
variable {P : Program} {Γ : Ctx} {env : Env} {cs cf : List Chunk} {Q : Post} {R : Array Oper} {rest : List Oper} {i : Tmp} {ty T T2 : TypeId} {pos : String} {af : Array Edge} {x y : Operand}
theorem OpV.cap {E : TypeId} {a : Option Addr} {n c : Nat} (hT : P.underlying T = some (.slice E)) (hx : ev env x = some (.raw (.slice a n c))) : OpV P Γ (.call ⟨.builtin .cap, #[x], #[T]⟩) ty env cs (.int c) := by
 unfold OpV
 intro ac w d
 have hv := rd_raw (d.ev hx)
 refine ⟨.int .i64 c, ?_, raw_self _⟩
 simp [execOp, resolve, invoke, builtin, hv, Builtin.cap_, run_underlying hT, goInt]
theorem zero_made (z : Array Value) (n : Nat) : Builtin.zeroCells z n = madeCells z (n * z.size) := by
 unfold Builtin.zeroCells madeCells
 apply Array.ext
 ·simp
 ·intro j h1 h2
  simp
/-- append(nil, make(..)...) -/
theorem Ops.append_zeros {E kk bb : Nat} {zs : List Value} [hS : TySl P T E kk bb zs] {kn : IntKind} {n : Nat} (hT2 : P.underlying T2 = some (.int kn)) (hx : ev env x = some (.raw (.slice none 0 0))) (hy : ev env y = some (.int n)) (h0 : 0 < n) (hb : n * bb ≤ 281474976710656) (hm : n ≤ 100000000000) (hi : Nat.blt i Γ.n = true)
  (kont : ∀ ad cap, Ops P Γ R rest ((i, .raw (.slice ad n cap)) :: env) (Chunk.own ad cap kk E (List.replicate n (zs.map Tr.raw)) :: cs) Q) : Ops P Γ R (⟨some i, .call ⟨.builtin .append, #[x, y], #[T, T2]⟩, ty, pos, af, none⟩ :: rest) env cs Q :=
 Ops.of fun a w d => by
  have hv := rd_raw (d.ev hx)
  have hv2 := rd_raw (d.ev hy)
  obtain ⟨ti, zv, h1, h2, h3, h4, h5, h6⟩ := hS.hE
  have hr := Lib.run_append_nil_zeros (P := P) w T T2 ty E ti zv .i64 kn hS.hT hT2 h1 h2 n h0 (by omega) (by omega) (by rw [h5]; exact hb)
  have hzs : zv.cells.size = kk := hS.hz _ _ h1 h2
  have hge := grownCap_ge w n 0 E
  have hle := grownCap_le_maxLen w n 0 E (by unfold maxLen; omega)
  generalize hcap : grownCap w n 0 E = cap at hr hge hle
  generalize hZ : Builtin.zeroCells zv.cells n ++ Builtin.zeroCells zv.cells (cap - n) = Z at hr
  refine ⟨_, _, .value (.slice (some ⟨w.heap.size, 0, none⟩) n cap), _, by simp [execOp, resolve, invoke, builtin, hv, hv2, hr] <;> rfl, .inl ⟨_, rfl, Den.put ?_ hi (raw_self _)⟩, kont (some ⟨w.heap.size, 0, none⟩) cap⟩
  have hZs : Z.size = cap * kk := by
   rw [← hZ]
   simp only [Array.size_append, size_zeroCells, hzs]
   rw [← Nat.add_mul]
   congr 1
   omega
  have hZt : Z.toList.take (n * kk) = (madeCells zv.cells (n * zv.cells.size)).toList := by
   rw [← hZ, Array.toList_append, List.take_append_of_le_length (by rw [Array.length_toList, size_zeroCells, hzs]; exact Nat.le_refl _), List.take_of_length_le (by rw [Array.length_toList, size_zeroCells, hzs]; exact Nat.le_refl _), zero_made]
  have hrd : ∀ A w', RdC w' A (zeroRow zv.cells.toList n) (madeCells zv.cells (n * zv.cells.size)).toList := fun A w' => madeCells_rd (by rw [h3]; exact hS.one) n
  refine (d.drew.push (w' := w.drew.alloc (.cells Z E)) _ (by simp) (by unfold Chunk.own; simp [Value.ownBlock]) (by unfold Chunk.own; simp [Value.ownBlock]) (fun b hb => heap_alloc_old w.drew _ b hb) rfl rfl rfl ?_)
  intro hs
  generalize av Γ.M (_ :: cs) = A at *
  unfold Chunk.own
  refine ⟨fun r hr => by rw [List.eq_of_mem_replicate hr]; simp [hS.hk], (madeCells zv.cells (n * zv.cells.size)).toList, ?_, ?_⟩
  ·refine ⟨by rw [List.length_replicate, ← hZt, List.length_take, Array.length_toList, hZs]; exact Nat.min_eq_left (Nat.mul_le_mul_right kk hge), .inr ⟨w.heap.size, cap, Z, by rw [List.length_replicate], Nat.zero_le _, heap_alloc_new w.drew _, by rw [List.length_replicate]; exact hge, hle, hZs, by rw [List.length_replicate]; exact hZt⟩⟩
  ·have e := zeroRow_flat zs n
   rw [e, ← h3]
   exact hrd _ _

variable {H : (Nat → Value) → (Nat → Bool) → List Chunk} {L : List Oper} {K : Env → List Chunk → Prop} {n d : Nat} {l : List Oper} {Pf : Nat → (Nat → Value) → Prop} {acc : (Nat → Value) → Env}
end cat
end Lg
end
