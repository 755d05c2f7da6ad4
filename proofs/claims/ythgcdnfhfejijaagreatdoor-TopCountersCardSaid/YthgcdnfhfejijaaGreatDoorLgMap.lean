/- A part of the proof of a law of this seat: it adds no condition. By an AI agent. -/
import Derived.Maps.RangeRun
import Derived.Test.YthgcdnfhfejijaaGreatDoorLgIns
section
set_option linter.all false
namespace Lg
open Go
section appo
variable {P : Program} {Γ : Ctx} {env env' : Env} {cs cs' cf : List Chunk} {Q : Post} {R : Array Oper}
variable {i : Tmp} {ty : TypeId} {pos : String} {af : Array Edge} {rest : List Oper} {x y : Operand} {T T2 : TypeId}
/-- an owned slice is put behind another one, and stays -/
theorem Ops.append_ownR {E kk bb z} [hS : TySl P T E kk bb z] {ad ad2 : Option Addr} {n cap n2 cap2 : Nat} {rows rows2 : List (List Tr)} (hx : ev env x = some (.raw (.slice ad n cap))) (hy : ev env y = some (.raw (.slice ad2 n2 cap2)))
  (hp : cs.Perm (Chunk.own ad cap kk E rows :: Chunk.own ad2 cap2 kk E rows2 :: cf)) (hn : n = rows.length) (hn2 : n2 = rows2.length) (hb : (rows.length + rows2.length) * bb ≤ 140737488355328) (hm : rows.length + rows2.length ≤ 9223372036854775807) (hi : Nat.blt i Γ.n = true)
  (kont : ∀ ad' cap', Ops P Γ R rest ((i, .raw (.slice ad' (rows ++ rows2).length cap')) :: env) (Chunk.own ad' cap' kk E (rows ++ rows2) :: Chunk.own ad2 cap2 kk E rows2 :: cf) Q) :
  Ops P Γ R (⟨some i, .call ⟨.builtin .append, #[x, y], #[T, T]⟩, ty, pos, af, none⟩ :: rest) env cs Q :=
 Ops.of fun a w d => by
  subst hn
  subst hn2
  have hv := rd_raw (d.ev hx)
  have hv2 := rd_raw (d.ev hy)
  have d' := d.perm hp
  have hh := d'.has (List.Perm.refl _)
  have hh2 := d'.has (List.Perm.swap _ _ _)
  generalize hA : av Γ.M (Chunk.own ad cap kk E rows :: Chunk.own ad2 cap2 kk E rows2 :: cf) = A at hh hh2
  unfold Chunk.own at hh hh2
  obtain ⟨hk, xs, hown, hrd⟩ := hh
  obtain ⟨hk2, xs2, hown2, hrd2⟩ := hh2
  subst hA
  obtain ⟨ti, zv, hi1, hi2, hi3, hi4, hi5, hi6⟩ := hS.hE
  have hzs : zv.cells.size = kk := hS.hz _ _ hi1 hi2
  have hm' : rows.length + rows2.length ≤ maxLen := by simp only [maxLen]; omega
  have key : ∃ v' w', (Builtin.append_ #[T, T] ty #[.slice ad rows.length cap, .slice ad2 rows2.length cap2]).run P w = .ok v' w' ∧
    w'.ownsRow 0 E kk v' (rows.length + rows2.length) (xs ++ xs2) ∧ w.grownBy w' (Value.ownBlock (.slice ad rows.length cap)) ∧ (∀ b, v'.ownBlock = some b → (Value.ownBlock (.slice ad rows.length cap)) = some b ∨ w.heap.size ≤ b) := by
   rcases hown2.2 with ⟨e, h0⟩ | ⟨g, c, cur, e, _⟩
   ·simp only [Value.slice.injEq] at e
    obtain ⟨rfl, e2, rfl⟩ := e
    have hxs : xs2 = [] := by
     have := hrd2.length
     rw [flat_len hk2, h0] at this
     exact List.eq_nil_of_length_eq_zero (by omega)
    subst hxs
    rw [h0]
    exact ⟨_, w, run_append_owned_none (P := P) w 0 T ty E ti kk hS.hT hi1 _ _ xs hown, by simpa using hown, ⟨rfl, rfl, rfl, Nat.le_refl _, fun _ _ _ => rfl⟩, fun b hb => .inl hb⟩
   ·simp only [Value.slice.injEq] at e
    obtain ⟨rfl, _, rfl⟩ := e
    exact append_run (P := P) (ty := ty) (a := ⟨g, 0, none⟩) (m := rows2.length) (c := cap2) (news := xs2) hS.hT hi1 hi2 hi4 hi5 hzs hi6 hown (by rw [hrd2.length]; exact flat_len hk2) (hown2.cells (g := g) rfl) hrd2.one hm' hb
  obtain ⟨v', w', hrun, hown', hgr, hfresh⟩ := key
  have hform : ∃ ad' cap', v' = .slice ad' (rows ++ rows2).length cap' := by
   rcases hown'.2 with ⟨e, h0⟩ | ⟨g, c, cur, e, _⟩
   ·exact ⟨none, 0, by rw [e, List.length_append, h0]⟩
   ·exact ⟨_, c, by rw [e, List.length_append]⟩
  obtain ⟨ad', cap', rfl⟩ := hform
  refine ⟨_, _, .value _, w', by simp [execOp, resolve, invoke, builtin, hv, hv2, hrun] <;> rfl, .inl ⟨_, rfl, Den.put ?_ hi (raw_self _)⟩, kont ad' cap'⟩
  refine d'.turnF (c' := Chunk.own ad' cap' kk E (rows ++ rows2)) ?_ ?_ ?_ ?_
  ·intro b hb
   have hb' : Value.ownBlock (.slice ad' (rows ++ rows2).length cap') = some b := by unfold Chunk.own at hb; simpa using hb
   rcases hfresh b hb' with h | h
   ·exact .inl (by unfold Chunk.own; simpa using h)
   ·exact .inr ⟨h, (hown'.lt b hb').2⟩
  ·have : (Chunk.own ad' cap' kk E (rows ++ rows2)).fp = (Value.ownBlock (.slice ad' (rows ++ rows2).length cap')).toList := by unfold Chunk.own; rfl
   rw [this]
   cases Value.ownBlock (.slice ad' (rows ++ rows2).length cap') <;> simp
  ·exact ⟨hgr.os, hgr.tape, hgr.output, hgr.size, fun b hb hn => hgr.block b hb fun e => hn (by unfold Chunk.own; simp [← e]), fun _ => run_drawn hrun⟩
  ·intro hs _
   generalize av Γ.M (Chunk.own ad' cap' kk E (rows ++ rows2) :: Chunk.own ad2 cap2 kk E rows2 :: cf) = A' at hs ⊢
   unfold Chunk.own
   refine ⟨?_, _, by simpa using hown', ?_⟩
   ·intro r hr
    rcases List.mem_append.1 hr with h | h
    ·exact hk r h
    ·exact hk2 r h
   ·rw [List.flatten_append]
    exact (hrd.mono hs).app (hrd2.mono hs)
end appo
end Lg
end
section
set_option linter.all false
namespace Lg
open Go

/-! ### trees that speak of no memory -/
section free
variable {P : Program} {Γ : Ctx} {env env' : Env} {cs cs' cf : List Chunk} {Q : Post} {R : Array Oper}
variable {i : Tmp} {ty : TypeId} {pos : String} {af : Array Edge} {rest : List Oper}
variable {x y z : Operand} {T : TypeId} {k : IntKind} {p q : Int}
def FreeT (t : Tr) : Prop := ∀ (w : World) (A : Nat → Prop) (w' : World) (A' : Nat → Prop) (v : Value), t.rd w A v → t.rd w' A' v
inductive FreeL : List Tr → Prop
 |nil : FreeL []
 |cons {t : Tr} {ts : List Tr} (h : FreeT t) (k : FreeL ts) : FreeL (t :: ts)
theorem FreeT.any : FreeT Tr.any := by
 intro w A w' A' v _
 unfold Tr.any
 trivial
theorem FreeT.raw {v0 : Value} : FreeT (Tr.raw v0) := raw_free
theorem FreeL.rdc {w w' : World} {A A' : Nat → Prop} {ts : List Tr} (h : FreeL ts) : ∀ {vs : List Value}, RdC w A ts vs → RdC w' A' ts vs := by
 induction h with
 |nil => exact fun h => h
 |cons h _ ih =>
  rintro vs ⟨v, vs', rfl, h1, h2, h3⟩
  exact ⟨v, vs', rfl, h _ _ _ _ _ h1, h2, ih h3⟩
theorem FreeL.rdl {w w' : World} {A A' : Nat → Prop} {ts : List Tr} (h : FreeL ts) : ∀ {vs : List Value}, RdL w A ts vs → RdL w' A' ts vs := by
 induction h with
 |nil => exact fun h => h
 |cons h _ ih =>
  rintro vs ⟨v, vs', rfl, h1, h3⟩
  exact ⟨v, vs', rfl, h _ _ _ _ _ h1, ih h3⟩
theorem FreeT.agg {ts : List Tr} (h : FreeL ts) : FreeT (.agg ts) := by
 intro w A w' A' v hr
 unfold Tr.agg at hr ⊢
 obtain ⟨vs, e, hr⟩ := hr
 exact ⟨vs, e, h.rdc hr⟩
theorem FreeT.tup {ts : List Tr} (h : FreeL ts) : FreeT (.tup ts) := by
 intro w A w' A' v hr
 unfold Tr.tup at hr ⊢
 obtain ⟨vs, e, hr⟩ := hr
 exact ⟨vs, e, h.rdl hr⟩
theorem Imp.any {t : Tr} : Imp t Tr.any := by
 intro w A v _
 unfold Tr.any
 trivial
theorem ImpL.rdl {w : World} {A : Nat → Prop} {ts ts' : List Tr} (h : ImpL ts ts') : ∀ {vs : List Value}, RdL w A ts vs → RdL w A ts' vs := by
 induction h with
 |nil => exact fun h => h
 |cons h _ ih =>
  rintro vs ⟨v, vs', rfl, h1, h3⟩
  exact ⟨v, vs', rfl, h _ _ _ h1, ih h3⟩
theorem Imp.tup {ts ts' : List Tr} (h : ImpL ts ts') : Imp (.tup ts) (.tup ts') := by
 intro w A v hr
 unfold Tr.tup at hr ⊢
 obtain ⟨vs, e, hr⟩ := hr
 exact ⟨vs, e, h.rdl hr⟩
theorem PFn.imp {f : FuncId} {args : List Tr} {t t' : Tr} (h : PFn P f args (· = t)) (hi : Imp t t') : PFn P f args (· = t') := by
 unfold PFn Spec at h ⊢
 obtain ⟨h1, h2⟩ := h
 refine ⟨h1, fun M w vs hr hch hnd hlt hM => (h2 M w vs hr hch hnd hlt hM).mono ?_⟩
 rintro e w' ⟨v, r, cs', rfl, ⟨rfl, rfl⟩, hrd, h3⟩
 exact ⟨v, t', [], rfl, ⟨rfl, rfl⟩, hi _ _ _ hrd, h3⟩

/-- the tail of an owned slice is forgotten -/
theorem Ent.own_take {ad : Option Addr} {cap kk : Nat} {e : TypeId} {rows : List (List Tr)} (n : Nat) (hp : cs.Perm (Chunk.own ad cap kk e rows :: cf)) (hn : n ≤ rows.length) : Ent Γ env cs env (Chunk.own ad cap kk e (rows.take n) :: cf) := by
 unfold Ent
 intro a w d
 have d := d.perm hp
 have hf : ∀ rows : List (List Tr), (Chunk.own ad cap kk e rows).fp = ad.toList.map (·.block) := by
  intro rows
  unfold Chunk.own
  cases ad <;> simp [Value.ownBlock]
 have hfp : fps (Chunk.own ad cap kk e (rows.take n) :: cf) = fps (Chunk.own ad cap kk e rows :: cf) := by
  simp only [fps, List.flatMap_cons, hf]
 refine d.swapc hfp ?_
 intro c hc
 rcases List.mem_cons.1 hc with rfl | hc
 ·exact own_head n hn (d.chunks (Chunk.own ad cap kk e rows) (by simp))
 ·exact d.chunks c (List.mem_cons_of_mem _ hc)
theorem Ent.own_head {ad : Option Addr} {cap kk : Nat} {e : TypeId} {rows rows' : List (List Tr)} (n : Nat) (he : rows.take n = rows') (hp : cs.Perm (Chunk.own ad cap kk e rows :: cf)) (hn : n ≤ rows.length) : Ent Γ env cs env (Chunk.own ad cap kk e rows' :: cf) := by
 subst he
 exact Ent.own_take n hp hn
end free
end Lg
end
section
set_option linter.all false
namespace Lg
open Go Go.ChangeMaps

/-! ### maps: an owned block of entries, in the order in which they came -/
section maps
variable {P : Program} {Γ : Ctx} {env env' : Env} {cs cs' cf : List Chunk} {Q : Post} {R : Array Oper}
variable {i : Tmp} {ty : TypeId} {pos : String} {af : Array Edge} {rest : List Oper}
variable {x y z : Operand} {T : TypeId}
variable {α : Type} [DecidableEq α] {enc : α → Value}

/-- a type of keys: equality is seen at once, hashing never fails -/
class KeyTy (P : Program) (K : TypeId) (enc : α → Value) : Prop where
 desc : ∃ d, P.underlying K = some d ∧ ∀ a b, Instr.sameNow d (enc a) (enc b) = some (decide (a = b))
 chk : ∀ e a w, (Instr.checkKey e 10000 K (enc a)).run P w = .ok () w
 bits : ∀ a, Instr.sameBits 10000 (enc a) (enc a) = true
/-- a map type: its keys, and the zero value of its elements -/
class TyMap (P : Program) (T : TypeId) (K E : outParam TypeId) (z : outParam Value) : Prop where
 hT : P.underlying T = some (.map K E)
 hz : ∃ i, P.info? E = some i ∧ i.zero = some z

inductive EsR (w : World) (A : Nat → Prop) (enc : α → Value) : List (α × Tr) → List MapEntry → Prop
 |nil : EsR w A enc [] []
 |cons {a : α} {t : Tr} {ps : List (α × Tr)} {e : MapEntry} {es : List MapEntry} (hk : e.key = enc a) (hv : t.rd w A e.val) (r : EsR w A enc ps es) : EsR w A enc ((a, t) :: ps) (e :: es)
theorem EsR.mono {w w' : World} {A A' : Nat → Prop} {kv : List (α × Tr)} {es : List MapEntry} (h : EsR w A enc kv es) (hs : SameOn w w' A A') : EsR w' A' enc kv es := by
 induction h with
 |nil => exact .nil
 |cons hk hv _ ih => exact .cons hk (Tr.mono _ hs hv) ih
def mget (a : α) : List (α × Tr) → Option Tr
 |[] => none
 |p :: r => if a = p.1 then some p.2 else mget a r
def mset (a : α) (t : Tr) : List (α × Tr) → List (α × Tr)
 |[] => [(a, t)]
 |p :: r => if a = p.1 then (a, t) :: r else p :: mset a t r
theorem EsR.find {w : World} {A : Nat → Prop} {d : TypeDesc} (hd : ∀ a b, Instr.sameNow d (enc a) (enc b) = some (decide (a = b))) {kv : List (α × Tr)} {es : List MapEntry} (h : EsR w A enc kv es) (a : α) : ∀ i : Nat,
  (mget a kv = none ∧ Instr.findNow d (enc a) es i = some none ∧ ∀ t x born, ∀ c : Value, t.rd w A x → EsR w A enc (mset a t kv) (es ++ [{ key := enc a, val := x, born := born }])) ∨
  ∃ (t0 : Tr) (v : Value) (j : Nat) (e : MapEntry), mget a kv = some t0 ∧ Instr.findNow d (enc a) es i = some (some (i + j, v)) ∧ t0.rd w A v ∧ es[j]? = some e ∧ e.key = enc a ∧ ∀ t x, t.rd w A x → EsR w A enc (mset a t kv) (es.modify j fun e => { e with key := enc a, val := x }) := by
 induction h with
 |nil => intro i; exact .inl ⟨rfl, rfl, fun t x born c hx => .cons rfl hx .nil⟩
 | @cons b t ps e es hk hv hr ih =>
  intro i
  unfold Instr.findNow
  rw [hk, hd]
  by_cases hab : a = b
  ·subst hab
   refine .inr ⟨t, e.val, 0, e, ?_, ?_, hv, rfl, hk, fun t2 x hx => ?_⟩
   ·simp [mget]
   ·simp
   ·simp only [mset, if_true]
    exact .cons rfl hx hr
  ·rw [decide_eq_false hab]
   simp only
   rcases ih (i + 1) with ⟨h1, h2, h3⟩ | ⟨t0, v, j, e0, h1, h2, h3, h4, h5, h6⟩
   ·refine .inl ⟨by simp [mget, hab, h1], h2, fun t2 x born c hx => ?_⟩
    simp only [mset, if_neg hab]
    exact .cons hk hv (h3 t2 x born c hx)
   ·refine .inr ⟨t0, v, j + 1, e0, by simp [mget, hab, h1], by rw [h2]; congr 3; omega, h3, by simpa using h4, h5, fun t2 x hx => ?_⟩
    simp only [mset, if_neg hab]
    exact .cons hk hv (h6 t2 x hx)

/-- an owned map -/
def borns (es : List MapEntry) : List Nat := es.map fun e => e.born
def Chunk.mp (enc : α → Value) (b : Nat) (kv : List (α × Tr)) : Chunk :=
 ⟨[b], fun w A => ∃ es clock, w.heap[b]? = some (.map es clock) ∧ EsR w A enc kv es.toList ∧ (borns es.toList).Pairwise (· < ·) ∧ (∀ e ∈ es.toList, e.born < clock),
  fun hb h ⟨es, clock, e, hr, h1, h2⟩ => ⟨es, clock, (hb b (by simp) (Array.getElem?_eq_some_iff.1 e).1).trans e, hr.mono h, h1, h2⟩⟩

theorem run_getMap {w : World} {b : Nat} {es : Array MapEntry} {c : Nat} (h : w.heap[b]? = some (.map es c)) : (getObj b).run P w = .ok (.map es c) w := by
 simp [getObj, Sem.run, h]
theorem run_findKey {K : TypeId} [hK : KeyTy P K enc] {w : World} {A : Nat → Prop} {kv : List (α × Tr)} {es : List MapEntry} (h : EsR w A enc kv es) (a : α) :
  (mget a kv = none ∧ (Instr.findKey K (enc a) es).run P w = .ok none w ∧ ∀ t x born, ∀ c : Value, t.rd w A x → EsR w A enc (mset a t kv) (es ++ [{ key := enc a, val := x, born := born }])) ∨
  ∃ (t0 : Tr) (v : Value) (j : Nat) (e : MapEntry), mget a kv = some t0 ∧ (Instr.findKey K (enc a) es).run P w = .ok (some (j, v)) w ∧ t0.rd w A v ∧ es[j]? = some e ∧ e.key = enc a ∧ ∀ t x, t.rd w A x → EsR w A enc (mset a t kv) (es.modify j fun e => { e with key := enc a, val := x }) := by
 obtain ⟨d, hd, hs⟩ := hK.desc
 rcases h.find hs a 0 with ⟨h1, h2, h3⟩ | ⟨t0, v, j, e, h1, h2, h3⟩
 ·exact .inl ⟨h1, by simp [Instr.findKey, run_underlying hd, h2], h3⟩
 ·rw [Nat.zero_add] at h2
  exact .inr ⟨t0, v, j, e, h1, by simp [Instr.findKey, run_underlying hd, h2], h3⟩
/-- what m[k] reads as -/
def mread (a : α) (z : Value) (kv : List (α × Tr)) : Tr := (mget a kv).getD (Tr.raw z)
theorem run_zero {E : TypeId} {z : Value} (h : ∃ i, P.info? E = some i ∧ i.zero = some z) (w : World) : (zeroValue E).run P w = .ok z w := by
 obtain ⟨i, h1, h2⟩ := h
 simp [zeroValue, typeInfo, h1, h2]
theorem OpV.lookup {K E : TypeId} {zv : Value} [hT : TyMap P T K E zv] [hK : KeyTy P K enc] {b : Nat} {a : α} {kv : List (α × Tr)} (hx : ev env x = some (.raw (.map (some b)))) (hy : ev env y = some (.raw (enc a)))
  (hp : cs.Perm (Chunk.mp enc b kv :: cf)) : OpV P Γ (.lookup T x y false) ty env cs (mread a zv kv) := by
 unfold OpV
 intro ac w d
 have hv := rd_raw (d.ev hx)
 have hk := rd_raw (d.ev hy)
 obtain ⟨es, clock, hb, hr, _⟩ := d.has hp
 have hchk := hK.chk es.isEmpty a w
 rcases run_findKey (P := P) (K := K) hr a with ⟨h1, h2, _⟩ | ⟨t0, v, j, e, h1, h2, h3, _⟩
 ·refine ⟨zv, ?_, ?_⟩
  ·simp [execOp, hv, hk, Instr.lookup, run_underlying hT.hT, run_getMap hb, hchk, h2, run_zero hT.hz w]
  ·unfold mread
   rw [h1]
   exact raw_self _
 ·refine ⟨v, ?_, ?_⟩
  ·simp [execOp, hv, hk, Instr.lookup, run_underlying hT.hT, run_getMap hb, hchk, h2]
  ·unfold mread
   rw [h1]
   exact h3
theorem Ops.lookup {K E : TypeId} {zv : Value} [hT : TyMap P T K E zv] [hK : KeyTy P K enc] {b : Nat} {a : α} {kv : List (α × Tr)} (hx : ev env x = some (.raw (.map (some b)))) (hy : ev env y = some (.raw (enc a)))
  (hp : cs.Perm (Chunk.mp enc b kv :: cf)) (hi : Nat.blt i Γ.n = true) (kont : Ops P Γ R rest ((i, mread a zv kv) :: env) cs Q) : Ops P Γ R (⟨some i, .lookup T x y false, ty, pos, af, none⟩ :: rest) env cs Q :=
 Ops.val' hi (OpV.lookup hx hy hp) kont
/-- make(map[K]V) -/
theorem Ops.makeMap {K E : TypeId} {zv : Value} [hT : TyMap P T K E zv] (enc : α → Value) (hi : Nat.blt i Γ.n = true)
  (kont : ∀ b, Ops P Γ R rest ((i, .raw (.map (some b))) :: env) (Chunk.mp enc b [] :: cs) Q) : Ops P Γ R (⟨some i, .makeMap T none, ty, pos, af, none⟩ :: rest) env cs Q :=
 Ops.of fun a w d => by
  have hd : Den Γ env (Chunk.mp enc w.heap.size [] :: cs) a (w.alloc (.map #[] 0)) := by
   refine d.push _ (by simp) (by simp [Chunk.mp]) (by simp [Chunk.mp]) (fun b hb => (MapKept.heap_alloc w _).2 b hb) rfl rfl rfl ?_
   intro hs
   exact ⟨#[], 0, (MapKept.heap_alloc w _).1, .nil, .nil, by simp⟩
  exact ⟨_, _, _, w.alloc (.map #[] 0), by simp [execOp, Instr.makeMap, newObj] <;> rfl, .inl ⟨_, rfl, hd.put hi (raw_self _)⟩, kont _⟩
theorem borns_modify {l : List MapEntry} (k v : Value) : ∀ (j : Nat), borns (l.modify j fun e => { e with key := k, val := v }) = borns l := by
 induction l with
 |nil => intro j; cases j <;> rfl
 |cons e l ih =>
  intro j
  cases j with
  |zero => rfl
  |succ j =>
   simp only [borns, List.modify_succ_cons, List.map_cons]
   exact congrArg _ (ih j)
theorem mem_borns {l : List MapEntry} {c : Nat} : (∀ e ∈ l, e.born < c) ↔ ∀ n ∈ borns l, n < c := by
 simp [borns]
theorem run_stays {a : α} {K : TypeId} [hK : KeyTy P K enc] (w : World) : (Instr.keyThatStays (enc a) (enc a)).run P w = .ok (enc a) w := by
 simp [Instr.keyThatStays, hK.bits]
/-- m[k] = v -/
theorem Ops.mapUpdate {K E : TypeId} {zv : Value} [hT : TyMap P T K E zv] [hK : KeyTy P K enc] {b : Nat} {a : α} {t : Tr} {kv : List (α × Tr)} (hx : ev env x = some (.raw (.map (some b)))) (hy : ev env y = some (.raw (enc a))) (hz : ev env z = some t)
  (hp : cs.Perm (Chunk.mp enc b kv :: cf)) (kont : Ops P Γ R rest env (Chunk.mp enc b (mset a t kv) :: cf) Q) : Ops P Γ R (⟨none, .mapUpdate T x y z, ty, pos, af, none⟩ :: rest) env cs Q :=
 Ops.of fun ac w d => by
  have hv := rd_raw (d.ev hx)
  have hk := rd_raw (d.ev hy)
  have ht := d.ev hz
  have d := d.perm hp
  rw [av_perm hp] at ht
  obtain ⟨es, clock, hb, hr, h1, h2⟩ := d.has (List.Perm.refl _)
  have hchk := hK.chk false a w
  have hset : ∀ o : Obj, (setObj b o).run P w = .ok () (setBlock w b o) := fun o => MapKept.run_setObj_map o hb
  have hlt : b < w.heap.size := (Array.getElem?_eq_some_iff.1 hb).1
  have hturn : ∀ (es' : Array MapEntry) (c' : Nat), EsR w (av Γ.M (Chunk.mp enc b kv :: cf)) enc (mset a t kv) es'.toList → (borns es'.toList).Pairwise (· < ·) → (∀ e ∈ es'.toList, e.born < c') → Den Γ env (Chunk.mp enc b (mset a t kv) :: cf) ac (setBlock w b (.map es' c')) := by
   intro es' c' hr' hb1 hb2
   refine d.turn rfl (fun q hq hn => ?_) (by simp [setBlock]) rfl rfl rfl ?_
   ·exact ChangeMaps.heap_setBlock_other hb _ (by simpa [Chunk.mp] using hn)
   ·intro hs _
    exact ⟨es', c', ChangeMaps.heap_setBlock_same hb _, hr'.mono hs, hb1, hb2⟩
  rcases run_findKey (P := P) (K := K) hr a with ⟨g1, g2, g3⟩ | ⟨t0, v, j, e, g1, g2, g3, g4, g5, g6⟩
  ·refine ⟨env, _, .skip, _, by simp [execOp, hv, hk, Instr.mapUpdate, run_underlying hT.hT, run_getMap hb, hchk, g2, hset] <;> rfl, .inr ⟨rfl, ?_⟩, kont⟩
   refine (hturn _ _ ?_ ?_ ?_).put_none _
   ·rw [Array.toList_push]
    exact g3 t _ clock (enc a) ht
   ·rw [Array.toList_push]
    simp only [borns, List.map_append, List.map_cons, List.map_nil]
    rw [List.pairwise_append]
    exact ⟨h1, by simp, fun p hp q hq => by
     rw [List.mem_singleton.1 hq]
     exact mem_borns.1 h2 p hp⟩
   ·intro e he
    rw [Array.toList_push] at he
    rcases List.mem_append.1 he with h | h
    ·have := h2 e h; omega
    ·rw [List.mem_singleton.1 h]; simp
  ·have hej : es[j]? = some e := by rw [← Array.getElem?_toList]; exact g4
   refine ⟨env, _, .skip, _, by simp [execOp, hv, hk, Instr.mapUpdate, run_underlying hT.hT, run_getMap hb, hchk, g2, hej, g5, run_stays (P := P) (K := K), hset] <;> rfl, .inr ⟨rfl, ?_⟩, kont⟩
   refine (hturn _ _ ?_ ?_ ?_).put_none _
   ·rw [Array.toList_modify]
    exact g6 t _ ht
   ·rw [Array.toList_modify]
    rw [borns_modify]
    exact h1
   ·rw [Array.toList_modify, mem_borns, borns_modify]
    exact mem_borns.1 h2
/-- v, ok := m[k] -/
theorem OpV.lookupOk {K E : TypeId} {zv : Value} [hT : TyMap P T K E zv] [hK : KeyTy P K enc] {b : Nat} {a : α} {kv : List (α × Tr)} (hx : ev env x = some (.raw (.map (some b)))) (hy : ev env y = some (.raw (enc a)))
  (hp : cs.Perm (Chunk.mp enc b kv :: cf)) : OpV P Γ (.lookup T x y true) ty env cs (.tup [mread a zv kv, .bool (mget a kv).isSome]) := by
 unfold OpV
 intro ac w d
 have hv := rd_raw (d.ev hx)
 have hk := rd_raw (d.ev hy)
 obtain ⟨es, clock, hb, hr, _⟩ := d.has hp
 have hchk := hK.chk es.isEmpty a w
 unfold Tr.tup
 rcases run_findKey (P := P) (K := K) hr a with ⟨h1, h2, _⟩ | ⟨t0, v, j, e, h1, h2, h3, _⟩
 ·refine ⟨.tuple #[zv, .bool false], ?_, [zv, .bool false], rfl, ⟨zv, [.bool false], rfl, ?_, ⟨.bool false, [], rfl, ?_, rfl⟩⟩⟩
  ·simp [execOp, hv, hk, Instr.lookup, run_underlying hT.hT, run_getMap hb, hchk, h2, run_zero hT.hz w]
  ·unfold mread
   rw [h1]
   exact raw_self _
  ·rw [h1]
   exact raw_self _
 ·refine ⟨.tuple #[v, .bool true], ?_, [v, .bool true], rfl, ⟨v, [.bool true], rfl, ?_, ⟨.bool true, [], rfl, ?_, rfl⟩⟩⟩
  ·simp [execOp, hv, hk, Instr.lookup, run_underlying hT.hT, run_getMap hb, hchk, h2]
  ·unfold mread
   rw [h1]
   exact h3
  ·rw [h1]
   exact raw_self _
theorem Ops.lookupOk {K E : TypeId} {zv : Value} [hT : TyMap P T K E zv] [hK : KeyTy P K enc] {b : Nat} {a : α} {kv : List (α × Tr)} (hx : ev env x = some (.raw (.map (some b)))) (hy : ev env y = some (.raw (enc a)))
  (hp : cs.Perm (Chunk.mp enc b kv :: cf)) (hi : Nat.blt i Γ.n = true) (kont : Ops P Γ R rest ((i, .tup [mread a zv kv, .bool (mget a kv).isSome]) :: env) cs Q) : Ops P Γ R (⟨some i, .lookup T x y true, ty, pos, af, none⟩ :: rest) env cs Q :=
 Ops.val' hi (OpV.lookupOk hx hy hp) kont

/-! ### ranging over a map: what is left comes in any order -/
theorem EsR.at {w : World} {A : Nat → Prop} {kv : List (α × Tr)} {es : List MapEntry} (h : EsR w A enc kv es) : ∀ {j : Nat} {e : MapEntry}, es[j]? = some e → ∃ a t, kv[j]? = some (a, t) ∧ e.key = enc a ∧ t.rd w A e.val := by
 induction h with
 |nil => intro j e h; simp at h
 | @cons a t ps e0 es hk hv _ ih =>
  intro j e h
  cases j with
  |zero =>
   simp at h
   subst h
   exact ⟨a, t, rfl, hk, hv⟩
  |succ j =>
   obtain ⟨a, t, h1, h2⟩ := ih (j := j) (e := e) (by simpa using h)
   exact ⟨a, t, by simpa using h1, h2⟩
theorem EsR.len {w : World} {A : Nat → Prop} {kv : List (α × Tr)} {es : List MapEntry} (h : EsR w A enc kv es) : kv.length = es.length := by
 induction h with
 |nil => rfl
 |cons _ _ _ ih => simp [ih]
theorem EsR.erase {w : World} {A : Nat → Prop} {kv : List (α × Tr)} {es : List MapEntry} (h : EsR w A enc kv es) : ∀ j : Nat, EsR w A enc (kv.eraseIdx j) (es.eraseIdx j) := by
 induction h with
 |nil => intro j; exact .nil
 |cons hk hv hr ih =>
  intro j
  cases j with
  |zero => exact hr
  |succ j => exact .cons hk hv (ih j)
/-- what an iterator has not seen -/
def unseen (seen : Array Nat) (es : List MapEntry) : List MapEntry := es.filter fun e => !seen.contains e.born
def Chunk.rg (enc : α → Value) (b r : Nat) (kv left : List (α × Tr)) : Chunk :=
 ⟨[b, r], fun w A => ∃ es clock seen, w.heap[b]? = some (.map es clock) ∧ EsR w A enc kv es.toList ∧ (borns es.toList).Pairwise (· < ·) ∧ (∀ e ∈ es.toList, e.born < clock) ∧
   w.heap[r]? = some (.mapIter (some b) clock seen clock) ∧ EsR w A enc left (unseen seen es.toList),
  fun hb h ⟨es, clock, seen, e, hr, h1, h2, h3, h4⟩ => ⟨es, clock, seen, (hb b (by simp) (Array.getElem?_eq_some_iff.1 e).1).trans e, hr.mono h, h1, h2, (hb r (by simp) (Array.getElem?_eq_some_iff.1 h3).1).trans h3, h4.mono h⟩⟩
theorem Ops.range {K E : TypeId} {zv : Value} [hT : TyMap P T K E zv] {b : Nat} {kv : List (α × Tr)} (hx : ev env x = some (.raw (.map (some b)))) (hp : cs.Perm (Chunk.mp enc b kv :: cf)) (hi : Nat.blt i Γ.n = true)
  (kont : ∀ r, Ops P Γ R rest ((i, .raw (.pointer (some ⟨r, 0, none⟩))) :: env) (Chunk.rg enc b r kv kv :: cf) Q) : Ops P Γ R (⟨some i, .range T x, ty, pos, af, none⟩ :: rest) env cs Q :=
 Ops.of fun a w d => by
  have hv := rd_raw (d.ev hx)
  have d := d.perm hp
  obtain ⟨es, clock, hb, hr, h1, h2⟩ := d.has (List.Perm.refl _)
  have hlt : b < w.heap.size := (Array.getElem?_eq_some_iff.1 hb).1
  have hsz : (w.alloc (.mapIter (some b) clock #[] clock)).heap.size = w.heap.size + 1 := by simp
  have hd : Den Γ env (Chunk.rg enc b w.heap.size kv kv :: cf) a (w.alloc (.mapIter (some b) clock #[] clock)) := by
   refine d.turnF (fun q hq => ?_) (by simp [Chunk.rg]; omega) ⟨rfl, rfl, rfl, by omega, fun q hq _ => (MapKept.heap_alloc w _).2 q hq, fun _ => Nat.le_refl _⟩ ?_
   ·simp only [Chunk.rg, List.mem_cons, List.not_mem_nil, or_false] at hq
    rcases hq with rfl | rfl
    ·exact .inl (by simp [Chunk.mp])
    ·exact .inr ⟨Nat.le_refl _, by omega⟩
   ·intro hs _
    refine ⟨es, clock, #[], ((MapKept.heap_alloc w _).2 b hlt).trans hb, hr.mono hs, h1, h2, (MapKept.heap_alloc w _).1, ?_⟩
    have : unseen #[] es.toList = es.toList := by simp [unseen]
    rw [this]
    exact hr.mono hs
  exact ⟨_, _, _, _, by simp [execOp, hv, Instr.range, run_underlying hT.hT, run_getMap hb, newObj] <;> rfl, .inl ⟨_, rfl, hd.put hi (raw_self _)⟩, kont _⟩
theorem unseen_push {seen : Array Nat} {es : List MapEntry} (hb : (borns es).Pairwise (· < ·)) {e : MapEntry} {j : Nat} (hj : (unseen seen es)[j]? = some e) : unseen (seen.push e.born) es = (unseen seen es).eraseIdx j := by
 have hsub : (borns (unseen seen es)).Pairwise (· < ·) := by
  unfold unseen borns
  exact hb.sublist ((List.filter_sublist).map _)
 have h1 : unseen (seen.push e.born) es = (unseen seen es).filter fun x => !(x.born == e.born) := by
  unfold unseen
  rw [List.filter_filter]
  congr 1
  funext x
  simp only [Array.contains_push, Bool.not_or]
  rw [Bool.and_comm]
 rw [h1]
 generalize unseen seen es = U at *
 clear h1
 induction U generalizing j with
 |nil => simp at hj
 |cons x U ih =>
  rw [show borns (x :: U) = x.born :: borns U from rfl, List.pairwise_cons] at hsub
  cases j with
  |zero =>
   simp at hj
   subst hj
   rw [List.filter_cons]
   simp only [beq_self_eq_true, Bool.not_true, Bool.false_eq_true, if_false, List.eraseIdx_cons_zero]
   rw [List.filter_eq_self]
   intro y hy
   have := hsub.1 y.born (List.mem_map.2 ⟨y, hy, rfl⟩)
   simp
   omega
  |succ j =>
   have hj' : U[j]? = some e := by simpa using hj
   have hm := hsub.1 e.born (List.mem_map.2 ⟨e, List.mem_of_getElem? hj', rfl⟩)
   rw [List.filter_cons]
   have hne : (x.born == e.born) = false := by simp; omega
   rw [hne]
   simp only [Bool.not_false, if_true, List.eraseIdx_cons_succ]
   rw [ih hj' hsub.2]
theorem ba_beq (a b : ByteArray) : (a == b) = decide (a = b) := by
 rw [Bool.eq_iff_iff, decide_eq_true_iff]
 constructor
 ·intro h
  cases a with
  |mk a =>
   cases b with
   |mk b =>
    have : a == b := h
    rw [eq_of_beq this]
 ·rintro rfl
  exact ba_self a
theorem KeyTy.str {K : TypeId} (h : P.underlying K = some .string) : KeyTy P K Value.string where
 desc := ⟨_, h, fun a b => by simp [Instr.sameNow, ba_beq]⟩
 chk := fun e a w => by
  unfold Instr.checkKey
  simp [run_underlying h]
 bits := fun a => by simp [Instr.sameBits, ba_self]
theorem KeyTy.int {K : TypeId} {k : IntKind} (h : P.underlying K = some (.int k)) : KeyTy P K (Value.int k) where
 desc := ⟨_, h, fun a b => by
  simp only [Instr.sameNow, if_true]
  rw [Option.some.injEq, Bool.eq_iff_iff]
  simp⟩
 chk := fun e a w => by
  unfold Instr.checkKey
  simp [run_underlying h]
 bits := fun a => by simp [Instr.sameBits]
end maps
end Lg
end
