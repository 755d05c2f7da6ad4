/- A part of the proof of a law of this seat: it adds no condition. By an AI agent. -/
import Derived.Maps.RangeRun
import Derived.Test.YtfgcjpkkbhnkgaaGreatDoorLgFree
section
set_option linter.all false
namespace Lg
open Go Go.ChangeMaps

/-! ### maps: an owned block of entries, in the order in which they came -/
section maps
variable {P : Program} {Γ : Ctx} {env env' : Env} {cs cs' cf : List Chunk} {Q : Post} {R : Array Oper}
variable {i : Tmp} {ty : TypeId} {pos : String} {af : Array Edge} {rest : List Oper}
variable {x y z : Operand} {T : TypeId}
variable {α : Type} [DecidableEq α] {enc : α → Value}

/-- a type of keys: equality is seen at once, hashing never fails -/
class KeyTy (P : Program) (K : TypeId) (enc : α → Value) : Prop where
 desc : ∃ d, P.underlying K = some d ∧ ∀ a b, Instr.sameNow d (enc a) (enc b) = some (decide (a = b))
 chk : ∀ e a w, (Instr.checkKey e 10000 K (enc a)).run P w = .ok () w
 bits : ∀ a, Instr.sameBits 10000 (enc a) (enc a) = true
/-- a map type: its keys, and the zero value of its elements -/
class TyMap (P : Program) (T : TypeId) (K E : outParam TypeId) (z : outParam Value) : Prop where
 hT : P.underlying T = some (.map K E)
 hz : ∃ i, P.info? E = some i ∧ i.zero = some z

inductive EsR (w : World) (A : Nat → Prop) (enc : α → Value) : List (α × Tr) → List MapEntry → Prop
 |nil : EsR w A enc [] []
 |cons {a : α} {t : Tr} {ps : List (α × Tr)} {e : MapEntry} {es : List MapEntry} (hk : e.key = enc a) (hv : t.rd w A e.val) (r : EsR w A enc ps es) : EsR w A enc ((a, t) :: ps) (e :: es)
theorem EsR.mono {w w' : World} {A A' : Nat → Prop} {kv : List (α × Tr)} {es : List MapEntry} (h : EsR w A enc kv es) (hs : SameOn w w' A A') : EsR w' A' enc kv es := by
 induction h with
 |nil => exact .nil
 |cons hk hv _ ih => exact .cons hk (Tr.mono _ hs hv) ih
def mget (a : α) : List (α × Tr) → Option Tr
 |[] => none
 |p :: r => if a = p.1 then some p.2 else mget a r
def mset (a : α) (t : Tr) : List (α × Tr) → List (α × Tr)
 |[] => [(a, t)]
 |p :: r => if a = p.1 then (a, t) :: r else p :: mset a t r
theorem EsR.find {w : World} {A : Nat → Prop} {d : TypeDesc} (hd : ∀ a b, Instr.sameNow d (enc a) (enc b) = some (decide (a = b))) {kv : List (α × Tr)} {es : List MapEntry} (h : EsR w A enc kv es) (a : α) : ∀ i : Nat,
  (mget a kv = none ∧ Instr.findNow d (enc a) es i = some none ∧ ∀ t x born, ∀ c : Value, t.rd w A x → EsR w A enc (mset a t kv) (es ++ [{ key := enc a, val := x, born := born }])) ∨
  ∃ (t0 : Tr) (v : Value) (j : Nat) (e : MapEntry), mget a kv = some t0 ∧ Instr.findNow d (enc a) es i = some (some (i + j, v)) ∧ t0.rd w A v ∧ es[j]? = some e ∧ e.key = enc a ∧ ∀ t x, t.rd w A x → EsR w A enc (mset a t kv) (es.modify j fun e => { e with key := enc a, val := x }) := by
 induction h with
 |nil => intro i; exact .inl ⟨rfl, rfl, fun t x born c hx => .cons rfl hx .nil⟩
 | @cons b t ps e es hk hv hr ih =>
  intro i
  unfold Instr.findNow
  rw [hk, hd]
  by_cases hab : a = b
  ·subst hab
   refine .inr ⟨t, e.val, 0, e, ?_, ?_, hv, rfl, hk, fun t2 x hx => ?_⟩
   ·simp [mget]
   ·simp
   ·simp only [mset, if_true]
    exact .cons rfl hx hr
  ·rw [decide_eq_false hab]
   simp only
   rcases ih (i + 1) with ⟨h1, h2, h3⟩ | ⟨t0, v, j, e0, h1, h2, h3, h4, h5, h6⟩
   ·refine .inl ⟨by simp [mget, hab, h1], h2, fun t2 x born c hx => ?_⟩
    simp only [mset, if_neg hab]
    exact .cons hk hv (h3 t2 x born c hx)
   ·refine .inr ⟨t0, v, j + 1, e0, by simp [mget, hab, h1], by rw [h2]; congr 3; omega, h3, by simpa using h4, h5, fun t2 x hx => ?_⟩
    simp only [mset, if_neg hab]
    exact .cons hk hv (h6 t2 x hx)

/-- an owned map -/
def borns (es : List MapEntry) : List Nat := es.map fun e => e.born
def Chunk.mp (enc : α → Value) (b : Nat) (kv : List (α × Tr)) : Chunk :=
 ⟨[b], fun w A => ∃ es clock, w.heap[b]? = some (.map es clock) ∧ EsR w A enc kv es.toList ∧ (borns es.toList).Pairwise (· < ·) ∧ (∀ e ∈ es.toList, e.born < clock),
  fun hb h ⟨es, clock, e, hr, h1, h2⟩ => ⟨es, clock, (hb b (by simp) (Array.getElem?_eq_some_iff.1 e).1).trans e, hr.mono h, h1, h2⟩⟩

theorem run_getMap {w : World} {b : Nat} {es : Array MapEntry} {c : Nat} (h : w.heap[b]? = some (.map es c)) : (getObj b).run P w = .ok (.map es c) w := by
 simp [getObj, Sem.run, h]
theorem run_findKey {K : TypeId} [hK : KeyTy P K enc] {w : World} {A : Nat → Prop} {kv : List (α × Tr)} {es : List MapEntry} (h : EsR w A enc kv es) (a : α) :
  (mget a kv = none ∧ (Instr.findKey K (enc a) es).run P w = .ok none w ∧ ∀ t x born, ∀ c : Value, t.rd w A x → EsR w A enc (mset a t kv) (es ++ [{ key := enc a, val := x, born := born }])) ∨
  ∃ (t0 : Tr) (v : Value) (j : Nat) (e : MapEntry), mget a kv = some t0 ∧ (Instr.findKey K (enc a) es).run P w = .ok (some (j, v)) w ∧ t0.rd w A v ∧ es[j]? = some e ∧ e.key = enc a ∧ ∀ t x, t.rd w A x → EsR w A enc (mset a t kv) (es.modify j fun e => { e with key := enc a, val := x }) := by
 obtain ⟨d, hd, hs⟩ := hK.desc
 rcases h.find hs a 0 with ⟨h1, h2, h3⟩ | ⟨t0, v, j, e, h1, h2, h3⟩
 ·exact .inl ⟨h1, by simp [Instr.findKey, run_underlying hd, h2], h3⟩
 ·rw [Nat.zero_add] at h2
  exact .inr ⟨t0, v, j, e, h1, by simp [Instr.findKey, run_underlying hd, h2], h3⟩
/-- what m[k] reads as -/
def mread (a : α) (z : Value) (kv : List (α × Tr)) : Tr := (mget a kv).getD (Tr.raw z)
theorem run_zero {E : TypeId} {z : Value} (h : ∃ i, P.info? E = some i ∧ i.zero = some z) (w : World) : (zeroValue E).run P w = .ok z w := by
 obtain ⟨i, h1, h2⟩ := h
 simp [zeroValue, typeInfo, h1, h2]
theorem OpV.lookup {K E : TypeId} {zv : Value} [hT : TyMap P T K E zv] [hK : KeyTy P K enc] {b : Nat} {a : α} {kv : List (α × Tr)} (hx : ev env x = some (.raw (.map (some b)))) (hy : ev env y = some (.raw (enc a)))
  (hp : cs.Perm (Chunk.mp enc b kv :: cf)) : OpV P Γ (.lookup T x y false) ty env cs (mread a zv kv) := by
 unfold OpV
 intro ac w d
 have hv := rd_raw (d.ev hx)
 have hk := rd_raw (d.ev hy)
 obtain ⟨es, clock, hb, hr, _⟩ := d.has hp
 have hchk := hK.chk es.isEmpty a w
 rcases run_findKey (P := P) (K := K) hr a with ⟨h1, h2, _⟩ | ⟨t0, v, j, e, h1, h2, h3, _⟩
 ·refine ⟨zv, ?_, ?_⟩
  ·simp [execOp, hv, hk, Instr.lookup, run_underlying hT.hT, run_getMap hb, hchk, h2, run_zero hT.hz w]
  ·unfold mread
   rw [h1]
   exact raw_self _
 ·refine ⟨v, ?_, ?_⟩
  ·simp [execOp, hv, hk, Instr.lookup, run_underlying hT.hT, run_getMap hb, hchk, h2]
  ·unfold mread
   rw [h1]
   exact h3
theorem Ops.lookup {K E : TypeId} {zv : Value} [hT : TyMap P T K E zv] [hK : KeyTy P K enc] {b : Nat} {a : α} {kv : List (α × Tr)} (hx : ev env x = some (.raw (.map (some b)))) (hy : ev env y = some (.raw (enc a)))
  (hp : cs.Perm (Chunk.mp enc b kv :: cf)) (hi : Nat.blt i Γ.n = true) (kont : Ops P Γ R rest ((i, mread a zv kv) :: env) cs Q) : Ops P Γ R (⟨some i, .lookup T x y false, ty, pos, af, none⟩ :: rest) env cs Q :=
 Ops.val' hi (OpV.lookup hx hy hp) kont
/-- make(map[K]V) -/
theorem Ops.makeMap {K E : TypeId} {zv : Value} [hT : TyMap P T K E zv] (enc : α → Value) (hi : Nat.blt i Γ.n = true)
  (kont : ∀ b, Ops P Γ R rest ((i, .raw (.map (some b))) :: env) (Chunk.mp enc b [] :: cs) Q) : Ops P Γ R (⟨some i, .makeMap T none, ty, pos, af, none⟩ :: rest) env cs Q :=
 Ops.of fun a w d => by
  have hd : Den Γ env (Chunk.mp enc w.heap.size [] :: cs) a (w.alloc (.map #[] 0)) := by
   refine d.push _ (by simp) (by simp [Chunk.mp]) (by simp [Chunk.mp]) (fun b hb => (MapKept.heap_alloc w _).2 b hb) rfl rfl rfl ?_
   intro hs
   exact ⟨#[], 0, (MapKept.heap_alloc w _).1, .nil, .nil, by simp⟩
  exact ⟨_, _, _, w.alloc (.map #[] 0), by simp [execOp, Instr.makeMap, newObj] <;> rfl, .inl ⟨_, rfl, hd.put hi (raw_self _)⟩, kont _⟩
theorem borns_modify {l : List MapEntry} (k v : Value) : ∀ (j : Nat), borns (l.modify j fun e => { e with key := k, val := v }) = borns l := by
 induction l with
 |nil => intro j; cases j <;> rfl
 |cons e l ih =>
  intro j
  cases j with
  |zero => rfl
  |succ j =>
   simp only [borns, List.modify_succ_cons, List.map_cons]
   exact congrArg _ (ih j)
theorem mem_borns {l : List MapEntry} {c : Nat} : (∀ e ∈ l, e.born < c) ↔ ∀ n ∈ borns l, n < c := by
 simp [borns]
theorem run_stays {a : α} {K : TypeId} [hK : KeyTy P K enc] (w : World) : (Instr.keyThatStays (enc a) (enc a)).run P w = .ok (enc a) w := by
 simp [Instr.keyThatStays, hK.bits]
/-- m[k] = v -/
theorem Ops.mapUpdate {K E : TypeId} {zv : Value} [hT : TyMap P T K E zv] [hK : KeyTy P K enc] {b : Nat} {a : α} {t : Tr} {kv : List (α × Tr)} (hx : ev env x = some (.raw (.map (some b)))) (hy : ev env y = some (.raw (enc a))) (hz : ev env z = some t)
  (hp : cs.Perm (Chunk.mp enc b kv :: cf)) (kont : Ops P Γ R rest env (Chunk.mp enc b (mset a t kv) :: cf) Q) : Ops P Γ R (⟨none, .mapUpdate T x y z, ty, pos, af, none⟩ :: rest) env cs Q :=
 Ops.of fun ac w d => by
  have hv := rd_raw (d.ev hx)
  have hk := rd_raw (d.ev hy)
  have ht := d.ev hz
  have d := d.perm hp
  rw [av_perm hp] at ht
  obtain ⟨es, clock, hb, hr, h1, h2⟩ := d.has (List.Perm.refl _)
  have hchk := hK.chk false a w
  have hset : ∀ o : Obj, (setObj b o).run P w = .ok () (setBlock w b o) := fun o => MapKept.run_setObj_map o hb
  have hlt : b < w.heap.size := (Array.getElem?_eq_some_iff.1 hb).1
  have hturn : ∀ (es' : Array MapEntry) (c' : Nat), EsR w (av Γ.M (Chunk.mp enc b kv :: cf)) enc (mset a t kv) es'.toList → (borns es'.toList).Pairwise (· < ·) → (∀ e ∈ es'.toList, e.born < c') → Den Γ env (Chunk.mp enc b (mset a t kv) :: cf) ac (setBlock w b (.map es' c')) := by
   intro es' c' hr' hb1 hb2
   refine d.turn rfl (fun q hq hn => ?_) (by simp [setBlock]) rfl rfl rfl ?_
   ·exact ChangeMaps.heap_setBlock_other hb _ (by simpa [Chunk.mp] using hn)
   ·intro hs _
    exact ⟨es', c', ChangeMaps.heap_setBlock_same hb _, hr'.mono hs, hb1, hb2⟩
  rcases run_findKey (P := P) (K := K) hr a with ⟨g1, g2, g3⟩ | ⟨t0, v, j, e, g1, g2, g3, g4, g5, g6⟩
  ·refine ⟨env, _, .skip, _, by simp [execOp, hv, hk, Instr.mapUpdate, run_underlying hT.hT, run_getMap hb, hchk, g2, hset] <;> rfl, .inr ⟨rfl, ?_⟩, kont⟩
   refine (hturn _ _ ?_ ?_ ?_).put_none _
   ·rw [Array.toList_push]
    exact g3 t _ clock (enc a) ht
   ·rw [Array.toList_push]
    simp only [borns, List.map_append, List.map_cons, List.map_nil]
    rw [List.pairwise_append]
    exact ⟨h1, by simp, fun p hp q hq => by
     rw [List.mem_singleton.1 hq]
     exact mem_borns.1 h2 p hp⟩
   ·intro e he
    rw [Array.toList_push] at he
    rcases List.mem_append.1 he with h | h
    ·have := h2 e h; omega
    ·rw [List.mem_singleton.1 h]; simp
  ·have hej : es[j]? = some e := by rw [← Array.getElem?_toList]; exact g4
   refine ⟨env, _, .skip, _, by simp [execOp, hv, hk, Instr.mapUpdate, run_underlying hT.hT, run_getMap hb, hchk, g2, hej, g5, run_stays (P := P) (K := K), hset] <;> rfl, .inr ⟨rfl, ?_⟩, kont⟩
   refine (hturn _ _ ?_ ?_ ?_).put_none _
   ·rw [Array.toList_modify]
    exact g6 t _ ht
   ·rw [Array.toList_modify]
    rw [borns_modify]
    exact h1
   ·rw [Array.toList_modify, mem_borns, borns_modify]
    exact mem_borns.1 h2
/-- v, ok := m[k] -/
theorem OpV.lookupOk {K E : TypeId} {zv : Value} [hT : TyMap P T K E zv] [hK : KeyTy P K enc] {b : Nat} {a : α} {kv : List (α × Tr)} (hx : ev env x = some (.raw (.map (some b)))) (hy : ev env y = some (.raw (enc a)))
  (hp : cs.Perm (Chunk.mp enc b kv :: cf)) : OpV P Γ (.lookup T x y true) ty env cs (.tup [mread a zv kv, .bool (mget a kv).isSome]) := by
 unfold OpV
 intro ac w d
 have hv := rd_raw (d.ev hx)
 have hk := rd_raw (d.ev hy)
 obtain ⟨es, clock, hb, hr, _⟩ := d.has hp
 have hchk := hK.chk es.isEmpty a w
 unfold Tr.tup
 rcases run_findKey (P := P) (K := K) hr a with ⟨h1, h2, _⟩ | ⟨t0, v, j, e, h1, h2, h3, _⟩
 ·refine ⟨.tuple #[zv, .bool false], ?_, [zv, .bool false], rfl, ⟨zv, [.bool false], rfl, ?_, ⟨.bool false, [], rfl, ?_, rfl⟩⟩⟩
  ·simp [execOp, hv, hk, Instr.lookup, run_underlying hT.hT, run_getMap hb, hchk, h2, run_zero hT.hz w]
  ·unfold mread
   rw [h1]
   exact raw_self _
  ·rw [h1]
   exact raw_self _
 ·refine ⟨.tuple #[v, .bool true], ?_, [v, .bool true], rfl, ⟨v, [.bool true], rfl, ?_, ⟨.bool true, [], rfl, ?_, rfl⟩⟩⟩
  ·simp [execOp, hv, hk, Instr.lookup, run_underlying hT.hT, run_getMap hb, hchk, h2]
  ·unfold mread
   rw [h1]
   exact h3
  ·rw [h1]
   exact raw_self _
theorem Ops.lookupOk {K E : TypeId} {zv : Value} [hT : TyMap P T K E zv] [hK : KeyTy P K enc] {b : Nat} {a : α} {kv : List (α × Tr)} (hx : ev env x = some (.raw (.map (some b)))) (hy : ev env y = some (.raw (enc a)))
  (hp : cs.Perm (Chunk.mp enc b kv :: cf)) (hi : Nat.blt i Γ.n = true) (kont : Ops P Γ R rest ((i, .tup [mread a zv kv, .bool (mget a kv).isSome]) :: env) cs Q) : Ops P Γ R (⟨some i, .lookup T x y true, ty, pos, af, none⟩ :: rest) env cs Q :=
 Ops.val' hi (OpV.lookupOk hx hy hp) kont

/-! ### ranging over a map: what is left comes in any order -/
theorem EsR.at {w : World} {A : Nat → Prop} {kv : List (α × Tr)} {es : List MapEntry} (h : EsR w A enc kv es) : ∀ {j : Nat} {e : MapEntry}, es[j]? = some e → ∃ a t, kv[j]? = some (a, t) ∧ e.key = enc a ∧ t.rd w A e.val := by
 induction h with
 |nil => intro j e h; simp at h
 | @cons a t ps e0 es hk hv _ ih =>
  intro j e h
  cases j with
  |zero =>
   simp at h
   subst h
   exact ⟨a, t, rfl, hk, hv⟩
  |succ j =>
   obtain ⟨a, t, h1, h2⟩ := ih (j := j) (e := e) (by simpa using h)
   exact ⟨a, t, by simpa using h1, h2⟩
theorem EsR.len {w : World} {A : Nat → Prop} {kv : List (α × Tr)} {es : List MapEntry} (h : EsR w A enc kv es) : kv.length = es.length := by
 induction h with
 |nil => rfl
 |cons _ _ _ ih => simp [ih]
theorem EsR.erase {w : World} {A : Nat → Prop} {kv : List (α × Tr)} {es : List MapEntry} (h : EsR w A enc kv es) : ∀ j : Nat, EsR w A enc (kv.eraseIdx j) (es.eraseIdx j) := by
 induction h with
 |nil => intro j; exact .nil
 |cons hk hv hr ih =>
  intro j
  cases j with
  |zero => exact hr
  |succ j => exact .cons hk hv (ih j)
/-- what an iterator has not seen -/
def unseen (seen : Array Nat) (es : List MapEntry) : List MapEntry := es.filter fun e => !seen.contains e.born
def Chunk.rg (enc : α → Value) (b r : Nat) (kv left : List (α × Tr)) : Chunk :=
 ⟨[b, r], fun w A => ∃ es clock seen, w.heap[b]? = some (.map es clock) ∧ EsR w A enc kv es.toList ∧ (borns es.toList).Pairwise (· < ·) ∧ (∀ e ∈ es.toList, e.born < clock) ∧
   w.heap[r]? = some (.mapIter (some b) clock seen clock) ∧ EsR w A enc left (unseen seen es.toList),
  fun hb h ⟨es, clock, seen, e, hr, h1, h2, h3, h4⟩ => ⟨es, clock, seen, (hb b (by simp) (Array.getElem?_eq_some_iff.1 e).1).trans e, hr.mono h, h1, h2, (hb r (by simp) (Array.getElem?_eq_some_iff.1 h3).1).trans h3, h4.mono h⟩⟩
theorem Ops.range {K E : TypeId} {zv : Value} [hT : TyMap P T K E zv] {b : Nat} {kv : List (α × Tr)} (hx : ev env x = some (.raw (.map (some b)))) (hp : cs.Perm (Chunk.mp enc b kv :: cf)) (hi : Nat.blt i Γ.n = true)
  (kont : ∀ r, Ops P Γ R rest ((i, .raw (.pointer (some ⟨r, 0, none⟩))) :: env) (Chunk.rg enc b r kv kv :: cf) Q) : Ops P Γ R (⟨some i, .range T x, ty, pos, af, none⟩ :: rest) env cs Q :=
 Ops.of fun a w d => by
  have hv := rd_raw (d.ev hx)
  have d := d.perm hp
  obtain ⟨es, clock, hb, hr, h1, h2⟩ := d.has (List.Perm.refl _)
  have hlt : b < w.heap.size := (Array.getElem?_eq_some_iff.1 hb).1
  have hsz : (w.alloc (.mapIter (some b) clock #[] clock)).heap.size = w.heap.size + 1 := by simp
  have hd : Den Γ env (Chunk.rg enc b w.heap.size kv kv :: cf) a (w.alloc (.mapIter (some b) clock #[] clock)) := by
   refine d.turnF (fun q hq => ?_) (by simp [Chunk.rg]; omega) ⟨rfl, rfl, rfl, by omega, fun q hq _ => (MapKept.heap_alloc w _).2 q hq, fun _ => Nat.le_refl _⟩ ?_
   ·simp only [Chunk.rg, List.mem_cons, List.not_mem_nil, or_false] at hq
    rcases hq with rfl | rfl
    ·exact .inl (by simp [Chunk.mp])
    ·exact .inr ⟨Nat.le_refl _, by omega⟩
   ·intro hs _
    refine ⟨es, clock, #[], ((MapKept.heap_alloc w _).2 b hlt).trans hb, hr.mono hs, h1, h2, (MapKept.heap_alloc w _).1, ?_⟩
    have : unseen #[] es.toList = es.toList := by simp [unseen]
    rw [this]
    exact hr.mono hs
  exact ⟨_, _, _, _, by simp [execOp, hv, Instr.range, run_underlying hT.hT, run_getMap hb, newObj] <;> rfl, .inl ⟨_, rfl, hd.put hi (raw_self _)⟩, kont _⟩
theorem unseen_push {seen : Array Nat} {es : List MapEntry} (hb : (borns es).Pairwise (· < ·)) {e : MapEntry} {j : Nat} (hj : (unseen seen es)[j]? = some e) : unseen (seen.push e.born) es = (unseen seen es).eraseIdx j := by
 have hsub : (borns (unseen seen es)).Pairwise (· < ·) := by
  unfold unseen borns
  exact hb.sublist ((List.filter_sublist).map _)
 have h1 : unseen (seen.push e.born) es = (unseen seen es).filter fun x => !(x.born == e.born) := by
  unfold unseen
  rw [List.filter_filter]
  congr 1
  funext x
  simp only [Array.contains_push, Bool.not_or]
  rw [Bool.and_comm]
 rw [h1]
 generalize unseen seen es = U at *
 clear h1
 induction U generalizing j with
 |nil => simp at hj
 |cons x U ih =>
  rw [show borns (x :: U) = x.born :: borns U from rfl, List.pairwise_cons] at hsub
  cases j with
  |zero =>
   simp at hj
   subst hj
   rw [List.filter_cons]
   simp only [beq_self_eq_true, Bool.not_true, Bool.false_eq_true, if_false, List.eraseIdx_cons_zero]
   rw [List.filter_eq_self]
   intro y hy
   have := hsub.1 y.born (List.mem_map.2 ⟨y, hy, rfl⟩)
   simp
   omega
  |succ j =>
   have hj' : U[j]? = some e := by simpa using hj
   have hm := hsub.1 e.born (List.mem_map.2 ⟨e, List.mem_of_getElem? hj', rfl⟩)
   rw [List.filter_cons]
   have hne : (x.born == e.born) = false := by simp; omega
   rw [hne]
   simp only [Bool.not_false, if_true, List.eraseIdx_cons_succ]
   rw [ih hj' hsub.2]
theorem ba_beq (a b : ByteArray) : (a == b) = decide (a = b) := by
 rw [Bool.eq_iff_iff, decide_eq_true_iff]
 constructor
 ·intro h
  cases a with
  |mk a =>
   cases b with
   |mk b =>
    have : a == b := h
    rw [eq_of_beq this]
 ·rintro rfl
  exact ba_self a
theorem KeyTy.str {K : TypeId} (h : P.underlying K = some .string) : KeyTy P K Value.string where
 desc := ⟨_, h, fun a b => by simp [Instr.sameNow, ba_beq]⟩
 chk := fun e a w => by
  unfold Instr.checkKey
  simp [run_underlying h]
 bits := fun a => by simp [Instr.sameBits, ba_self]
theorem KeyTy.int {K : TypeId} {k : IntKind} (h : P.underlying K = some (.int k)) : KeyTy P K (Value.int k) where
 desc := ⟨_, h, fun a b => by
  simp only [Instr.sameNow, if_true]
  rw [Option.some.injEq, Bool.eq_iff_iff]
  simp⟩
 chk := fun e a w => by
  unfold Instr.checkKey
  simp [run_underlying h]
 bits := fun a => by simp [Instr.sameBits]
end maps
end Lg
end
section
set_option linter.all false
namespace Lg
open Go

/-! ### an owned slice lent to a function that writes nothing of it -/
section lend
variable {P : Program}
/-- a chunk that speaks of its own blocks alone -/
def FreeC (c : Chunk) : Prop := ∀ (w : World) (A A' : Nat → Prop), c.holds w A → c.holds w A'
theorem FreeC.own {ad : Option Addr} {cap k : Nat} {E : TypeId} {rows : List (List Tr)} (h : FreeL rows.flatten) : FreeC (Chunk.own ad cap k E rows) := by
 intro w A A' hh
 unfold Chunk.own at hh ⊢
 obtain ⟨hk, xs, ho, hrx⟩ := hh
 exact ⟨hk, xs, ho, h.rdc hrx⟩
theorem FreeL.intRows (l : List Int) : FreeL (intRows l).flatten := by
 unfold Lg.intRows
 induction l with
 |nil => exact .nil
 |cons x l ih =>
  rw [List.map_cons, List.flatten_cons]
  exact .cons FreeT.raw ih
theorem Spec.lend {f : FuncId} {pre suf : List Tr} {C : List Chunk} {kk E n cap : Nat} {ad : Option Addr} {rows : List (List Tr)} {post : Tr → List Chunk → Prop} (h : Spec P f (pre ++ .sl kk rows :: suf) C post) (hn : n = rows.length)
  (hfr : ∀ r cs, post r cs → FreeT r ∧ ∀ c ∈ cs, FreeC c) :
  Spec P f (pre ++ Tr.raw (.slice ad n cap) :: suf) (Chunk.own ad cap kk E rows :: C) (fun r cs => ∃ cs0, cs = Chunk.own ad cap kk E rows :: cs0 ∧ post r cs0) := by
 subst hn
 unfold Spec at h ⊢
 obtain ⟨h1, h2⟩ := h
 refine ⟨h1, fun M w vs hr hch hnd hlt hM => ?_⟩
 have hfp : (Chunk.own ad cap kk E rows).fp = (Value.ownBlock (.slice ad rows.length cap)).toList := by unfold Chunk.own; simp
 have hfps : ∀ L, fps (Chunk.own ad cap kk E rows :: L) = (Chunk.own ad cap kk E rows).fp ++ fps L := fun L => by simp [fps]
 have hs : SameOn w w (av M (Chunk.own ad cap kk E rows :: C)) (av M C) := fun b _ ⟨h1, h2⟩ => ⟨⟨h1, fun hm => h2 (by rw [hfps]; exact List.mem_append.2 (.inr hm))⟩, rfl⟩
 have hown0 := hch (Chunk.own ad cap kk E rows) (by simp)
 have hown := hown0
 unfold Chunk.own at hown
 obtain ⟨hk, xs, ho, hrx⟩ := hown
 rw [hfps] at hnd
 obtain ⟨hnd1, hnd2, hnd3⟩ := List.nodup_append.1 hnd
 have hsl : (Tr.sl kk rows).rd w (av M C) (.slice ad rows.length cap) := by
  unfold Tr.sl
  rcases ho.2 with ⟨e1, e2⟩ | ⟨g, cp, cur, hv, hg, hb, q1, q2, q3, q4⟩
  ·simp only [Value.slice.injEq] at e1
   obtain ⟨rfl, _, rfl⟩ := e1
   exact ⟨hk, by simp [e2], none, 0, rfl, by omega, by simp, fun _ => ⟨List.eq_nil_of_length_eq_zero e2, rfl⟩, .inl (List.eq_nil_of_length_eq_zero e2)⟩
  ·simp only [Value.slice.injEq] at hv
   obtain ⟨rfl, _, rfl⟩ := hv
   have hg1 : g ∈ (Chunk.own (some ⟨g, 0, none⟩) cap kk E rows).fp := by rw [hfp]; simp [Value.ownBlock]
   have hfr := hlt g (by rw [hfps]; exact List.mem_append.2 (.inl hg1))
   refine ⟨hk, by omega, _, cap, rfl, q1, q2, fun h => absurd h (by simp), .inr ⟨g, 0, rfl, ⟨hfr.2, fun hm => hnd3 g hg1 g hm rfl⟩, cur, E, _, hb, ?_⟩⟩
   rw [List.drop_zero, flat_len hk, q4]
   have hs2 : SameOn w w (av M (Chunk.own (some ⟨g, 0, none⟩) cap kk E rows :: C)) (av M C) := hs
   unfold Chunk.own at hs2
   exact hrx.mono hs2
 have hargs : ∀ (pre : List Tr) (vs : List Value), RdL w (av M (Chunk.own ad cap kk E rows :: C)) (pre ++ Tr.raw (.slice ad rows.length cap) :: suf) vs → RdL w (av M C) (pre ++ .sl kk rows :: suf) vs := by
  intro pre
  induction pre with
  |nil =>
   intro vs hr
   obtain ⟨v, rest, rfl, hv, hr⟩ := hr
   have := rd_raw hv
   subst this
   exact ⟨_, _, rfl, hsl, hr.mono hs⟩
  |cons p pre ih =>
   intro vs hr
   obtain ⟨v, rest, rfl, hv, hr⟩ := hr
   exact ⟨v, rest, rfl, p.mono hs hv, ih rest hr⟩
 refine (h2 M w vs (hargs pre vs hr) (fun c hc => Chunk.mono _ (fun b _ hb => rfl) hs (hch c (List.mem_cons_of_mem _ hc))) hnd2 (fun b hb => hlt b (by rw [hfps]; exact List.mem_append.2 (.inr hb))) hM).mono ?_
 rintro e w' ⟨v, r, cs', rfl, hpost, hrd, hch', hnd', hlt', hfm⟩
 obtain ⟨hfr1, hfr2⟩ := hfr r cs' hpost
 have hold : ∀ b, b ∈ (Chunk.own ad cap kk E rows).fp → b < w.heap.size → w'.heap[b]? = w.heap[b]? := fun b hb hl => hfm.block b hl (fun hm => hnd3 b hb b hm rfl)
 refine ⟨v, r, _, rfl, ⟨cs', rfl, hpost⟩, hfr1 _ _ _ _ _ hrd, ?_, ?_, ?_, ⟨hfm.os, hfm.tape, hfm.output, hfm.size, fun b hb hn => hfm.block b hb (fun hm => hn (by rw [hfps]; exact List.mem_append.2 (.inr hm))), hfm.drawn⟩⟩
 ·have hs2 : SameOn w w' (av M (Chunk.own ad cap kk E rows :: C)) (av M (Chunk.own ad cap kk E rows :: cs')) := by
   intro b hb ⟨m1, m2⟩
   rw [hfps] at m2
   refine ⟨⟨m1, fun hm => ?_⟩, hfm.block b hb fun hm => m2 (List.mem_append.2 (.inr hm))⟩
   rw [hfps] at hm
   rcases List.mem_append.1 hm with hm | hm
   ·exact m2 (List.mem_append.2 (.inl hm))
   ·obtain ⟨_, _, q3⟩ := hlt' b hm
    rcases q3 with q3 | q3
    ·exact m2 (List.mem_append.2 (.inr q3))
    ·omega
  intro c hc
  rcases List.mem_cons.1 hc with rfl | hc
  ·exact Chunk.mono _ (fun b hb hl => hold b hb hl) hs2 hown0
  ·exact hfr2 c hc _ _ _ (hch' c hc)
 ·rw [hfps]
  refine List.nodup_append.2 ⟨hnd1, hnd', fun b hb d hd hbd => ?_⟩
  subst hbd
  obtain ⟨_, _, q3⟩ := hlt' b hd
  rcases q3 with q3 | q3
  ·exact hnd3 b hb b q3 rfl
  ·have := (hlt b (by rw [hfps]; exact List.mem_append.2 (.inl hb))).1
   omega
 ·intro b hb
  rw [hfps] at hb ⊢
  rcases List.mem_append.1 hb with hb | hb
  ·obtain ⟨q1, q2⟩ := hlt b (by rw [hfps]; exact List.mem_append.2 (.inl hb))
   exact ⟨Nat.lt_of_lt_of_le q1 hfm.size, q2, .inl (List.mem_append.2 (.inl hb))⟩
  ·obtain ⟨q1, q2, q3⟩ := hlt' b hb
   exact ⟨q1, q2, q3.imp (fun h => List.mem_append.2 (.inr h)) id⟩
end lend
end Lg
end
section
set_option linter.all false
namespace Lg
open Go Go.ChangeMaps

/-! ### an iterator that stands at an entry -/
section maps
variable {P : Program} {Γ : Ctx} {env env' : Env} {cs cs' cf : List Chunk} {Q : Post} {R : Array Oper}
variable {i : Tmp} {ty : TypeId} {pos : String} {af : Array Edge} {rest : List Oper}
variable {x y z : Operand} {T : TypeId}
variable {α : Type} [DecidableEq α] {enc : α → Value}

def Chunk.rc (enc : α → Value) (b r : Nat) (kv left : List (α × Tr)) (a : α) (t : Tr) : Chunk :=
 ⟨[b, r], fun w A => ∃ es clock seen, w.heap[b]? = some (.map es clock) ∧ EsR w A enc kv es.toList ∧ (borns es.toList).Pairwise (· < ·) ∧ (∀ e ∈ es.toList, e.born < clock) ∧
   w.heap[r]? = some (.mapIter (some b) clock seen clock) ∧ EsR w A enc left (unseen seen es.toList) ∧ ∃ (e : MapEntry) (seen0 : Array Nat), seen = seen0.push e.born ∧ e ∈ es.toList ∧ e.key = enc a ∧ t.rd w A e.val,
  fun hb h ⟨es, clock, seen, e, hr, h1, h2, h3, h4, e0, s0, q1, q2, q3, q4⟩ => ⟨es, clock, seen, (hb b (by simp) (Array.getElem?_eq_some_iff.1 e).1).trans e, hr.mono h, h1, h2, (hb r (by simp) (Array.getElem?_eq_some_iff.1 h3).1).trans h3, h4.mono h, e0, s0, q1, q2, q3, t.mono h q4⟩⟩
theorem Ent.rc {b r : Nat} {kv left : List (α × Tr)} {a : α} {t : Tr} (hp : cs.Perm (Chunk.rc enc b r kv left a t :: cf)) : Ent Γ env cs env (Chunk.rg enc b r kv left :: cf) := by
 unfold Ent
 intro ac w d
 refine (d.perm hp).turnF (fun q hq => .inl (by simpa [Chunk.rc, Chunk.rg] using hq)) ?_ (Frm.refl _ _) ?_
 ·have h := (d.perm hp).nodup
  simp only [fps, List.flatMap_cons] at h
  exact (List.nodup_append.1 h).1
 ·intro hs ⟨es, clock, seen, h0, hr, h1, h2, h3, h4, _⟩
  exact ⟨es, clock, seen, h0, hr.mono hs, h1, h2, h3, h4.mono hs⟩
/-- the next entry: any that is left; the iterator stands there -/
theorem Ops.nextC {b r : Nat} {kv left : List (α × Tr)} (hx : ev env x = some (.raw (.pointer (some ⟨r, 0, none⟩)))) (hp : cs.Perm (Chunk.rg enc b r kv left :: cf)) (hi : Nat.blt i Γ.n = true)
  (kend : left = [] → Ops P Γ R rest ((i, .tup [.bool false]) :: env) (Chunk.mp enc b kv :: cf) Q)
  (kont : ∀ j a t, left[j]? = some (a, t) → Ops P Γ R rest ((i, .tup [.bool true, .raw (enc a), t]) :: env) (Chunk.rc enc b r kv (left.eraseIdx j) a t :: cf) Q) : Ops P Γ R (⟨some i, .next x false, ty, pos, af, none⟩ :: rest) env cs Q :=
 Ops.of fun ac w d => by
  have hv := rd_raw (d.ev hx)
  have d := d.perm hp
  obtain ⟨es, clock, seen, hb, hr, h1, h2, h3, h4⟩ := d.has (List.Perm.refl _)
  have hle : (leftOf es seen).toList = unseen seen es.toList := by
   simp [leftOf, unseen, Array.toList_filter]
  have hnd := d.nodup
  simp only [fps, List.flatMap_cons, Chunk.rg] at hnd
  have hbr : b ≠ r := by
   intro e
   subst e
   simp at hnd
  rcases run_next_at (P := P) w ty r b clock clock seen es clock h3 hb h2 (Nat.le_refl _) with ⟨g1, g2⟩ | ⟨e, g1, w1, g2, g3⟩
  ·have hl0 : left = [] := by
    have e1 : (unseen seen es.toList) = [] := by
     rw [← hle]
     have := Array.eq_empty_of_size_eq_zero g1
     rw [this]
    rw [e1] at h4
    cases h4
    rfl
   have hd : Den Γ env (Chunk.mp enc b kv :: cf) ac w := by
    refine d.turnF (c' := Chunk.mp enc b kv) (fun q hq => .inl (by simp [Chunk.mp] at hq; simp [Chunk.rg, hq])) (by simp [Chunk.mp]) (Frm.refl _ _) ?_
    intro hs _
    exact ⟨es, clock, hb, hr.mono hs, h1, h2⟩
   refine ⟨_, _, .value (.tuple #[.bool false]), w, by simp [execOp, hv, g2] <;> rfl, .inl ⟨_, rfl, hd.put hi ?_⟩, kend hl0⟩
   unfold Tr.tup
   exact ⟨[.bool false], rfl, .bool false, [], rfl, raw_self _, rfl⟩
  ·rw [hle] at g1
   obtain ⟨j, hj, hje⟩ := List.getElem_of_mem g1
   have hj2 : (unseen seen es.toList)[j]? = some e := by rw [List.getElem?_eq_getElem hj, hje]
   obtain ⟨a, t, q1, q2, q3⟩ := h4.at hj2
   have hw1 : w1.heap = w.heap ∧ w1.os = w.os ∧ w1.tape = w.tape ∧ w1.output = w.output := by
    rcases g2 with rfl | rfl <;> exact ⟨rfl, rfl, rfl, rfl⟩
   have hrlt : r < w.heap.size := (Array.getElem?_eq_some_iff.1 h3).1
   have hem : e ∈ es.toList := by
    have h := List.mem_of_getElem? hj2
    unfold unseen at h
    exact (List.mem_filter.1 h).1
   have hother : ∀ q, q ≠ r → (setBlock w1 r (.mapIter (some b) clock (seen.push e.born) clock)).heap[q]? = w.heap[q]? := by
    intro q hq
    simp only [setBlock, hw1.1]
    rw [Array.getElem?_setIfInBounds_ne (Ne.symm hq)]
   have hsame : (setBlock w1 r (.mapIter (some b) clock (seen.push e.born) clock)).heap[r]? = some (.mapIter (some b) clock (seen.push e.born) clock) := by
    simp only [setBlock, hw1.1]
    rw [Array.getElem?_setIfInBounds_self]
    simp [hrlt]
   have hd : SameOn w (setBlock w1 r (.mapIter (some b) clock (seen.push e.born) clock)) (av Γ.M (Chunk.rg enc b r kv left :: cf)) (av Γ.M (Chunk.rc enc b r kv (left.eraseIdx j) a t :: cf)) ∧ Den Γ env (Chunk.rc enc b r kv (left.eraseIdx j) a t :: cf) ac (setBlock w1 r (.mapIter (some b) clock (seen.push e.born) clock)) := by
    have hs : SameOn w (setBlock w1 r (.mapIter (some b) clock (seen.push e.born) clock)) (av Γ.M (Chunk.rg enc b r kv left :: cf)) (av Γ.M (Chunk.rc enc b r kv (left.eraseIdx j) a t :: cf)) := by
     intro q hq ⟨m1, m2⟩
     refine ⟨⟨m1, by simpa [fps, Chunk.rg, Chunk.rc] using m2⟩, hother q fun e => m2 (by subst e; simp [fps, Chunk.rg])⟩
    refine ⟨hs, d.turn (c' := Chunk.rc enc b r kv (left.eraseIdx j) a t) rfl (fun q hq hn => hother q fun e => hn (by subst e; simp [Chunk.rg])) (by simp [setBlock, hw1.1]) hw1.2.1 hw1.2.2.1 hw1.2.2.2 ?_ (fun _ => by rcases g2 with rfl | rfl; exact Nat.le_refl _; exact Nat.le_succ _)⟩
    intro hs _
    refine ⟨es, clock, seen.push e.born, (hother b hbr).trans hb, hr.mono hs, h1, h2, hsame, ?_, e, seen, rfl, hem, q2, t.mono hs q3⟩
    rw [unseen_push h1 hj2]
    exact (h4.erase j).mono hs
   refine ⟨_, _, .value (.tuple #[.bool true, e.key, e.val]), _, by simp [execOp, hv, g3] <;> rfl, .inl ⟨_, rfl, hd.2.put hi ?_⟩, kont j a t q1⟩
   unfold Tr.tup
   exact ⟨[.bool true, e.key, e.val], rfl, .bool true, _, rfl, raw_self _, e.key, _, rfl, by rw [q2]; exact raw_self _, e.val, [], rfl, Tr.mono _ hd.1 q3, rfl⟩
/-- the entry at which the iterator stands -/
theorem OpV.entry {b r : Nat} {kv left : List (α × Tr)} {a : α} {t : Tr} (hx : ev env x = some (.raw (.pointer (some ⟨r, 0, none⟩)))) (hp : cs.Perm (Chunk.rc enc b r kv left a t :: cf)) : OpV P Γ (.entry x) ty env cs (.tup [.raw (enc a), t]) := by
 unfold OpV
 intro ac w d
 have hv := rd_raw (d.ev hx)
 obtain ⟨es, clock, seen, hb, hr, h1, h2, h3, h4, e, s0, q1, q2, q3, q4⟩ := d.has hp
 subst q1
 have hnd : (es.toList.map (·.born)).Nodup := by
  have h : (borns es.toList).Pairwise (· ≠ ·) := h1.imp (fun h => Nat.ne_of_lt h)
  exact h
 refine ⟨.tuple #[e.key, e.val], by simp [execOp, hv, run_entry_at (P := P) w r b clock s0 es clock e h3 hb q2 hnd] <;> rfl, ?_⟩
 unfold Tr.tup
 exact ⟨[e.key, e.val], rfl, e.key, _, rfl, by rw [q3]; exact raw_self _, e.val, [], rfl, q4, rfl⟩
theorem Ops.entry {b r : Nat} {kv left : List (α × Tr)} {a : α} {t : Tr} (hx : ev env x = some (.raw (.pointer (some ⟨r, 0, none⟩)))) (hp : cs.Perm (Chunk.rc enc b r kv left a t :: cf)) (hi : Nat.blt i Γ.n = true)
  (kont : Ops P Γ R rest ((i, .tup [.raw (enc a), t]) :: env) (Chunk.rg enc b r kv left :: cf) Q) : Ops P Γ R (⟨some i, .entry x, ty, pos, af, none⟩ :: rest) env cs Q :=
 Ops.val' hi (OpV.entry hx hp) (Ops.ent (Ent.rc hp) kont)
end maps

/-! ### entries as a list: what is gone is what was not left -/
theorem eraseIdx_perm {α : Type} {l : List α} {j : Nat} {x : α} (h : l[j]? = some x) : l.Perm (x :: l.eraseIdx j) := by
 induction l generalizing j with
 |nil => simp at h
 |cons y l ih =>
  cases j with
  |zero =>
   simp at h
   subst h
   exact List.Perm.refl _
  |succ j =>
   simp only [List.getElem?_cons_succ] at h
   rw [List.eraseIdx_cons_succ]
   exact ((ih h).cons y).trans (List.Perm.swap x y _)
theorem eraseIdx_snoc {α : Type} {l g left : List α} {j : Nat} {x : α} (hp : l.Perm (g ++ left)) (h : left[j]? = some x) : l.Perm ((g ++ [x]) ++ left.eraseIdx j) := by
 refine hp.trans ?_
 rw [List.append_assoc]
 exact List.Perm.append_left g (eraseIdx_perm h)
theorem eraseIdx_len {α : Type} {l : List α} {j : Nat} {x : α} (h : l[j]? = some x) : (l.eraseIdx j).length + 1 = l.length := by
 have := (eraseIdx_perm h).length_eq
 simpa using this.symm
end Lg
end
