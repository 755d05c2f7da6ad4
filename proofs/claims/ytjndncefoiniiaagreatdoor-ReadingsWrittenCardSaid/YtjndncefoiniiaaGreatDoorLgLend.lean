/- A part of the proof of a law of this seat: it adds no condition. By an AI agent. -/
import Derived.Maps.RangeRun
import Derived.Test.YtjndncefoiniiaaGreatDoorLgIns
section
set_option linter.all false
namespace Lg
open Go

/-! ### trees that speak of no memory -/
section free
variable {P : Program} {Γ : Ctx} {env env' : Env} {cs cs' cf : List Chunk} {Q : Post} {R : Array Oper}
variable {i : Tmp} {ty : TypeId} {pos : String} {af : Array Edge} {rest : List Oper}
variable {x y z : Operand} {T : TypeId} {k : IntKind} {p q : Int}
def FreeT (t : Tr) : Prop := ∀ (w : World) (A : Nat → Prop) (w' : World) (A' : Nat → Prop) (v : Value), t.rd w A v → t.rd w' A' v
inductive FreeL : List Tr → Prop
  | nil : FreeL []
  | cons {t : Tr} {ts : List Tr} (h : FreeT t) (k : FreeL ts) : FreeL (t :: ts)
theorem FreeT.any : FreeT Tr.any := by
  intro w A w' A' v _
  unfold Tr.any
  trivial
theorem FreeT.raw {v0 : Value} : FreeT (Tr.raw v0) := raw_free
theorem FreeL.rdc {w w' : World} {A A' : Nat → Prop} {ts : List Tr} (h : FreeL ts) : ∀ {vs : List Value}, RdC w A ts vs → RdC w' A' ts vs := by
  induction h with
  | nil => exact fun h => h
  | cons h _ ih =>
    rintro vs ⟨v, vs', rfl, h1, h2, h3⟩
    exact ⟨v, vs', rfl, h _ _ _ _ _ h1, h2, ih h3⟩
theorem FreeL.rdl {w w' : World} {A A' : Nat → Prop} {ts : List Tr} (h : FreeL ts) : ∀ {vs : List Value}, RdL w A ts vs → RdL w' A' ts vs := by
  induction h with
  | nil => exact fun h => h
  | cons h _ ih =>
    rintro vs ⟨v, vs', rfl, h1, h3⟩
    exact ⟨v, vs', rfl, h _ _ _ _ _ h1, ih h3⟩
theorem FreeT.agg {ts : List Tr} (h : FreeL ts) : FreeT (.agg ts) := by
  intro w A w' A' v hr
  unfold Tr.agg at hr ⊢
  obtain ⟨vs, e, hr⟩ := hr
  exact ⟨vs, e, h.rdc hr⟩
theorem FreeT.tup {ts : List Tr} (h : FreeL ts) : FreeT (.tup ts) := by
  intro w A w' A' v hr
  unfold Tr.tup at hr ⊢
  obtain ⟨vs, e, hr⟩ := hr
  exact ⟨vs, e, h.rdl hr⟩
theorem Imp.any {t : Tr} : Imp t Tr.any := by
  intro w A v _
  unfold Tr.any
  trivial
theorem ImpL.rdl {w : World} {A : Nat → Prop} {ts ts' : List Tr} (h : ImpL ts ts') : ∀ {vs : List Value}, RdL w A ts vs → RdL w A ts' vs := by
  induction h with
  | nil => exact fun h => h
  | cons h _ ih =>
    rintro vs ⟨v, vs', rfl, h1, h3⟩
    exact ⟨v, vs', rfl, h _ _ _ h1, ih h3⟩
theorem Imp.tup {ts ts' : List Tr} (h : ImpL ts ts') : Imp (.tup ts) (.tup ts') := by
  intro w A v hr
  unfold Tr.tup at hr ⊢
  obtain ⟨vs, e, hr⟩ := hr
  exact ⟨vs, e, h.rdl hr⟩
theorem PFn.imp {f : FuncId} {args : List Tr} {t t' : Tr} (h : PFn P f args (· = t)) (hi : Imp t t') : PFn P f args (· = t') := by
  unfold PFn Spec at h ⊢
  obtain ⟨h1, h2⟩ := h
  refine ⟨h1, fun M w vs hr hch hnd hlt hM => (h2 M w vs hr hch hnd hlt hM).mono ?_⟩
  rintro e w' ⟨v, r, cs', rfl, ⟨rfl, rfl⟩, hrd, h3⟩
  exact ⟨v, t', [], rfl, ⟨rfl, rfl⟩, hi _ _ _ hrd, h3⟩

/-- the tail of an owned slice is forgotten -/
theorem Ent.own_take {ad : Option Addr} {cap kk : Nat} {e : TypeId} {rows : List (List Tr)} (n : Nat) (hp : cs.Perm (Chunk.own ad cap kk e rows :: cf)) (hn : n ≤ rows.length) : Ent Γ env cs env (Chunk.own ad cap kk e (rows.take n) :: cf) := by
  unfold Ent
  intro a w d
  have d := d.perm hp
  have hf : ∀ rows : List (List Tr), (Chunk.own ad cap kk e rows).fp = ad.toList.map (·.block) := by
    intro rows
    unfold Chunk.own
    cases ad <;> simp [Value.ownBlock]
  have hfp : fps (Chunk.own ad cap kk e (rows.take n) :: cf) = fps (Chunk.own ad cap kk e rows :: cf) := by
    simp only [fps, List.flatMap_cons, hf]
  refine d.swapc hfp ?_
  intro c hc
  rcases List.mem_cons.1 hc with rfl | hc
  · exact own_head n hn (d.chunks (Chunk.own ad cap kk e rows) (by simp))
  · exact d.chunks c (List.mem_cons_of_mem _ hc)
theorem Ent.own_head {ad : Option Addr} {cap kk : Nat} {e : TypeId} {rows rows' : List (List Tr)} (n : Nat) (he : rows.take n = rows') (hp : cs.Perm (Chunk.own ad cap kk e rows :: cf)) (hn : n ≤ rows.length) : Ent Γ env cs env (Chunk.own ad cap kk e rows' :: cf) := by
  subst he
  exact Ent.own_take n hp hn
end free
end Lg
end
section
set_option linter.all false
namespace Lg
open Go Go.ChangeMaps

/-! ### maps: an owned block of entries, in the order in which they came -/
section maps
variable {P : Program} {Γ : Ctx} {env env' : Env} {cs cs' cf : List Chunk} {Q : Post} {R : Array Oper}
variable {i : Tmp} {ty : TypeId} {pos : String} {af : Array Edge} {rest : List Oper}
variable {x y z : Operand} {T : TypeId}
variable {α : Type} [DecidableEq α] {enc : α → Value}

/-- a type of keys: equality is seen at once, hashing never fails -/
class KeyTy (P : Program) (K : TypeId) (enc : α → Value) : Prop where
  desc : ∃ d, P.underlying K = some d ∧ ∀ a b, Instr.sameNow d (enc a) (enc b) = some (decide (a = b))
  chk : ∀ e a w, (Instr.checkKey e 10000 K (enc a)).run P w = .ok () w
  bits : ∀ a, Instr.sameBits 10000 (enc a) (enc a) = true
/-- a map type: its keys, and the zero value of its elements -/
class TyMap (P : Program) (T : TypeId) (K E : outParam TypeId) (z : outParam Value) : Prop where
  hT : P.underlying T = some (.map K E)
  hz : ∃ i, P.info? E = some i ∧ i.zero = some z

inductive EsR (w : World) (A : Nat → Prop) (enc : α → Value) : List (α × Tr) → List MapEntry → Prop
  | nil : EsR w A enc [] []
  | cons {a : α} {t : Tr} {ps : List (α × Tr)} {e : MapEntry} {es : List MapEntry} (hk : e.key = enc a) (hv : t.rd w A e.val) (r : EsR w A enc ps es) : EsR w A enc ((a, t) :: ps) (e :: es)
theorem EsR.mono {w w' : World} {A A' : Nat → Prop} {kv : List (α × Tr)} {es : List MapEntry} (h : EsR w A enc kv es) (hs : SameOn w w' A A') : EsR w' A' enc kv es := by
  induction h with
  | nil => exact .nil
  | cons hk hv _ ih => exact .cons hk (Tr.mono _ hs hv) ih
/-- an owned map -/
def borns (es : List MapEntry) : List Nat := es.map fun e => e.born
def Chunk.mp (enc : α → Value) (b : Nat) (kv : List (α × Tr)) : Chunk :=
  ⟨[b], fun w A => ∃ es clock, w.heap[b]? = some (.map es clock) ∧ EsR w A enc kv es.toList ∧ (borns es.toList).Pairwise (· < ·) ∧ (∀ e ∈ es.toList, e.born < clock),
   fun hb h ⟨es, clock, e, hr, h1, h2⟩ => ⟨es, clock, (hb b (by simp) (Array.getElem?_eq_some_iff.1 e).1).trans e, hr.mono h, h1, h2⟩⟩

theorem run_getMap {w : World} {b : Nat} {es : Array MapEntry} {c : Nat} (h : w.heap[b]? = some (.map es c)) : (getObj b).run P w = .ok (.map es c) w := by
  simp [getObj, Sem.run, h]
/-! ### ranging over a map: what is left comes in any order -/
theorem EsR.at {w : World} {A : Nat → Prop} {kv : List (α × Tr)} {es : List MapEntry} (h : EsR w A enc kv es) : ∀ {j : Nat} {e : MapEntry}, es[j]? = some e → ∃ a t, kv[j]? = some (a, t) ∧ e.key = enc a ∧ t.rd w A e.val := by
  induction h with
  | nil => intro j e h; simp at h
  | @cons a t ps e0 es hk hv _ ih =>
    intro j e h
    cases j with
    | zero =>
      simp at h
      subst h
      exact ⟨a, t, rfl, hk, hv⟩
    | succ j =>
      obtain ⟨a, t, h1, h2⟩ := ih (j := j) (e := e) (by simpa using h)
      exact ⟨a, t, by simpa using h1, h2⟩
theorem EsR.len {w : World} {A : Nat → Prop} {kv : List (α × Tr)} {es : List MapEntry} (h : EsR w A enc kv es) : kv.length = es.length := by
  induction h with
  | nil => rfl
  | cons _ _ _ ih => simp [ih]
theorem EsR.erase {w : World} {A : Nat → Prop} {kv : List (α × Tr)} {es : List MapEntry} (h : EsR w A enc kv es) : ∀ j : Nat, EsR w A enc (kv.eraseIdx j) (es.eraseIdx j) := by
  induction h with
  | nil => intro j; exact .nil
  | cons hk hv hr ih =>
    intro j
    cases j with
    | zero => exact hr
    | succ j => exact .cons hk hv (ih j)
/-- what an iterator has not seen -/
def unseen (seen : Array Nat) (es : List MapEntry) : List MapEntry := es.filter fun e => !seen.contains e.born
def Chunk.rg (enc : α → Value) (b r : Nat) (kv left : List (α × Tr)) : Chunk :=
  ⟨[b, r], fun w A => ∃ es clock seen, w.heap[b]? = some (.map es clock) ∧ EsR w A enc kv es.toList ∧ (borns es.toList).Pairwise (· < ·) ∧ (∀ e ∈ es.toList, e.born < clock) ∧
      w.heap[r]? = some (.mapIter (some b) clock seen clock) ∧ EsR w A enc left (unseen seen es.toList),
   fun hb h ⟨es, clock, seen, e, hr, h1, h2, h3, h4⟩ => ⟨es, clock, seen, (hb b (by simp) (Array.getElem?_eq_some_iff.1 e).1).trans e, hr.mono h, h1, h2, (hb r (by simp) (Array.getElem?_eq_some_iff.1 h3).1).trans h3, h4.mono h⟩⟩
theorem Ops.range {K E : TypeId} {zv : Value} [hT : TyMap P T K E zv] {b : Nat} {kv : List (α × Tr)} (hx : ev env x = some (.raw (.map (some b)))) (hp : cs.Perm (Chunk.mp enc b kv :: cf)) (hi : Nat.blt i Γ.n = true)
    (kont : ∀ r, Ops P Γ R rest ((i, .raw (.pointer (some ⟨r, 0, none⟩))) :: env) (Chunk.rg enc b r kv kv :: cf) Q) : Ops P Γ R (⟨some i, .range T x, ty, pos, af, none⟩ :: rest) env cs Q :=
  Ops.of fun a w d => by
    have hv := rd_raw (d.ev hx)
    have d := d.perm hp
    obtain ⟨es, clock, hb, hr, h1, h2⟩ := d.has (List.Perm.refl _)
    have hlt : b < w.heap.size := (Array.getElem?_eq_some_iff.1 hb).1
    have hsz : (w.alloc (.mapIter (some b) clock #[] clock)).heap.size = w.heap.size + 1 := by simp
    have hd : Den Γ env (Chunk.rg enc b w.heap.size kv kv :: cf) a (w.alloc (.mapIter (some b) clock #[] clock)) := by
      refine d.turnF (fun q hq => ?_) (by simp [Chunk.rg]; omega) ⟨rfl, rfl, rfl, by omega, fun q hq _ => (MapKept.heap_alloc w _).2 q hq, fun _ => Nat.le_refl _⟩ ?_
      · simp only [Chunk.rg, List.mem_cons, List.not_mem_nil, or_false] at hq
        rcases hq with rfl | rfl
        · exact .inl (by simp [Chunk.mp])
        · exact .inr ⟨Nat.le_refl _, by omega⟩
      · intro hs _
        refine ⟨es, clock, #[], ((MapKept.heap_alloc w _).2 b hlt).trans hb, hr.mono hs, h1, h2, (MapKept.heap_alloc w _).1, ?_⟩
        have : unseen #[] es.toList = es.toList := by simp [unseen]
        rw [this]
        exact hr.mono hs
    exact ⟨_, _, _, _, by simp [execOp, hv, Instr.range, run_underlying hT.hT, run_getMap hb, newObj] <;> rfl, .inl ⟨_, rfl, hd.put hi (raw_self _)⟩, kont _⟩
theorem unseen_push {seen : Array Nat} {es : List MapEntry} (hb : (borns es).Pairwise (· < ·)) {e : MapEntry} {j : Nat} (hj : (unseen seen es)[j]? = some e) : unseen (seen.push e.born) es = (unseen seen es).eraseIdx j := by
  have hsub : (borns (unseen seen es)).Pairwise (· < ·) := by
    unfold unseen borns
    exact hb.sublist ((List.filter_sublist).map _)
  have h1 : unseen (seen.push e.born) es = (unseen seen es).filter fun x => !(x.born == e.born) := by
    unfold unseen
    rw [List.filter_filter]
    congr 1
    funext x
    simp only [Array.contains_push, Bool.not_or]
    rw [Bool.and_comm]
  rw [h1]
  generalize unseen seen es = U at *
  clear h1
  induction U generalizing j with
  | nil => simp at hj
  | cons x U ih =>
    rw [show borns (x :: U) = x.born :: borns U from rfl, List.pairwise_cons] at hsub
    cases j with
    | zero =>
      simp at hj
      subst hj
      rw [List.filter_cons]
      simp only [beq_self_eq_true, Bool.not_true, Bool.false_eq_true, if_false, List.eraseIdx_cons_zero]
      rw [List.filter_eq_self]
      intro y hy
      have := hsub.1 y.born (List.mem_map.2 ⟨y, hy, rfl⟩)
      simp
      omega
    | succ j =>
      have hj' : U[j]? = some e := by simpa using hj
      have hm := hsub.1 e.born (List.mem_map.2 ⟨e, List.mem_of_getElem? hj', rfl⟩)
      rw [List.filter_cons]
      have hne : (x.born == e.born) = false := by simp; omega
      rw [hne]
      simp only [Bool.not_false, if_true, List.eraseIdx_cons_succ]
      rw [ih hj' hsub.2]
/-- the next entry: any that is left -/
theorem Ops.next {b r : Nat} {kv left : List (α × Tr)} (hx : ev env x = some (.raw (.pointer (some ⟨r, 0, none⟩)))) (hp : cs.Perm (Chunk.rg enc b r kv left :: cf)) (hi : Nat.blt i Γ.n = true)
    (kend : left = [] → Ops P Γ R rest ((i, .tup [.bool false]) :: env) (Chunk.mp enc b kv :: cf) Q)
    (kont : ∀ j a t, left[j]? = some (a, t) → Ops P Γ R rest ((i, .tup [.bool true, .raw (enc a), t]) :: env) (Chunk.rg enc b r kv (left.eraseIdx j) :: cf) Q) : Ops P Γ R (⟨some i, .next x false, ty, pos, af, none⟩ :: rest) env cs Q :=
  Ops.of fun ac w d => by
    have hv := rd_raw (d.ev hx)
    have d := d.perm hp
    obtain ⟨es, clock, seen, hb, hr, h1, h2, h3, h4⟩ := d.has (List.Perm.refl _)
    have hle : (leftOf es seen).toList = unseen seen es.toList := by
      simp [leftOf, unseen, Array.toList_filter]
    have hnd := d.nodup
    simp only [fps, List.flatMap_cons, Chunk.rg] at hnd
    have hbr : b ≠ r := by
      intro e
      subst e
      simp at hnd
    rcases run_next_at (P := P) w ty r b clock clock seen es clock h3 hb h2 (Nat.le_refl _) with ⟨g1, g2⟩ | ⟨e, g1, w1, g2, g3⟩
    · have hl0 : left = [] := by
        have e1 : (unseen seen es.toList) = [] := by
          rw [← hle]
          have := Array.eq_empty_of_size_eq_zero g1
          rw [this]
        rw [e1] at h4
        cases h4
        rfl
      have hd : Den Γ env (Chunk.mp enc b kv :: cf) ac w := by
        refine d.turnF (c' := Chunk.mp enc b kv) (fun q hq => .inl (by simp [Chunk.mp] at hq; simp [Chunk.rg, hq])) (by simp [Chunk.mp]) (Frm.refl _ _) ?_
        intro hs _
        exact ⟨es, clock, hb, hr.mono hs, h1, h2⟩
      refine ⟨_, _, .value (.tuple #[.bool false]), w, by simp [execOp, hv, g2] <;> rfl, .inl ⟨_, rfl, hd.put hi ?_⟩, kend hl0⟩
      unfold Tr.tup
      exact ⟨[.bool false], rfl, .bool false, [], rfl, raw_self _, rfl⟩
    · rw [hle] at g1
      obtain ⟨j, hj, hje⟩ := List.getElem_of_mem g1
      have hj2 : (unseen seen es.toList)[j]? = some e := by rw [List.getElem?_eq_getElem hj, hje]
      obtain ⟨a, t, q1, q2, q3⟩ := h4.at hj2
      have hw1 : w1.heap = w.heap ∧ w1.os = w.os ∧ w1.tape = w.tape ∧ w1.output = w.output := by
        rcases g2 with rfl | rfl <;> exact ⟨rfl, rfl, rfl, rfl⟩
      have hrlt : r < w.heap.size := (Array.getElem?_eq_some_iff.1 h3).1
      have hother : ∀ q, q ≠ r → (setBlock w1 r (.mapIter (some b) clock (seen.push e.born) clock)).heap[q]? = w.heap[q]? := by
        intro q hq
        simp only [setBlock, hw1.1]
        rw [Array.getElem?_setIfInBounds_ne (Ne.symm hq)]
      have hsame : (setBlock w1 r (.mapIter (some b) clock (seen.push e.born) clock)).heap[r]? = some (.mapIter (some b) clock (seen.push e.born) clock) := by
        simp only [setBlock, hw1.1]
        rw [Array.getElem?_setIfInBounds_self]
        simp [hrlt]
      have hd : SameOn w (setBlock w1 r (.mapIter (some b) clock (seen.push e.born) clock)) (av Γ.M (Chunk.rg enc b r kv left :: cf)) (av Γ.M (Chunk.rg enc b r kv (left.eraseIdx j) :: cf)) ∧ Den Γ env (Chunk.rg enc b r kv (left.eraseIdx j) :: cf) ac (setBlock w1 r (.mapIter (some b) clock (seen.push e.born) clock)) := by
        have hs : SameOn w (setBlock w1 r (.mapIter (some b) clock (seen.push e.born) clock)) (av Γ.M (Chunk.rg enc b r kv left :: cf)) (av Γ.M (Chunk.rg enc b r kv (left.eraseIdx j) :: cf)) := by
          intro q hq ⟨m1, m2⟩
          refine ⟨⟨m1, by simpa [fps, Chunk.rg] using m2⟩, hother q fun e => m2 (by subst e; simp [fps, Chunk.rg])⟩
        refine ⟨hs, d.turn rfl (fun q hq hn => hother q fun e => hn (by subst e; simp [Chunk.rg])) (by simp [setBlock, hw1.1]) hw1.2.1 hw1.2.2.1 hw1.2.2.2 ?_ (fun _ => by rcases g2 with rfl | rfl; exact Nat.le_refl _; exact Nat.le_succ _)⟩
        intro hs _
        refine ⟨es, clock, seen.push e.born, (hother b hbr).trans hb, hr.mono hs, h1, h2, hsame, ?_⟩
        rw [unseen_push h1 hj2]
        exact (h4.erase j).mono hs
      refine ⟨_, _, .value (.tuple #[.bool true, e.key, e.val]), _, by simp [execOp, hv, g3] <;> rfl, .inl ⟨_, rfl, hd.2.put hi ?_⟩, kont j a t q1⟩
      unfold Tr.tup
      exact ⟨[.bool true, e.key, e.val], rfl, .bool true, _, rfl, raw_self _, e.key, _, rfl, by rw [q2]; exact raw_self _, e.val, [], rfl, Tr.mono _ hd.1 q3, rfl⟩
theorem ba_beq (a b : ByteArray) : (a == b) = decide (a = b) := by
  rw [Bool.eq_iff_iff, decide_eq_true_iff]
  constructor
  · intro h
    cases a with
    | mk a =>
      cases b with
      | mk b =>
        have : a == b := h
        rw [eq_of_beq this]
  · rintro rfl
    exact ba_self a
theorem KeyTy.str {K : TypeId} (h : P.underlying K = some .string) : KeyTy P K Value.string where
  desc := ⟨_, h, fun a b => by simp [Instr.sameNow, ba_beq]⟩
  chk := fun e a w => by
    unfold Instr.checkKey
    simp [run_underlying h]
  bits := fun a => by simp [Instr.sameBits, ba_self]
theorem KeyTy.int {K : TypeId} {k : IntKind} (h : P.underlying K = some (.int k)) : KeyTy P K (Value.int k) where
  desc := ⟨_, h, fun a b => by
    simp only [Instr.sameNow, if_true]
    rw [Option.some.injEq, Bool.eq_iff_iff]
    simp⟩
  chk := fun e a w => by
    unfold Instr.checkKey
    simp [run_underlying h]
  bits := fun a => by simp [Instr.sameBits]
end maps
end Lg
end
section
set_option linter.all false
namespace Lg
open Go

/-! ### an owned slice lent to a function that writes nothing of it -/
section lend
variable {P : Program}
/-- a chunk that speaks of its own blocks alone -/
def FreeC (c : Chunk) : Prop := ∀ (w : World) (A A' : Nat → Prop), c.holds w A → c.holds w A'
theorem FreeC.own {ad : Option Addr} {cap k : Nat} {E : TypeId} {rows : List (List Tr)} (h : FreeL rows.flatten) : FreeC (Chunk.own ad cap k E rows) := by
  intro w A A' hh
  unfold Chunk.own at hh ⊢
  obtain ⟨hk, xs, ho, hrx⟩ := hh
  exact ⟨hk, xs, ho, h.rdc hrx⟩
theorem FreeL.intRows (l : List Int) : FreeL (intRows l).flatten := by
  unfold Lg.intRows
  induction l with
  | nil => exact .nil
  | cons x l ih =>
    rw [List.map_cons, List.flatten_cons]
    exact .cons FreeT.raw ih
theorem Spec.lend {f : FuncId} {pre suf : List Tr} {C : List Chunk} {kk E n cap : Nat} {ad : Option Addr} {rows : List (List Tr)} {post : Tr → List Chunk → Prop} (h : Spec P f (pre ++ .sl kk rows :: suf) C post) (hn : n = rows.length)
    (hfr : ∀ r cs, post r cs → FreeT r ∧ ∀ c ∈ cs, FreeC c) :
    Spec P f (pre ++ Tr.raw (.slice ad n cap) :: suf) (Chunk.own ad cap kk E rows :: C) (fun r cs => ∃ cs0, cs = Chunk.own ad cap kk E rows :: cs0 ∧ post r cs0) := by
  subst hn
  unfold Spec at h ⊢
  obtain ⟨h1, h2⟩ := h
  refine ⟨h1, fun M w vs hr hch hnd hlt hM => ?_⟩
  have hfp : (Chunk.own ad cap kk E rows).fp = (Value.ownBlock (.slice ad rows.length cap)).toList := by unfold Chunk.own; simp
  have hfps : ∀ L, fps (Chunk.own ad cap kk E rows :: L) = (Chunk.own ad cap kk E rows).fp ++ fps L := fun L => by simp [fps]
  have hs : SameOn w w (av M (Chunk.own ad cap kk E rows :: C)) (av M C) := fun b _ ⟨h1, h2⟩ => ⟨⟨h1, fun hm => h2 (by rw [hfps]; exact List.mem_append.2 (.inr hm))⟩, rfl⟩
  have hown0 := hch (Chunk.own ad cap kk E rows) (by simp)
  have hown := hown0
  unfold Chunk.own at hown
  obtain ⟨hk, xs, ho, hrx⟩ := hown
  rw [hfps] at hnd
  obtain ⟨hnd1, hnd2, hnd3⟩ := List.nodup_append.1 hnd
  have hsl : (Tr.sl kk rows).rd w (av M C) (.slice ad rows.length cap) := by
    unfold Tr.sl
    rcases ho.2 with ⟨e1, e2⟩ | ⟨g, cp, cur, hv, hg, hb, q1, q2, q3, q4⟩
    · simp only [Value.slice.injEq] at e1
      obtain ⟨rfl, _, rfl⟩ := e1
      exact ⟨hk, by simp [e2], none, 0, rfl, by omega, by simp, fun _ => ⟨List.eq_nil_of_length_eq_zero e2, rfl⟩, .inl (List.eq_nil_of_length_eq_zero e2)⟩
    · simp only [Value.slice.injEq] at hv
      obtain ⟨rfl, _, rfl⟩ := hv
      have hg1 : g ∈ (Chunk.own (some ⟨g, 0, none⟩) cap kk E rows).fp := by rw [hfp]; simp [Value.ownBlock]
      have hfr := hlt g (by rw [hfps]; exact List.mem_append.2 (.inl hg1))
      refine ⟨hk, by omega, _, cap, rfl, q1, q2, fun h => absurd h (by simp), .inr ⟨g, 0, rfl, ⟨hfr.2, fun hm => hnd3 g hg1 g hm rfl⟩, cur, E, _, hb, ?_⟩⟩
      rw [List.drop_zero, flat_len hk, q4]
      have hs2 : SameOn w w (av M (Chunk.own (some ⟨g, 0, none⟩) cap kk E rows :: C)) (av M C) := hs
      unfold Chunk.own at hs2
      exact hrx.mono hs2
  have hargs : ∀ (pre : List Tr) (vs : List Value), RdL w (av M (Chunk.own ad cap kk E rows :: C)) (pre ++ Tr.raw (.slice ad rows.length cap) :: suf) vs → RdL w (av M C) (pre ++ .sl kk rows :: suf) vs := by
    intro pre
    induction pre with
    | nil =>
      intro vs hr
      obtain ⟨v, rest, rfl, hv, hr⟩ := hr
      have := rd_raw hv
      subst this
      exact ⟨_, _, rfl, hsl, hr.mono hs⟩
    | cons p pre ih =>
      intro vs hr
      obtain ⟨v, rest, rfl, hv, hr⟩ := hr
      exact ⟨v, rest, rfl, p.mono hs hv, ih rest hr⟩
  refine (h2 M w vs (hargs pre vs hr) (fun c hc => Chunk.mono _ (fun b _ hb => rfl) hs (hch c (List.mem_cons_of_mem _ hc))) hnd2 (fun b hb => hlt b (by rw [hfps]; exact List.mem_append.2 (.inr hb))) hM).mono ?_
  rintro e w' ⟨v, r, cs', rfl, hpost, hrd, hch', hnd', hlt', hfm⟩
  obtain ⟨hfr1, hfr2⟩ := hfr r cs' hpost
  have hold : ∀ b, b ∈ (Chunk.own ad cap kk E rows).fp → b < w.heap.size → w'.heap[b]? = w.heap[b]? := fun b hb hl => hfm.block b hl (fun hm => hnd3 b hb b hm rfl)
  refine ⟨v, r, _, rfl, ⟨cs', rfl, hpost⟩, hfr1 _ _ _ _ _ hrd, ?_, ?_, ?_, ⟨hfm.os, hfm.tape, hfm.output, hfm.size, fun b hb hn => hfm.block b hb (fun hm => hn (by rw [hfps]; exact List.mem_append.2 (.inr hm))), hfm.drawn⟩⟩
  · have hs2 : SameOn w w' (av M (Chunk.own ad cap kk E rows :: C)) (av M (Chunk.own ad cap kk E rows :: cs')) := by
      intro b hb ⟨m1, m2⟩
      rw [hfps] at m2
      refine ⟨⟨m1, fun hm => ?_⟩, hfm.block b hb fun hm => m2 (List.mem_append.2 (.inr hm))⟩
      rw [hfps] at hm
      rcases List.mem_append.1 hm with hm | hm
      · exact m2 (List.mem_append.2 (.inl hm))
      · obtain ⟨_, _, q3⟩ := hlt' b hm
        rcases q3 with q3 | q3
        · exact m2 (List.mem_append.2 (.inr q3))
        · omega
    intro c hc
    rcases List.mem_cons.1 hc with rfl | hc
    · exact Chunk.mono _ (fun b hb hl => hold b hb hl) hs2 hown0
    · exact hfr2 c hc _ _ _ (hch' c hc)
  · rw [hfps]
    refine List.nodup_append.2 ⟨hnd1, hnd', fun b hb d hd hbd => ?_⟩
    subst hbd
    obtain ⟨_, _, q3⟩ := hlt' b hd
    rcases q3 with q3 | q3
    · exact hnd3 b hb b q3 rfl
    · have := (hlt b (by rw [hfps]; exact List.mem_append.2 (.inl hb))).1
      omega
  · intro b hb
    rw [hfps] at hb ⊢
    rcases List.mem_append.1 hb with hb | hb
    · obtain ⟨q1, q2⟩ := hlt b (by rw [hfps]; exact List.mem_append.2 (.inl hb))
      exact ⟨Nat.lt_of_lt_of_le q1 hfm.size, q2, .inl (List.mem_append.2 (.inl hb))⟩
    · obtain ⟨q1, q2, q3⟩ := hlt' b hb
      exact ⟨q1, q2, q3.imp (fun h => List.mem_append.2 (.inr h)) id⟩
end lend
end Lg
end
