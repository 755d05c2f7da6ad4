/- A part of the proof of a law of this seat: it adds no condition. By an AI agent. -/
import Derived.Lib.Overlaps
import Derived.Lib.AppendZerosOnto
import Derived.Maps.RangeRun
import Derived.Test.YtjknjnkkpfeahaaGreatDoorLgNum
section
set_option linter.all false
namespace Lg
open Go

/-! ### copies into owned slices; an element is put into an owned slice -/
section ins
variable {P : Program} {Γ : Ctx} {env env' : Env} {cs cs' cf : List Chunk} {Q : Post} {R : Array Oper} {a : Act} {w : World}
variable {i : Tmp} {ty : TypeId} {pos : String} {af : Array Edge} {rest : List Oper} {x y z : Operand} {T T2 : TypeId} {k : IntKind} {p q : Int}

/-- a slice with elements has an address, and room for them -/
theorem Cw.own_form {c : Code} {ad : Option Addr} {cap kk E : Nat} {rows : List (List Tr)} (hp : cs.Perm (Chunk.own ad cap kk E rows :: cf)) (hne : 0 < rows.length)
    (h : ∀ g, ad = some ⟨g, 0, none⟩ → rows.length ≤ cap → cap ≤ maxLen → Cw P Γ c env cs Q) : Cw P Γ c env cs Q := by
  unfold Cw at h ⊢
  intro a w d
  have hh := (d.perm hp).has (List.Perm.refl _)
  generalize av Γ.M (Chunk.own ad cap kk E rows :: cf) = A at hh
  unfold Chunk.own at hh
  obtain ⟨_, xs, hown, _⟩ := hh
  rcases hown.2 with ⟨e, h0⟩ | ⟨g, c2, cur, e, _, _, h1, h2, _⟩
  · omega
  · simp only [Value.slice.injEq] at e
    obtain ⟨rfl, _, rfl⟩ := e
    exact h g rfl h1 h2 a w d
theorem Ops.own_form {l : List Oper} {ad : Option Addr} {cap kk E : Nat} {rows : List (List Tr)} (hp : cs.Perm (Chunk.own ad cap kk E rows :: cf)) (hne : 0 < rows.length)
    (h : ∀ g, ad = some ⟨g, 0, none⟩ → rows.length ≤ cap → cap ≤ maxLen → Ops P Γ R l env cs Q) : Ops P Γ R l env cs Q := by
  unfold Ops at h ⊢
  intro a w d
  have hh := (d.perm hp).has (List.Perm.refl _)
  generalize av Γ.M (Chunk.own ad cap kk E rows :: cf) = A at hh
  unfold Chunk.own at hh
  obtain ⟨_, xs, hown, _⟩ := hh
  rcases hown.2 with ⟨e, h0⟩ | ⟨g, c2, cur, e, _, _, h1, h2, _⟩
  · omega
  · simp only [Value.slice.injEq] at e
    obtain ⟨rfl, _, rfl⟩ := e
    exact h g rfl h1 h2 a w d
/-! slices of a slice's value: nobody's memory changes -/
/-- elements are laid into the block of an owned slice, from the p-th on; it may grow into its spare room -/
theorem Den.lay {g cap kk E pn : Nat} {rows new : List (List Tr)} {vs : List Value} (d : Den Γ env (Chunk.own (some ⟨g, 0, none⟩) cap kk E rows :: cf) a w)
    (hp : pn ≤ rows.length) (hc : pn + new.length ≤ cap) (hk : ∀ r ∈ new, r.length = kk) (hr : RdC w (av Γ.M (Chunk.own (some ⟨g, 0, none⟩) cap kk E rows :: cf)) new.flatten vs) :
    ∃ cur, w.heap[g]? = some (.cells cur E (0, 0)) ∧ pn * kk + vs.length ≤ cur.size ∧ vs.length = new.length * kk ∧
      Den Γ env (Chunk.own (some ⟨g, 0, none⟩) cap kk E (rows.take pn ++ new ++ rows.drop (pn + new.length)) :: cf) a (w.setRow g (cur.toList.take (pn * kk) ++ vs ++ cur.toList.drop (pn * kk + vs.length)).toArray) := by
  have hh := d.has (List.Perm.refl _)
  have hvl : vs.length = new.length * kk := by rw [hr.length, flat_len hk]
  have hh2 := hh
  generalize hA : av Γ.M (Chunk.own (some ⟨g, 0, none⟩) cap kk E rows :: cf) = A at hh2
  unfold Chunk.own at hh2
  obtain ⟨hkr, xs, hown, hrd⟩ := hh2
  rcases hown.2 with ⟨e, h0⟩ | ⟨g', c2, cur, e, h1, hg, h2, h3, h4, h5⟩
  · simp at e
  simp only [Value.slice.injEq, Option.some.injEq, Addr.mk.injEq] at e
  obtain ⟨⟨rfl, _⟩, _, rfl⟩ := e
  have hle : pn * kk + vs.length ≤ cap * kk := by rw [hvl, ← Nat.add_mul]; exact Nat.mul_le_mul_right _ hc
  have hfpE : ∀ rs, (Chunk.own (some ⟨g, 0, none⟩) cap kk E rs).fp = [g] := fun rs => by unfold Chunk.own; rfl
  refine ⟨cur, hg, by omega, hvl, ?_⟩
  refine d.turn (by rw [hfpE, hfpE]) (fun b hb hn => ?_) (setRow_size _ _ _) (setRow_os _ _ _) (setRow_tape _ _ _) (setRow_output _ _ _) fun hs _ => ?_
  · rw [hfpE] at hn
    exact setRow_other _ _ _ _ (by simpa using hn)
  have hrn := hrd
  rw [← hA] at hrn
  generalize hA2 : av Γ.M (Chunk.own (some ⟨g, 0, none⟩) cap kk E (rows.take pn ++ new ++ rows.drop (pn + new.length)) :: cf) = A2 at hs
  unfold Chunk.own
  have hlen : (rows.take pn ++ new ++ rows.drop (pn + new.length)).length = pn + new.length + (rows.length - (pn + new.length)) := by
    simp only [List.length_append, List.length_take, List.length_drop]
    omega
  have hl2 : pn + new.length + (rows.length - (pn + new.length)) ≤ cap := by omega
  refine ⟨?_, xs.take (pn * kk) ++ vs ++ xs.drop ((pn + new.length) * kk), ?_, ?_⟩
  · intro r hr
    simp only [List.mem_append] at hr
    rcases hr with (h | h) | h
    · exact hkr r (List.mem_of_mem_take h)
    · exact hk r h
    · exact hkr r (List.mem_of_mem_drop h)
  · have hxl := hown.1
    have hpk : pn * kk ≤ rows.length * kk := Nat.mul_le_mul_right _ hp
    have hdrop : xs.drop ((pn + new.length) * kk) = (cur.toList.drop (pn * kk + vs.length)).take ((rows.length - (pn + new.length)) * kk) := by
      rw [← h5, List.drop_take, hvl, ← Nat.add_mul, Nat.sub_mul]
    have htake : xs.take (pn * kk) = cur.toList.take (pn * kk) := by rw [← h5, List.take_take, Nat.min_eq_left hpk]
    have hcl : cur.toList.length = cap * kk := by rw [Array.length_toList]; exact h4
    have htl : (cur.toList.take (pn * kk)).length = pn * kk := by rw [List.length_take, hcl]; omega
    refine ⟨?_, .inr ⟨g, cap, _, by rw [hlen], Nat.zero_le _, setRow_heap w g cur _ E (0, 0) hg, by rw [hlen]; exact hl2, h3, ?_, ?_⟩⟩
    · rw [hlen]
      simp only [List.length_append, List.length_take, List.length_drop, hxl, hvl, Nat.add_mul, Nat.sub_mul]
      omega
    · simp only [List.size_toArray, List.length_append, htl, List.length_drop, hcl]
      omega
    · rw [hlen, htake, hdrop, List.toList_toArray, List.append_assoc, List.append_assoc, List.take_append, htl, List.take_append]
      have e1 : (pn + new.length + (rows.length - (pn + new.length))) * kk - pn * kk = vs.length + (rows.length - (pn + new.length)) * kk := by
        rw [hvl, Nat.add_mul, Nat.add_mul]; omega
      rw [e1, List.take_of_length_le (l := cur.toList.take (pn * kk)) (by rw [htl, Nat.add_mul, Nat.add_mul]; omega), List.take_of_length_le (l := vs) (by omega), Nat.add_sub_cancel_left]
  · rw [List.flatten_append, List.flatten_append, flatten_take hkr, flatten_drop hkr]
    exact ((hrn.take _).mono hs).app (hr.mono hs) |>.app ((hrn.drop _).mono hs)

theorem raw_free {v0 : Value} : ∀ (w : World) (A : Nat → Prop) (w' : World) (A' : Nat → Prop) (v : Value), (Tr.raw v0).rd w A v → (Tr.raw v0).rd w' A' v := fun _ _ _ _ _ h => by
  have := rd_raw h
  subst this
  exact raw_self _

variable {H : (Nat → Value) → (Nat → Bool) → List Chunk} {L : List Oper} {K : Env → List Chunk → Prop} {n : Nat} {l : List Oper} {Pf : Nat → (Nat → Value) → Prop} {d : Nat} {op : Op} {acc : (Nat → Value) → Env}
/-- a drawn region whose first m operations compute, and whose others wait for all before them -/
theorem Cw.region_seqM {id : Nat} {l : List Oper} {env : Env} (m : Nat) (hm : P.follows .mixedOrders = true) (hb : (backOk l && (nodupB (dsts (l.take m)) && (ssaFrom l 0 (l.take m) && (tailOk l m && Nat.ble m l.length)))) = true) (hlt : (dsts (l.take m)).all (Nat.blt · Γ.n) = true)
    (h : PSeq P Γ cs (fun acc => Ops P Γ l.toArray (l.drop m) acc cs Q) 0 [] env (l.take m)) : Cw P Γ (.region id l.toArray true) env cs Q := by
  simp only [Bool.and_eq_true] at hb
  exact Cw.region_at (Nat.le_of_ble_eq_true hb.2.2.2.2) hm hb.1 hb.2.1 hlt hb.2.2.2.1 (PSeq.run hb.1 hb.2.1 hb.2.2.1 Seq.start (fun j => by rw [Nat.zero_add]) h)
/-- a variable of its own is made of a value -/
theorem YSeq.box {T : TypeId} {x : Operand}
    (h : ∀ (ξ : Nat → Value) (S : Nat → Bool), S n = false → (∀ j ∈ preds af, S j = true) → Clo L S → (∀ k, S k = true → Pf k ξ) →
      ∃ (us : List Tr) (t : Tr), ev (rst (slotsOf (.box T x)) (acc ξ)) x = some t ∧ RowT t us ∧ ∀ b, (H (upd ξ n (.pointer (some ⟨b, 0, none⟩))) (updD S n)).Perm (Chunk.box b T us :: H ξ S))
    (k : YSeq P Γ H L K (n + 1) (fun ξ => (d, Tr.raw (.pointer (some ⟨blk (ξ n), 0, none⟩))) :: acc ξ) (pfY n (fun _ => True) Pf) l) : YSeq P Γ H L K n acc Pf (⟨some d, .box T x, ty, pos, af, none⟩ :: l) := by
  refine YSeq.cons PvOkY.triv (TOk.own (T := fun v => Tr.raw (.pointer (some ⟨blk v, 0, none⟩)))) ?_ k
  unfold YStep
  intro ξ S h1 h2 h3 h4 a w dd next F hk
  obtain ⟨us, t, hx, hr, hp⟩ := h ξ S h1 h2 h3 h4
  have hrun : (execOp a.eval ⟨some d, .box T x, ty, pos, af, none⟩).run P w = .ok (.value (.pointer (some ⟨w.heap.size, 0, none⟩))) (w.alloc (.cells (a.eval x).cells T)) := by
    simp [execOp, Instr.box, newVar, newRow] <;> rfl
  refine opIn_of_run hrun ⟨(by intro d h; cases h), (by intro x y h; cases h)⟩ ?_
  refine hk _ _ trivial ?_ fun env2 d2 => ?_
  · simp only [upd_same, blk]
    exact raw_self _
  have hd := d2.newblock (a.eval x).cells T (ts := us) (hr.h _ _ _ (dd.ev hx))
  exact hd.perm (hp _).symm
theorem Cw.own_none {c : Code} {cap kk E : Nat} {rows : List (List Tr)} (hp : cs.Perm (Chunk.own none cap kk E rows :: cf)) (h : rows = [] → cap = 0 → Cw P Γ c env cs Q) : Cw P Γ c env cs Q := by
  unfold Cw at h ⊢
  intro a w d
  have hh := (d.perm hp).has (List.Perm.refl _)
  generalize av Γ.M (Chunk.own none cap kk E rows :: cf) = A at hh
  unfold Chunk.own at hh
  obtain ⟨_, xs, hown, _⟩ := hh
  rcases hown.2 with ⟨e, h0⟩ | ⟨g, c2, cur, e, _⟩
  · simp only [Value.slice.injEq] at e
    exact h (List.eq_nil_of_length_eq_zero h0) e.2.2 a w d
  · simp at e
end ins
end Lg
end
section
set_option linter.all false
namespace Lg
open Go

/-! ### trees that speak of no memory -/
section free
variable {P : Program} {Γ : Ctx} {env env' : Env} {cs cs' cf : List Chunk} {Q : Post} {R : Array Oper}
variable {i : Tmp} {ty : TypeId} {pos : String} {af : Array Edge} {rest : List Oper}
variable {x y z : Operand} {T : TypeId} {k : IntKind} {p q : Int}
def FreeT (t : Tr) : Prop := ∀ (w : World) (A : Nat → Prop) (w' : World) (A' : Nat → Prop) (v : Value), t.rd w A v → t.rd w' A' v
inductive FreeL : List Tr → Prop
  | nil : FreeL []
  | cons {t : Tr} {ts : List Tr} (h : FreeT t) (k : FreeL ts) : FreeL (t :: ts)
theorem FreeT.any : FreeT Tr.any := by
  intro w A w' A' v _
  unfold Tr.any
  trivial
theorem FreeT.raw {v0 : Value} : FreeT (Tr.raw v0) := raw_free
theorem FreeL.rdc {w w' : World} {A A' : Nat → Prop} {ts : List Tr} (h : FreeL ts) : ∀ {vs : List Value}, RdC w A ts vs → RdC w' A' ts vs := by
  induction h with
  | nil => exact fun h => h
  | cons h _ ih =>
    rintro vs ⟨v, vs', rfl, h1, h2, h3⟩
    exact ⟨v, vs', rfl, h _ _ _ _ _ h1, h2, ih h3⟩
theorem FreeL.rdl {w w' : World} {A A' : Nat → Prop} {ts : List Tr} (h : FreeL ts) : ∀ {vs : List Value}, RdL w A ts vs → RdL w' A' ts vs := by
  induction h with
  | nil => exact fun h => h
  | cons h _ ih =>
    rintro vs ⟨v, vs', rfl, h1, h3⟩
    exact ⟨v, vs', rfl, h _ _ _ _ _ h1, ih h3⟩
theorem FreeT.agg {ts : List Tr} (h : FreeL ts) : FreeT (.agg ts) := by
  intro w A w' A' v hr
  unfold Tr.agg at hr ⊢
  obtain ⟨vs, e, hr⟩ := hr
  exact ⟨vs, e, h.rdc hr⟩
theorem FreeT.tup {ts : List Tr} (h : FreeL ts) : FreeT (.tup ts) := by
  intro w A w' A' v hr
  unfold Tr.tup at hr ⊢
  obtain ⟨vs, e, hr⟩ := hr
  exact ⟨vs, e, h.rdl hr⟩
theorem Imp.any {t : Tr} : Imp t Tr.any := by
  intro w A v _
  unfold Tr.any
  trivial
theorem ImpL.rdl {w : World} {A : Nat → Prop} {ts ts' : List Tr} (h : ImpL ts ts') : ∀ {vs : List Value}, RdL w A ts vs → RdL w A ts' vs := by
  induction h with
  | nil => exact fun h => h
  | cons h _ ih =>
    rintro vs ⟨v, vs', rfl, h1, h3⟩
    exact ⟨v, vs', rfl, h _ _ _ h1, ih h3⟩
theorem Imp.tup {ts ts' : List Tr} (h : ImpL ts ts') : Imp (.tup ts) (.tup ts') := by
  intro w A v hr
  unfold Tr.tup at hr ⊢
  obtain ⟨vs, e, hr⟩ := hr
  exact ⟨vs, e, h.rdl hr⟩
theorem PFn.imp {f : FuncId} {args : List Tr} {t t' : Tr} (h : PFn P f args (· = t)) (hi : Imp t t') : PFn P f args (· = t') := by
  unfold PFn Spec at h ⊢
  obtain ⟨h1, h2⟩ := h
  refine ⟨h1, fun M w vs hr hch hnd hlt hM => (h2 M w vs hr hch hnd hlt hM).mono ?_⟩
  rintro e w' ⟨v, r, cs', rfl, ⟨rfl, rfl⟩, hrd, h3⟩
  exact ⟨v, t', [], rfl, ⟨rfl, rfl⟩, hi _ _ _ hrd, h3⟩

/-- the tail of an owned slice is forgotten -/
theorem Ent.own_take {ad : Option Addr} {cap kk : Nat} {e : TypeId} {rows : List (List Tr)} (n : Nat) (hp : cs.Perm (Chunk.own ad cap kk e rows :: cf)) (hn : n ≤ rows.length) : Ent Γ env cs env (Chunk.own ad cap kk e (rows.take n) :: cf) := by
  unfold Ent
  intro a w d
  have d := d.perm hp
  have hf : ∀ rows : List (List Tr), (Chunk.own ad cap kk e rows).fp = ad.toList.map (·.block) := by
    intro rows
    unfold Chunk.own
    cases ad <;> simp [Value.ownBlock]
  have hfp : fps (Chunk.own ad cap kk e (rows.take n) :: cf) = fps (Chunk.own ad cap kk e rows :: cf) := by
    simp only [fps, List.flatMap_cons, hf]
  refine d.swapc hfp ?_
  intro c hc
  rcases List.mem_cons.1 hc with rfl | hc
  · exact own_head n hn (d.chunks (Chunk.own ad cap kk e rows) (by simp))
  · exact d.chunks c (List.mem_cons_of_mem _ hc)
theorem Ent.own_head {ad : Option Addr} {cap kk : Nat} {e : TypeId} {rows rows' : List (List Tr)} (n : Nat) (he : rows.take n = rows') (hp : cs.Perm (Chunk.own ad cap kk e rows :: cf)) (hn : n ≤ rows.length) : Ent Γ env cs env (Chunk.own ad cap kk e rows' :: cf) := by
  subst he
  exact Ent.own_take n hp hn
end free
end Lg
end
section
set_option linter.all false
namespace Lg
open Go Go.ChangeMaps

/-! ### maps: an owned block of entries, in the order in which they came -/
section maps
variable {P : Program} {Γ : Ctx} {env env' : Env} {cs cs' cf : List Chunk} {Q : Post} {R : Array Oper}
variable {i : Tmp} {ty : TypeId} {pos : String} {af : Array Edge} {rest : List Oper}
variable {x y z : Operand} {T : TypeId}
variable {α : Type} [DecidableEq α] {enc : α → Value}

/-- a type of keys: equality is seen at once, hashing never fails -/
class KeyTy (P : Program) (K : TypeId) (enc : α → Value) : Prop where
  desc : ∃ d, P.underlying K = some d ∧ ∀ a b, Instr.sameNow d (enc a) (enc b) = some (decide (a = b))
  chk : ∀ e a w, (Instr.checkKey e 10000 K (enc a)).run P w = .ok () w
  bits : ∀ a, Instr.sameBits 10000 (enc a) (enc a) = true
/-- a map type: its keys, and the zero value of its elements -/
class TyMap (P : Program) (T : TypeId) (K E : outParam TypeId) (z : outParam Value) : Prop where
  hT : P.underlying T = some (.map K E)
  hz : ∃ i, P.info? E = some i ∧ i.zero = some z

inductive EsR (w : World) (A : Nat → Prop) (enc : α → Value) : List (α × Tr) → List MapEntry → Prop
  | nil : EsR w A enc [] []
  | cons {a : α} {t : Tr} {ps : List (α × Tr)} {e : MapEntry} {es : List MapEntry} (hk : e.key = enc a) (hv : t.rd w A e.val) (r : EsR w A enc ps es) : EsR w A enc ((a, t) :: ps) (e :: es)
theorem EsR.mono {w w' : World} {A A' : Nat → Prop} {kv : List (α × Tr)} {es : List MapEntry} (h : EsR w A enc kv es) (hs : SameOn w w' A A') : EsR w' A' enc kv es := by
  induction h with
  | nil => exact .nil
  | cons hk hv _ ih => exact .cons hk (Tr.mono _ hs hv) ih
/-- an owned map -/
def borns (es : List MapEntry) : List Nat := es.map fun e => e.born
def Chunk.mp (enc : α → Value) (b : Nat) (kv : List (α × Tr)) : Chunk :=
  ⟨[b], fun w A => ∃ es clock, w.heap[b]? = some (.map es clock) ∧ EsR w A enc kv es.toList ∧ (borns es.toList).Pairwise (· < ·) ∧ (∀ e ∈ es.toList, e.born < clock),
   fun hb h ⟨es, clock, e, hr, h1, h2⟩ => ⟨es, clock, (hb b (by simp) (Array.getElem?_eq_some_iff.1 e).1).trans e, hr.mono h, h1, h2⟩⟩

theorem run_getMap {w : World} {b : Nat} {es : Array MapEntry} {c : Nat} (h : w.heap[b]? = some (.map es c)) : (getObj b).run P w = .ok (.map es c) w := by
  simp [getObj, Sem.run, h]
/-! ### ranging over a map: what is left comes in any order -/
theorem EsR.at {w : World} {A : Nat → Prop} {kv : List (α × Tr)} {es : List MapEntry} (h : EsR w A enc kv es) : ∀ {j : Nat} {e : MapEntry}, es[j]? = some e → ∃ a t, kv[j]? = some (a, t) ∧ e.key = enc a ∧ t.rd w A e.val := by
  induction h with
  | nil => intro j e h; simp at h
  | @cons a t ps e0 es hk hv _ ih =>
    intro j e h
    cases j with
    | zero =>
      simp at h
      subst h
      exact ⟨a, t, rfl, hk, hv⟩
    | succ j =>
      obtain ⟨a, t, h1, h2⟩ := ih (j := j) (e := e) (by simpa using h)
      exact ⟨a, t, by simpa using h1, h2⟩
theorem EsR.len {w : World} {A : Nat → Prop} {kv : List (α × Tr)} {es : List MapEntry} (h : EsR w A enc kv es) : kv.length = es.length := by
  induction h with
  | nil => rfl
  | cons _ _ _ ih => simp [ih]
theorem EsR.erase {w : World} {A : Nat → Prop} {kv : List (α × Tr)} {es : List MapEntry} (h : EsR w A enc kv es) : ∀ j : Nat, EsR w A enc (kv.eraseIdx j) (es.eraseIdx j) := by
  induction h with
  | nil => intro j; exact .nil
  | cons hk hv hr ih =>
    intro j
    cases j with
    | zero => exact hr
    | succ j => exact .cons hk hv (ih j)
/-- what an iterator has not seen -/
def unseen (seen : Array Nat) (es : List MapEntry) : List MapEntry := es.filter fun e => !seen.contains e.born
def Chunk.rg (enc : α → Value) (b r : Nat) (kv left : List (α × Tr)) : Chunk :=
  ⟨[b, r], fun w A => ∃ es clock seen, w.heap[b]? = some (.map es clock) ∧ EsR w A enc kv es.toList ∧ (borns es.toList).Pairwise (· < ·) ∧ (∀ e ∈ es.toList, e.born < clock) ∧
      w.heap[r]? = some (.mapIter (some b) clock seen clock) ∧ EsR w A enc left (unseen seen es.toList),
   fun hb h ⟨es, clock, seen, e, hr, h1, h2, h3, h4⟩ => ⟨es, clock, seen, (hb b (by simp) (Array.getElem?_eq_some_iff.1 e).1).trans e, hr.mono h, h1, h2, (hb r (by simp) (Array.getElem?_eq_some_iff.1 h3).1).trans h3, h4.mono h⟩⟩
theorem Ops.range {K E : TypeId} {zv : Value} [hT : TyMap P T K E zv] {b : Nat} {kv : List (α × Tr)} (hx : ev env x = some (.raw (.map (some b)))) (hp : cs.Perm (Chunk.mp enc b kv :: cf)) (hi : Nat.blt i Γ.n = true)
    (kont : ∀ r, Ops P Γ R rest ((i, .raw (.pointer (some ⟨r, 0, none⟩))) :: env) (Chunk.rg enc b r kv kv :: cf) Q) : Ops P Γ R (⟨some i, .range T x, ty, pos, af, none⟩ :: rest) env cs Q :=
  Ops.of fun a w d => by
    have hv := rd_raw (d.ev hx)
    have d := d.perm hp
    obtain ⟨es, clock, hb, hr, h1, h2⟩ := d.has (List.Perm.refl _)
    have hlt : b < w.heap.size := (Array.getElem?_eq_some_iff.1 hb).1
    have hsz : (w.alloc (.mapIter (some b) clock #[] clock)).heap.size = w.heap.size + 1 := by simp
    have hd : Den Γ env (Chunk.rg enc b w.heap.size kv kv :: cf) a (w.alloc (.mapIter (some b) clock #[] clock)) := by
      refine d.turnF (fun q hq => ?_) (by simp [Chunk.rg]; omega) ⟨rfl, rfl, rfl, by omega, fun q hq _ => (MapKept.heap_alloc w _).2 q hq, fun _ => Nat.le_refl _⟩ ?_
      · simp only [Chunk.rg, List.mem_cons, List.not_mem_nil, or_false] at hq
        rcases hq with rfl | rfl
        · exact .inl (by simp [Chunk.mp])
        · exact .inr ⟨Nat.le_refl _, by omega⟩
      · intro hs _
        refine ⟨es, clock, #[], ((MapKept.heap_alloc w _).2 b hlt).trans hb, hr.mono hs, h1, h2, (MapKept.heap_alloc w _).1, ?_⟩
        have : unseen #[] es.toList = es.toList := by simp [unseen]
        rw [this]
        exact hr.mono hs
    exact ⟨_, _, _, _, by simp [execOp, hv, Instr.range, run_underlying hT.hT, run_getMap hb, newObj] <;> rfl, .inl ⟨_, rfl, hd.put hi (raw_self _)⟩, kont _⟩
theorem unseen_push {seen : Array Nat} {es : List MapEntry} (hb : (borns es).Pairwise (· < ·)) {e : MapEntry} {j : Nat} (hj : (unseen seen es)[j]? = some e) : unseen (seen.push e.born) es = (unseen seen es).eraseIdx j := by
  have hsub : (borns (unseen seen es)).Pairwise (· < ·) := by
    unfold unseen borns
    exact hb.sublist ((List.filter_sublist).map _)
  have h1 : unseen (seen.push e.born) es = (unseen seen es).filter fun x => !(x.born == e.born) := by
    unfold unseen
    rw [List.filter_filter]
    congr 1
    funext x
    simp only [Array.contains_push, Bool.not_or]
    rw [Bool.and_comm]
  rw [h1]
  generalize unseen seen es = U at *
  clear h1
  induction U generalizing j with
  | nil => simp at hj
  | cons x U ih =>
    rw [show borns (x :: U) = x.born :: borns U from rfl, List.pairwise_cons] at hsub
    cases j with
    | zero =>
      simp at hj
      subst hj
      rw [List.filter_cons]
      simp only [beq_self_eq_true, Bool.not_true, Bool.false_eq_true, if_false, List.eraseIdx_cons_zero]
      rw [List.filter_eq_self]
      intro y hy
      have := hsub.1 y.born (List.mem_map.2 ⟨y, hy, rfl⟩)
      simp
      omega
    | succ j =>
      have hj' : U[j]? = some e := by simpa using hj
      have hm := hsub.1 e.born (List.mem_map.2 ⟨e, List.mem_of_getElem? hj', rfl⟩)
      rw [List.filter_cons]
      have hne : (x.born == e.born) = false := by simp; omega
      rw [hne]
      simp only [Bool.not_false, if_true, List.eraseIdx_cons_succ]
      rw [ih hj' hsub.2]
/-- the next entry: any that is left -/
theorem Ops.next {b r : Nat} {kv left : List (α × Tr)} (hx : ev env x = some (.raw (.pointer (some ⟨r, 0, none⟩)))) (hp : cs.Perm (Chunk.rg enc b r kv left :: cf)) (hi : Nat.blt i Γ.n = true)
    (kend : left = [] → Ops P Γ R rest ((i, .tup [.bool false]) :: env) (Chunk.mp enc b kv :: cf) Q)
    (kont : ∀ j a t, left[j]? = some (a, t) → Ops P Γ R rest ((i, .tup [.bool true, .raw (enc a), t]) :: env) (Chunk.rg enc b r kv (left.eraseIdx j) :: cf) Q) : Ops P Γ R (⟨some i, .next x false, ty, pos, af, none⟩ :: rest) env cs Q :=
  Ops.of fun ac w d => by
    have hv := rd_raw (d.ev hx)
    have d := d.perm hp
    obtain ⟨es, clock, seen, hb, hr, h1, h2, h3, h4⟩ := d.has (List.Perm.refl _)
    have hle : (leftOf es seen).toList = unseen seen es.toList := by
      simp [leftOf, unseen, Array.toList_filter]
    have hnd := d.nodup
    simp only [fps, List.flatMap_cons, Chunk.rg] at hnd
    have hbr : b ≠ r := by
      intro e
      subst e
      simp at hnd
    rcases run_next_at (P := P) w ty r b clock clock seen es clock h3 hb h2 (Nat.le_refl _) with ⟨g1, g2⟩ | ⟨e, g1, w1, g2, g3⟩
    · have hl0 : left = [] := by
        have e1 : (unseen seen es.toList) = [] := by
          rw [← hle]
          have := Array.eq_empty_of_size_eq_zero g1
          rw [this]
        rw [e1] at h4
        cases h4
        rfl
      have hd : Den Γ env (Chunk.mp enc b kv :: cf) ac w := by
        refine d.turnF (c' := Chunk.mp enc b kv) (fun q hq => .inl (by simp [Chunk.mp] at hq; simp [Chunk.rg, hq])) (by simp [Chunk.mp]) (Frm.refl _ _) ?_
        intro hs _
        exact ⟨es, clock, hb, hr.mono hs, h1, h2⟩
      refine ⟨_, _, .value (.tuple #[.bool false]), w, by simp [execOp, hv, g2] <;> rfl, .inl ⟨_, rfl, hd.put hi ?_⟩, kend hl0⟩
      unfold Tr.tup
      exact ⟨[.bool false], rfl, .bool false, [], rfl, raw_self _, rfl⟩
    · rw [hle] at g1
      obtain ⟨j, hj, hje⟩ := List.getElem_of_mem g1
      have hj2 : (unseen seen es.toList)[j]? = some e := by rw [List.getElem?_eq_getElem hj, hje]
      obtain ⟨a, t, q1, q2, q3⟩ := h4.at hj2
      have hw1 : w1.heap = w.heap ∧ w1.os = w.os ∧ w1.tape = w.tape ∧ w1.output = w.output := by
        rcases g2 with rfl | rfl <;> exact ⟨rfl, rfl, rfl, rfl⟩
      have hrlt : r < w.heap.size := (Array.getElem?_eq_some_iff.1 h3).1
      have hother : ∀ q, q ≠ r → (setBlock w1 r (.mapIter (some b) clock (seen.push e.born) clock)).heap[q]? = w.heap[q]? := by
        intro q hq
        simp only [setBlock, hw1.1]
        rw [Array.getElem?_setIfInBounds_ne (Ne.symm hq)]
      have hsame : (setBlock w1 r (.mapIter (some b) clock (seen.push e.born) clock)).heap[r]? = some (.mapIter (some b) clock (seen.push e.born) clock) := by
        simp only [setBlock, hw1.1]
        rw [Array.getElem?_setIfInBounds_self]
        simp [hrlt]
      have hd : SameOn w (setBlock w1 r (.mapIter (some b) clock (seen.push e.born) clock)) (av Γ.M (Chunk.rg enc b r kv left :: cf)) (av Γ.M (Chunk.rg enc b r kv (left.eraseIdx j) :: cf)) ∧ Den Γ env (Chunk.rg enc b r kv (left.eraseIdx j) :: cf) ac (setBlock w1 r (.mapIter (some b) clock (seen.push e.born) clock)) := by
        have hs : SameOn w (setBlock w1 r (.mapIter (some b) clock (seen.push e.born) clock)) (av Γ.M (Chunk.rg enc b r kv left :: cf)) (av Γ.M (Chunk.rg enc b r kv (left.eraseIdx j) :: cf)) := by
          intro q hq ⟨m1, m2⟩
          refine ⟨⟨m1, by simpa [fps, Chunk.rg] using m2⟩, hother q fun e => m2 (by subst e; simp [fps, Chunk.rg])⟩
        refine ⟨hs, d.turn rfl (fun q hq hn => hother q fun e => hn (by subst e; simp [Chunk.rg])) (by simp [setBlock, hw1.1]) hw1.2.1 hw1.2.2.1 hw1.2.2.2 ?_ (fun _ => by rcases g2 with rfl | rfl; exact Nat.le_refl _; exact Nat.le_succ _)⟩
        intro hs _
        refine ⟨es, clock, seen.push e.born, (hother b hbr).trans hb, hr.mono hs, h1, h2, hsame, ?_⟩
        rw [unseen_push h1 hj2]
        exact (h4.erase j).mono hs
      refine ⟨_, _, .value (.tuple #[.bool true, e.key, e.val]), _, by simp [execOp, hv, g3] <;> rfl, .inl ⟨_, rfl, hd.2.put hi ?_⟩, kont j a t q1⟩
      unfold Tr.tup
      exact ⟨[.bool true, e.key, e.val], rfl, .bool true, _, rfl, raw_self _, e.key, _, rfl, by rw [q2]; exact raw_self _, e.val, [], rfl, Tr.mono _ hd.1 q3, rfl⟩
theorem ba_beq (a b : ByteArray) : (a == b) = decide (a = b) := by
  rw [Bool.eq_iff_iff, decide_eq_true_iff]
  constructor
  · intro h
    cases a with
    | mk a =>
      cases b with
      | mk b =>
        have : a == b := h
        rw [eq_of_beq this]
  · rintro rfl
    exact ba_self a
theorem KeyTy.str {K : TypeId} (h : P.underlying K = some .string) : KeyTy P K Value.string where
  desc := ⟨_, h, fun a b => by simp [Instr.sameNow, ba_beq]⟩
  chk := fun e a w => by
    unfold Instr.checkKey
    simp [run_underlying h]
  bits := fun a => by simp [Instr.sameBits, ba_self]
theorem KeyTy.int {K : TypeId} {k : IntKind} (h : P.underlying K = some (.int k)) : KeyTy P K (Value.int k) where
  desc := ⟨_, h, fun a b => by
    simp only [Instr.sameNow, if_true]
    rw [Option.some.injEq, Bool.eq_iff_iff]
    simp⟩
  chk := fun e a w => by
    unfold Instr.checkKey
    simp [run_underlying h]
  bits := fun a => by simp [Instr.sameBits]
end maps
end Lg
end
