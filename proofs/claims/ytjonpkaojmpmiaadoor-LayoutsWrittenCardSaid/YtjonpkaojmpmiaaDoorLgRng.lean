/- A part of the proof of a law of this seat: it adds no condition. By an AI agent. -/
import Derived.Maps.RangeRun
import Derived.RangeFuncIn
import Derived.RangeFuncRecord
import Derived.Test.YtjonpkaojmpmiaaDoorLgFree
section
set_option linter.all false
namespace Lg
open Go Go.ChangeMaps

/-! ### maps: an owned block of entries, in the order in which they came -/
section maps
variable {P : Program} {Γ : Ctx} {env env' : Env} {cs cs' cf : List Chunk} {Q : Post} {R : Array Oper}
variable {i : Tmp} {ty : TypeId} {pos : String} {af : Array Edge} {rest : List Oper}
variable {x y z : Operand} {T : TypeId}
variable {α : Type} [DecidableEq α] {enc : α → Value}

/-- a type of keys: equality is seen at once, hashing never fails -/
class KeyTy (P : Program) (K : TypeId) (enc : α → Value) : Prop where
  desc : ∃ d, P.underlying K = some d ∧ ∀ a b, Instr.sameNow d (enc a) (enc b) = some (decide (a = b))
  chk : ∀ e a w, (Instr.checkKey e 10000 K (enc a)).run P w = .ok () w
  bits : ∀ a, Instr.sameBits 10000 (enc a) (enc a) = true
/-- a map type: its keys, and the zero value of its elements -/
class TyMap (P : Program) (T : TypeId) (K E : outParam TypeId) (z : outParam Value) : Prop where
  hT : P.underlying T = some (.map K E)
  hz : ∃ i, P.info? E = some i ∧ i.zero = some z

inductive EsR (w : World) (A : Nat → Prop) (enc : α → Value) : List (α × Tr) → List MapEntry → Prop
  | nil : EsR w A enc [] []
  | cons {a : α} {t : Tr} {ps : List (α × Tr)} {e : MapEntry} {es : List MapEntry} (hk : e.key = enc a) (hv : t.rd w A e.val) (r : EsR w A enc ps es) : EsR w A enc ((a, t) :: ps) (e :: es)
theorem EsR.mono {w w' : World} {A A' : Nat → Prop} {kv : List (α × Tr)} {es : List MapEntry} (h : EsR w A enc kv es) (hs : SameOn w w' A A') : EsR w' A' enc kv es := by
  induction h with
  | nil => exact .nil
  | cons hk hv _ ih => exact .cons hk (Tr.mono _ hs hv) ih
/-- an owned map -/
def borns (es : List MapEntry) : List Nat := es.map fun e => e.born
def Chunk.mp (enc : α → Value) (b : Nat) (kv : List (α × Tr)) : Chunk :=
  ⟨[b], fun w A => ∃ es clock, w.heap[b]? = some (.map es clock) ∧ EsR w A enc kv es.toList ∧ (borns es.toList).Pairwise (· < ·) ∧ (∀ e ∈ es.toList, e.born < clock),
   fun hb h ⟨es, clock, e, hr, h1, h2⟩ => ⟨es, clock, (hb b (by simp) (Array.getElem?_eq_some_iff.1 e).1).trans e, hr.mono h, h1, h2⟩⟩

theorem run_getMap {w : World} {b : Nat} {es : Array MapEntry} {c : Nat} (h : w.heap[b]? = some (.map es c)) : (getObj b).run P w = .ok (.map es c) w := by
  simp [getObj, Sem.run, h]
/-! ### ranging over a map: what is left comes in any order -/
theorem EsR.at {w : World} {A : Nat → Prop} {kv : List (α × Tr)} {es : List MapEntry} (h : EsR w A enc kv es) : ∀ {j : Nat} {e : MapEntry}, es[j]? = some e → ∃ a t, kv[j]? = some (a, t) ∧ e.key = enc a ∧ t.rd w A e.val := by
  induction h with
  | nil => intro j e h; simp at h
  | @cons a t ps e0 es hk hv _ ih =>
    intro j e h
    cases j with
    | zero =>
      simp at h
      subst h
      exact ⟨a, t, rfl, hk, hv⟩
    | succ j =>
      obtain ⟨a, t, h1, h2⟩ := ih (j := j) (e := e) (by simpa using h)
      exact ⟨a, t, by simpa using h1, h2⟩
theorem EsR.len {w : World} {A : Nat → Prop} {kv : List (α × Tr)} {es : List MapEntry} (h : EsR w A enc kv es) : kv.length = es.length := by
  induction h with
  | nil => rfl
  | cons _ _ _ ih => simp [ih]
theorem EsR.erase {w : World} {A : Nat → Prop} {kv : List (α × Tr)} {es : List MapEntry} (h : EsR w A enc kv es) : ∀ j : Nat, EsR w A enc (kv.eraseIdx j) (es.eraseIdx j) := by
  induction h with
  | nil => intro j; exact .nil
  | cons hk hv hr ih =>
    intro j
    cases j with
    | zero => exact hr
    | succ j => exact .cons hk hv (ih j)
/-- what an iterator has not seen -/
def unseen (seen : Array Nat) (es : List MapEntry) : List MapEntry := es.filter fun e => !seen.contains e.born
def Chunk.rg (enc : α → Value) (b r : Nat) (kv left : List (α × Tr)) : Chunk :=
  ⟨[b, r], fun w A => ∃ es clock seen, w.heap[b]? = some (.map es clock) ∧ EsR w A enc kv es.toList ∧ (borns es.toList).Pairwise (· < ·) ∧ (∀ e ∈ es.toList, e.born < clock) ∧
      w.heap[r]? = some (.mapIter (some b) clock seen clock) ∧ EsR w A enc left (unseen seen es.toList),
   fun hb h ⟨es, clock, seen, e, hr, h1, h2, h3, h4⟩ => ⟨es, clock, seen, (hb b (by simp) (Array.getElem?_eq_some_iff.1 e).1).trans e, hr.mono h, h1, h2, (hb r (by simp) (Array.getElem?_eq_some_iff.1 h3).1).trans h3, h4.mono h⟩⟩
theorem Ops.range {K E : TypeId} {zv : Value} [hT : TyMap P T K E zv] {b : Nat} {kv : List (α × Tr)} (hx : ev env x = some (.raw (.map (some b)))) (hp : cs.Perm (Chunk.mp enc b kv :: cf)) (hi : Nat.blt i Γ.n = true)
    (kont : ∀ r, Ops P Γ R rest ((i, .raw (.pointer (some ⟨r, 0, none⟩))) :: env) (Chunk.rg enc b r kv kv :: cf) Q) : Ops P Γ R (⟨some i, .range T x, ty, pos, af, none⟩ :: rest) env cs Q :=
  Ops.of fun a w d => by
    have hv := rd_raw (d.ev hx)
    have d := d.perm hp
    obtain ⟨es, clock, hb, hr, h1, h2⟩ := d.has (List.Perm.refl _)
    have hlt : b < w.heap.size := (Array.getElem?_eq_some_iff.1 hb).1
    have hsz : (w.alloc (.mapIter (some b) clock #[] clock)).heap.size = w.heap.size + 1 := by simp
    have hd : Den Γ env (Chunk.rg enc b w.heap.size kv kv :: cf) a (w.alloc (.mapIter (some b) clock #[] clock)) := by
      refine d.turnF (fun q hq => ?_) (by simp [Chunk.rg]; omega) ⟨rfl, rfl, rfl, by omega, fun q hq _ => (MapKept.heap_alloc w _).2 q hq, fun _ => Nat.le_refl _⟩ ?_
      · simp only [Chunk.rg, List.mem_cons, List.not_mem_nil, or_false] at hq
        rcases hq with rfl | rfl
        · exact .inl (by simp [Chunk.mp])
        · exact .inr ⟨Nat.le_refl _, by omega⟩
      · intro hs _
        refine ⟨es, clock, #[], ((MapKept.heap_alloc w _).2 b hlt).trans hb, hr.mono hs, h1, h2, (MapKept.heap_alloc w _).1, ?_⟩
        have : unseen #[] es.toList = es.toList := by simp [unseen]
        rw [this]
        exact hr.mono hs
    exact ⟨_, _, _, _, by simp [execOp, hv, Instr.range, run_underlying hT.hT, run_getMap hb, newObj] <;> rfl, .inl ⟨_, rfl, hd.put hi (raw_self _)⟩, kont _⟩
theorem unseen_push {seen : Array Nat} {es : List MapEntry} (hb : (borns es).Pairwise (· < ·)) {e : MapEntry} {j : Nat} (hj : (unseen seen es)[j]? = some e) : unseen (seen.push e.born) es = (unseen seen es).eraseIdx j := by
  have hsub : (borns (unseen seen es)).Pairwise (· < ·) := by
    unfold unseen borns
    exact hb.sublist ((List.filter_sublist).map _)
  have h1 : unseen (seen.push e.born) es = (unseen seen es).filter fun x => !(x.born == e.born) := by
    unfold unseen
    rw [List.filter_filter]
    congr 1
    funext x
    simp only [Array.contains_push, Bool.not_or]
    rw [Bool.and_comm]
  rw [h1]
  generalize unseen seen es = U at *
  clear h1
  induction U generalizing j with
  | nil => simp at hj
  | cons x U ih =>
    rw [show borns (x :: U) = x.born :: borns U from rfl, List.pairwise_cons] at hsub
    cases j with
    | zero =>
      simp at hj
      subst hj
      rw [List.filter_cons]
      simp only [beq_self_eq_true, Bool.not_true, Bool.false_eq_true, if_false, List.eraseIdx_cons_zero]
      rw [List.filter_eq_self]
      intro y hy
      have := hsub.1 y.born (List.mem_map.2 ⟨y, hy, rfl⟩)
      simp
      omega
    | succ j =>
      have hj' : U[j]? = some e := by simpa using hj
      have hm := hsub.1 e.born (List.mem_map.2 ⟨e, List.mem_of_getElem? hj', rfl⟩)
      rw [List.filter_cons]
      have hne : (x.born == e.born) = false := by simp; omega
      rw [hne]
      simp only [Bool.not_false, if_true, List.eraseIdx_cons_succ]
      rw [ih hj' hsub.2]
/-- the next entry: any that is left -/
theorem Ops.next {b r : Nat} {kv left : List (α × Tr)} (hx : ev env x = some (.raw (.pointer (some ⟨r, 0, none⟩)))) (hp : cs.Perm (Chunk.rg enc b r kv left :: cf)) (hi : Nat.blt i Γ.n = true)
    (kend : left = [] → Ops P Γ R rest ((i, .tup [.bool false]) :: env) (Chunk.mp enc b kv :: cf) Q)
    (kont : ∀ j a t, left[j]? = some (a, t) → Ops P Γ R rest ((i, .tup [.bool true, .raw (enc a), t]) :: env) (Chunk.rg enc b r kv (left.eraseIdx j) :: cf) Q) : Ops P Γ R (⟨some i, .next x false, ty, pos, af, none⟩ :: rest) env cs Q :=
  Ops.of fun ac w d => by
    have hv := rd_raw (d.ev hx)
    have d := d.perm hp
    obtain ⟨es, clock, seen, hb, hr, h1, h2, h3, h4⟩ := d.has (List.Perm.refl _)
    have hle : (leftOf es seen).toList = unseen seen es.toList := by
      simp [leftOf, unseen, Array.toList_filter]
    have hnd := d.nodup
    simp only [fps, List.flatMap_cons, Chunk.rg] at hnd
    have hbr : b ≠ r := by
      intro e
      subst e
      simp at hnd
    rcases run_next_at (P := P) w ty r b clock clock seen es clock h3 hb h2 (Nat.le_refl _) with ⟨g1, g2⟩ | ⟨e, g1, w1, g2, g3⟩
    · have hl0 : left = [] := by
        have e1 : (unseen seen es.toList) = [] := by
          rw [← hle]
          have := Array.eq_empty_of_size_eq_zero g1
          rw [this]
        rw [e1] at h4
        cases h4
        rfl
      have hd : Den Γ env (Chunk.mp enc b kv :: cf) ac w := by
        refine d.turnF (c' := Chunk.mp enc b kv) (fun q hq => .inl (by simp [Chunk.mp] at hq; simp [Chunk.rg, hq])) (by simp [Chunk.mp]) (Frm.refl _ _) ?_
        intro hs _
        exact ⟨es, clock, hb, hr.mono hs, h1, h2⟩
      refine ⟨_, _, .value (.tuple #[.bool false]), w, by simp [execOp, hv, g2] <;> rfl, .inl ⟨_, rfl, hd.put hi ?_⟩, kend hl0⟩
      unfold Tr.tup
      exact ⟨[.bool false], rfl, .bool false, [], rfl, raw_self _, rfl⟩
    · rw [hle] at g1
      obtain ⟨j, hj, hje⟩ := List.getElem_of_mem g1
      have hj2 : (unseen seen es.toList)[j]? = some e := by rw [List.getElem?_eq_getElem hj, hje]
      obtain ⟨a, t, q1, q2, q3⟩ := h4.at hj2
      have hw1 : w1.heap = w.heap ∧ w1.os = w.os ∧ w1.tape = w.tape ∧ w1.output = w.output := by
        rcases g2 with rfl | rfl <;> exact ⟨rfl, rfl, rfl, rfl⟩
      have hrlt : r < w.heap.size := (Array.getElem?_eq_some_iff.1 h3).1
      have hother : ∀ q, q ≠ r → (setBlock w1 r (.mapIter (some b) clock (seen.push e.born) clock)).heap[q]? = w.heap[q]? := by
        intro q hq
        simp only [setBlock, hw1.1]
        rw [Array.getElem?_setIfInBounds_ne (Ne.symm hq)]
      have hsame : (setBlock w1 r (.mapIter (some b) clock (seen.push e.born) clock)).heap[r]? = some (.mapIter (some b) clock (seen.push e.born) clock) := by
        simp only [setBlock, hw1.1]
        rw [Array.getElem?_setIfInBounds_self]
        simp [hrlt]
      have hd : SameOn w (setBlock w1 r (.mapIter (some b) clock (seen.push e.born) clock)) (av Γ.M (Chunk.rg enc b r kv left :: cf)) (av Γ.M (Chunk.rg enc b r kv (left.eraseIdx j) :: cf)) ∧ Den Γ env (Chunk.rg enc b r kv (left.eraseIdx j) :: cf) ac (setBlock w1 r (.mapIter (some b) clock (seen.push e.born) clock)) := by
        have hs : SameOn w (setBlock w1 r (.mapIter (some b) clock (seen.push e.born) clock)) (av Γ.M (Chunk.rg enc b r kv left :: cf)) (av Γ.M (Chunk.rg enc b r kv (left.eraseIdx j) :: cf)) := by
          intro q hq ⟨m1, m2⟩
          refine ⟨⟨m1, by simpa [fps, Chunk.rg] using m2⟩, hother q fun e => m2 (by subst e; simp [fps, Chunk.rg])⟩
        refine ⟨hs, d.turn rfl (fun q hq hn => hother q fun e => hn (by subst e; simp [Chunk.rg])) (by simp [setBlock, hw1.1]) hw1.2.1 hw1.2.2.1 hw1.2.2.2 ?_ (fun _ => by rcases g2 with rfl | rfl; exact Nat.le_refl _; exact Nat.le_succ _)⟩
        intro hs _
        refine ⟨es, clock, seen.push e.born, (hother b hbr).trans hb, hr.mono hs, h1, h2, hsame, ?_⟩
        rw [unseen_push h1 hj2]
        exact (h4.erase j).mono hs
      refine ⟨_, _, .value (.tuple #[.bool true, e.key, e.val]), _, by simp [execOp, hv, g3] <;> rfl, .inl ⟨_, rfl, hd.2.put hi ?_⟩, kont j a t q1⟩
      unfold Tr.tup
      exact ⟨[.bool true, e.key, e.val], rfl, .bool true, _, rfl, raw_self _, e.key, _, rfl, by rw [q2]; exact raw_self _, e.val, [], rfl, Tr.mono _ hd.1 q3, rfl⟩
theorem ba_beq (a b : ByteArray) : (a == b) = decide (a = b) := by
  rw [Bool.eq_iff_iff, decide_eq_true_iff]
  constructor
  · intro h
    cases a with
    | mk a =>
      cases b with
      | mk b =>
        have : a == b := h
        rw [eq_of_beq this]
  · rintro rfl
    exact ba_self a
theorem KeyTy.str {K : TypeId} (h : P.underlying K = some .string) : KeyTy P K Value.string where
  desc := ⟨_, h, fun a b => by simp [Instr.sameNow, ba_beq]⟩
  chk := fun e a w => by
    unfold Instr.checkKey
    simp [run_underlying h]
  bits := fun a => by simp [Instr.sameBits, ba_self]
theorem KeyTy.int {K : TypeId} {k : IntKind} (h : P.underlying K = some (.int k)) : KeyTy P K (Value.int k) where
  desc := ⟨_, h, fun a b => by
    simp only [Instr.sameNow, if_true]
    rw [Option.some.injEq, Bool.eq_iff_iff]
    simp⟩
  chk := fun e a w => by
    unfold Instr.checkKey
    simp [run_underlying h]
  bits := fun a => by simp [Instr.sameBits]
end maps
end Lg
end
section
set_option linter.all false
namespace Lg
open Go

/-! ### an owned slice lent to a function that writes nothing of it -/
section lend
variable {P : Program}
/-- a chunk that speaks of its own blocks alone -/
def FreeC (c : Chunk) : Prop := ∀ (w : World) (A A' : Nat → Prop), c.holds w A → c.holds w A'
theorem FreeC.own {ad : Option Addr} {cap k : Nat} {E : TypeId} {rows : List (List Tr)} (h : FreeL rows.flatten) : FreeC (Chunk.own ad cap k E rows) := by
  intro w A A' hh
  unfold Chunk.own at hh ⊢
  obtain ⟨hk, xs, ho, hrx⟩ := hh
  exact ⟨hk, xs, ho, h.rdc hrx⟩
theorem FreeL.intRows (l : List Int) : FreeL (intRows l).flatten := by
  unfold Lg.intRows
  induction l with
  | nil => exact .nil
  | cons x l ih =>
    rw [List.map_cons, List.flatten_cons]
    exact .cons FreeT.raw ih
theorem Spec.lend {f : FuncId} {pre suf : List Tr} {C : List Chunk} {kk E n cap : Nat} {ad : Option Addr} {rows : List (List Tr)} {post : Tr → List Chunk → Prop} (h : Spec P f (pre ++ .sl kk rows :: suf) C post) (hn : n = rows.length)
    (hfr : ∀ r cs, post r cs → FreeT r ∧ ∀ c ∈ cs, FreeC c) :
    Spec P f (pre ++ Tr.raw (.slice ad n cap) :: suf) (Chunk.own ad cap kk E rows :: C) (fun r cs => ∃ cs0, cs = Chunk.own ad cap kk E rows :: cs0 ∧ post r cs0) := by
  subst hn
  unfold Spec at h ⊢
  obtain ⟨h1, h2⟩ := h
  refine ⟨h1, fun M w vs hr hch hnd hlt hM => ?_⟩
  have hfp : (Chunk.own ad cap kk E rows).fp = (Value.ownBlock (.slice ad rows.length cap)).toList := by unfold Chunk.own; simp
  have hfps : ∀ L, fps (Chunk.own ad cap kk E rows :: L) = (Chunk.own ad cap kk E rows).fp ++ fps L := fun L => by simp [fps]
  have hs : SameOn w w (av M (Chunk.own ad cap kk E rows :: C)) (av M C) := fun b _ ⟨h1, h2⟩ => ⟨⟨h1, fun hm => h2 (by rw [hfps]; exact List.mem_append.2 (.inr hm))⟩, rfl⟩
  have hown0 := hch (Chunk.own ad cap kk E rows) (by simp)
  have hown := hown0
  unfold Chunk.own at hown
  obtain ⟨hk, xs, ho, hrx⟩ := hown
  rw [hfps] at hnd
  obtain ⟨hnd1, hnd2, hnd3⟩ := List.nodup_append.1 hnd
  have hsl : (Tr.sl kk rows).rd w (av M C) (.slice ad rows.length cap) := by
    unfold Tr.sl
    rcases ho.2 with ⟨e1, e2⟩ | ⟨g, cp, cur, hv, hg, hb, q1, q2, q3, q4⟩
    · simp only [Value.slice.injEq] at e1
      obtain ⟨rfl, _, rfl⟩ := e1
      exact ⟨hk, by simp [e2], none, 0, rfl, by omega, by simp, fun _ => ⟨List.eq_nil_of_length_eq_zero e2, rfl⟩, .inl (List.eq_nil_of_length_eq_zero e2)⟩
    · simp only [Value.slice.injEq] at hv
      obtain ⟨rfl, _, rfl⟩ := hv
      have hg1 : g ∈ (Chunk.own (some ⟨g, 0, none⟩) cap kk E rows).fp := by rw [hfp]; simp [Value.ownBlock]
      have hfr := hlt g (by rw [hfps]; exact List.mem_append.2 (.inl hg1))
      refine ⟨hk, by omega, _, cap, rfl, q1, q2, fun h => absurd h (by simp), .inr ⟨g, 0, rfl, ⟨hfr.2, fun hm => hnd3 g hg1 g hm rfl⟩, cur, E, _, hb, ?_⟩⟩
      rw [List.drop_zero, flat_len hk, q4]
      have hs2 : SameOn w w (av M (Chunk.own (some ⟨g, 0, none⟩) cap kk E rows :: C)) (av M C) := hs
      unfold Chunk.own at hs2
      exact hrx.mono hs2
  have hargs : ∀ (pre : List Tr) (vs : List Value), RdL w (av M (Chunk.own ad cap kk E rows :: C)) (pre ++ Tr.raw (.slice ad rows.length cap) :: suf) vs → RdL w (av M C) (pre ++ .sl kk rows :: suf) vs := by
    intro pre
    induction pre with
    | nil =>
      intro vs hr
      obtain ⟨v, rest, rfl, hv, hr⟩ := hr
      have := rd_raw hv
      subst this
      exact ⟨_, _, rfl, hsl, hr.mono hs⟩
    | cons p pre ih =>
      intro vs hr
      obtain ⟨v, rest, rfl, hv, hr⟩ := hr
      exact ⟨v, rest, rfl, p.mono hs hv, ih rest hr⟩
  refine (h2 M w vs (hargs pre vs hr) (fun c hc => Chunk.mono _ (fun b _ hb => rfl) hs (hch c (List.mem_cons_of_mem _ hc))) hnd2 (fun b hb => hlt b (by rw [hfps]; exact List.mem_append.2 (.inr hb))) hM).mono ?_
  rintro e w' ⟨v, r, cs', rfl, hpost, hrd, hch', hnd', hlt', hfm⟩
  obtain ⟨hfr1, hfr2⟩ := hfr r cs' hpost
  have hold : ∀ b, b ∈ (Chunk.own ad cap kk E rows).fp → b < w.heap.size → w'.heap[b]? = w.heap[b]? := fun b hb hl => hfm.block b hl (fun hm => hnd3 b hb b hm rfl)
  refine ⟨v, r, _, rfl, ⟨cs', rfl, hpost⟩, hfr1 _ _ _ _ _ hrd, ?_, ?_, ?_, ⟨hfm.os, hfm.tape, hfm.output, hfm.size, fun b hb hn => hfm.block b hb (fun hm => hn (by rw [hfps]; exact List.mem_append.2 (.inr hm))), hfm.drawn⟩⟩
  · have hs2 : SameOn w w' (av M (Chunk.own ad cap kk E rows :: C)) (av M (Chunk.own ad cap kk E rows :: cs')) := by
      intro b hb ⟨m1, m2⟩
      rw [hfps] at m2
      refine ⟨⟨m1, fun hm => ?_⟩, hfm.block b hb fun hm => m2 (List.mem_append.2 (.inr hm))⟩
      rw [hfps] at hm
      rcases List.mem_append.1 hm with hm | hm
      · exact m2 (List.mem_append.2 (.inl hm))
      · obtain ⟨_, _, q3⟩ := hlt' b hm
        rcases q3 with q3 | q3
        · exact m2 (List.mem_append.2 (.inr q3))
        · omega
    intro c hc
    rcases List.mem_cons.1 hc with rfl | hc
    · exact Chunk.mono _ (fun b hb hl => hold b hb hl) hs2 hown0
    · exact hfr2 c hc _ _ _ (hch' c hc)
  · rw [hfps]
    refine List.nodup_append.2 ⟨hnd1, hnd', fun b hb d hd hbd => ?_⟩
    subst hbd
    obtain ⟨_, _, q3⟩ := hlt' b hd
    rcases q3 with q3 | q3
    · exact hnd3 b hb b q3 rfl
    · have := (hlt b (by rw [hfps]; exact List.mem_append.2 (.inl hb))).1
      omega
  · intro b hb
    rw [hfps] at hb ⊢
    rcases List.mem_append.1 hb with hb | hb
    · obtain ⟨q1, q2⟩ := hlt b (by rw [hfps]; exact List.mem_append.2 (.inl hb))
      exact ⟨Nat.lt_of_lt_of_le q1 hfm.size, q2, .inl (List.mem_append.2 (.inl hb))⟩
    · obtain ⟨q1, q2, q3⟩ := hlt' b hb
      exact ⟨q1, q2, q3.imp (fun h => List.mem_append.2 (.inr h)) id⟩
end lend
end Lg
end
section
set_option linter.all false
namespace Lg
open Go

/-! ### a range over a function -/
section rng
variable {P : Program} {Γ : Ctx} {env env' : Env} {cs cs' cf : List Chunk} {Q : Post} {R : Array Oper}
variable {i : Tmp} {ty : TypeId} {pos : String} {af : Array Edge} {rest : List Oper}

theorem roundIn_mono {F : Fence} {n : Nat} {l : Nat} {f : FuncId} {tmps : Array Value} {assign body : Code} {w : World} {R R' : Ending → World → Prop} (h : RoundIn F n P l f tmps assign body w R) (hR : ∀ e w, R e w → R' e w) : RoundIn F n P l f tmps assign body w R' :=
  ⟨h.1, fun c cs hr => let ⟨e, w', r, x⟩ := h.2 c cs hr; ⟨e, w', hR _ _ r, x⟩⟩
theorem wpIn_depth {F : Fence} (hd : F.depth = none) {n m : Nat} {c : Code} {Q : Exit → Act → World → Prop} {a : Act} {w : World} (h : c.wpIn F n P Q a w) : c.wpIn F m P Q a w :=
  fun b k cs hro hb _ => h b k cs hro hb (fun d h => by rw [hd] at h; cases h)

/-- what is known behind a call -/
abbrev After (M : Nat → Prop) (cin : List Chunk) (post : Tr → List Chunk → Prop) (w : World) : Ending → World → Prop := fun e w' =>
  ∃ v r cs', e = .returned v ∧ post r cs' ∧ r.rd w' (av M cs') v ∧ (∀ c ∈ cs', c.holds w' (av M cs')) ∧ (fps cs').Nodup ∧
      (∀ b ∈ fps cs', b < w'.heap.size ∧ ¬ M b ∧ (b ∈ fps cin ∨ w.heap.size ≤ b)) ∧ Frm (fps cin) w w'

/-- a call of yield: one round of loop l -/
def YSpec (P : Program) (l : Nat) (args : List Tr) (cin : List Chunk) (post : Tr → List Chunk → Prop) : Prop :=
  ∀ (M : Nat → Prop) (w : World) (vs : List Value), RdL w (av M cin) args vs → (∀ c ∈ cin, c.holds w (av M cin)) → (fps cin).Nodup → (∀ b ∈ fps cin, b < w.heap.size ∧ ¬ M b) → (∀ b, M b → b < w.heap.size) →
    ∃ fn tmps assign body, (Instr.yield l vs.toArray).run P w = .ok (.round l fn tmps assign body) w ∧ RoundIn Fence.wide 8 P l fn tmps assign body w (After M cin post w)

theorem call_coreG {C : (Ending → World → Prop) → Prop} {args : List Tr} {cin : List Chunk} {post : Tr → List Chunk → Prop} {a : Act} {w : World} (d : Den Γ env cs a w) (hp : cs.Perm (cin ++ cf)) {vs : List Value} (hr : RdL w (av Γ.M cs) args vs)
    (hC : ∀ R R', (∀ e w', R e w' → R' e w') → C R → C R')
    (hs : ∀ (M : Nat → Prop), RdL w (av M cin) args vs → (∀ c ∈ cin, c.holds w (av M cin)) → (fps cin).Nodup → (∀ b ∈ fps cin, b < w.heap.size ∧ ¬ M b) → (∀ b, M b → b < w.heap.size) → C (After M cin post w)) :
    C fun e w' => ∃ v r cs', e = .returned v ∧ post r cs' ∧ r.rd w' (av Γ.M (cs' ++ cf)) v ∧ Den Γ env (cs' ++ cf) a w' := by
  have hfps : ∀ b, b ∈ fps cs ↔ b ∈ fps cin ∨ b ∈ fps cf := fun b => by rw [(fps_perm hp).mem_iff]; simp [fps]
  have hav : ∀ c1 : List Chunk, av (fun b => Γ.M b ∨ b ∈ fps cf) c1 = av Γ.M (c1 ++ cf) := by
    intro c1
    funext b
    simp only [av, fps, List.flatMap_append, List.mem_append]
    apply propext
    constructor
    · rintro ⟨h1, h2⟩; exact ⟨fun h => h1 (.inl h), fun h => h.elim h2 fun h => h1 (.inr h)⟩
    · rintro ⟨h1, h2⟩; exact ⟨fun h => h.elim h1 fun h => h2 (.inr h), fun h => h2 (.inl h)⟩
  have d' := d.perm hp
  have hnd := d'.nodup
  have hfa : fps (cin ++ cf) = fps cin ++ fps cf := by simp [fps]
  rw [hfa] at hnd
  obtain ⟨n1, n2, n3⟩ := List.nodup_append.1 hnd
  refine hC _ _ ?_ (hs (fun b => Γ.M b ∨ b ∈ fps cf) (by rw [hav, ← av_perm hp]; exact hr) (fun c hc => by rw [hav]; exact d'.chunks c (by simp [hc])) n1 ?_ ?_)
  · rintro e w' ⟨v, r, cs', rfl, hpost, hrd, hch, hndc, hfr, hfm⟩
    rw [hav] at hrd hch
    have hold : ∀ b ∈ fps cf, b < w.heap.size → w'.heap[b]? = w.heap[b]? := fun b hb hlt => hfm.block b hlt fun hm => n3 b hm b hb rfl
    have hsame : SameOn w w' (av Γ.M (cin ++ cf)) (av Γ.M (cs' ++ cf)) := by
      intro b hb ⟨h1, h2⟩
      rw [hfa] at h2
      simp only [List.mem_append, not_or] at h2
      refine ⟨⟨h1, ?_⟩, hfm.block b hb h2.1⟩
      simp only [fps, List.flatMap_append, List.mem_append, not_or]
      refine ⟨fun hm => ?_, h2.2⟩
      obtain ⟨_, _, h5⟩ := hfr b hm
      rcases h5 with h5 | h5
      · exact h2.1 h5
      · omega
    refine ⟨v, r, cs', rfl, hpost, hrd, d'.world hsame ?_ ?_ ?_ ⟨hfm.os, hfm.tape, hfm.output, hfm.size, fun b hb hn => hfm.block b hb fun hm => hn (by rw [hfa]; simp [hm]), hfm.drawn⟩⟩
    · intro c hc
      rcases List.mem_append.1 hc with h | h
      · exact hch c h
      · exact c.mono (fun b hb hlt => hold b (List.mem_flatMap.2 ⟨c, h, hb⟩) hlt) hsame (d'.chunks c (by simp [h]))
    · have : fps (cs' ++ cf) = fps cs' ++ fps cf := by simp [fps]
      rw [this]
      refine List.nodup_append.2 ⟨hndc, n2, ?_⟩
      intro x hx y hy e
      subst e
      obtain ⟨_, h4, h5⟩ := hfr x hx
      exact h4 (.inr hy)
    · intro b hb
      simp only [fps, List.flatMap_append, List.mem_append] at hb
      rcases hb with hb | hb
      · obtain ⟨h3, h4, h5⟩ := hfr b hb
        refine ⟨h3, fun h => h4 (.inl h), ?_⟩
        rcases h5 with h5 | h5
        · exact (d'.fresh b (by rw [hfa]; simp [h5])).2.2
        · have := d.frame.size
          exact .inr (by omega)
      · obtain ⟨h3, h4, h5⟩ := d'.fresh b (by rw [hfa]; simp; exact .inr hb)
        exact ⟨Nat.lt_of_lt_of_le h3 hfm.size, h4, h5⟩
  · intro b hb
    obtain ⟨h1, h2, h3⟩ := d'.fresh b (by rw [hfa]; simp [hb])
    exact ⟨h1, fun h => h.elim h2 fun h => n3 b hb b h rfl⟩
  · intro b hb
    rcases hb with hb | hb
    · exact Nat.lt_of_lt_of_le (d.below b hb) d.frame.size
    · exact (d'.fresh b (by rw [hfa]; simp [hb])).1

/-- yield is called -/
theorem Ops.callY {l : Nat} {g : Operand} {xs : List Operand} {ts : Array TypeId} {args : List Tr} {cin : List Chunk} {post : Tr → List Chunk → Prop} (hg : ev env g = some (.raw (.func (.yield l) #[] #[]))) (hs : YSpec P l args cin post) (ha : Evs env xs args) (hp : cs.Perm (cin ++ cf)) (hi : Nat.blt i Γ.n = true)
    (kont : ∀ r cs', post r cs' → Ops P Γ R rest ((i, r) :: env) (cs' ++ cf) Q) : Ops P Γ R (⟨some i, .call ⟨.value g, xs.toArray, ts⟩, ty, pos, af, none⟩ :: rest) env cs Q := by
  unfold Ops at kont ⊢
  intro a w d
  refine wpListIn_plain rfl fun K hK => ?_
  have hgv := rd_raw (d.ev hg)
  obtain ⟨fn, tmps, assign, body, hy, hR⟩ := call_coreG (C := fun R => ∃ fn tmps assign body, (Instr.yield l (xs.map a.eval).toArray).run P w = .ok (.round l fn tmps assign body) w ∧ RoundIn Fence.wide 8 P l fn tmps assign body w R) d hp (ha.rd d)
    (fun R R' hRR ⟨fn, tmps, assign, body, h1, h2⟩ => ⟨fn, tmps, assign, body, h1, roundIn_mono h2 hRR⟩) (fun M h1 h2 h3 h4 h5 => hs M w _ h1 h2 h3 h4 h5)
  have hrun : (execOp a.eval ⟨some i, .call ⟨.value g, xs.toArray, ts⟩, ty, pos, af, none⟩).run P w = .ok (.round l fn tmps assign body) w := by
    simp [execOp, resolve, invoke, Deferred.ofValue, hgv] at hy ⊢
    exact hy
  refine ⟨fun _ _ => trivial, ?_⟩
  rw [Oper.semAt_eq _ _ _ (nd_of_run hrun (by intro d h; cases h)), hrun]
  refine ⟨fun h => by simp [fen, Fence.wide] at h, ?_⟩
  refine roundIn_mono (F := fen Γ) (n := 8) (R := fun e w' => ∃ v r cs', e = .returned v ∧ post r cs' ∧ r.rd w' (av Γ.M (cs' ++ cf)) v ∧ Den Γ env (cs' ++ cf) a w') hR ?_
  rintro e w' ⟨v, r, cs', rfl, hpost, hrd, hd⟩
  exact hK _ _ (kont r cs' hpost _ _ (hd.put hi hrd))

/-- what an iterator does: it hands xs to yield, one after the other, until yield says no -/
def IterSpec (P : Program) (gf : Nat) (caps : List Value) (cin cout : List Chunk) (xs : List (List Tr)) : Prop :=
  ∀ (l : Nat) (J : Nat → Chunk → Prop) (Jx : Chunk → Prop),
    (∀ k args c, xs[k]? = some args → J k c → YSpec P l args [c] (fun r cs => (r = Tr.bool true ∧ ∃ c', J (k + 1) c' ∧ cs = [c']) ∨ (r = Tr.bool false ∧ ∃ c', Jx c' ∧ cs = [c']))) →
    ∀ c0, J 0 c0 → Spec P gf (Tr.raw (.func (.yield l) #[] #[]) :: caps.map Tr.raw) (c0 :: cin) (fun r cs => (∃ c, J xs.length c ∧ cs = c :: cout) ∨ ∃ c, Jx c ∧ cs = c :: cout)

/-! the loop's record; the variables of the frame around; all that a round may turn -/
def Chunk.lrec (l : Nat) (r : Loop) : Chunk := ⟨[l], fun w _ => w.heap[l]? = some (.loop r), fun hb _ h => (hb l (by simp) (Array.getElem?_eq_some_iff.1 h).1).trans h⟩
def Chunk.envc (env : Env) (tmps : Array Value) : Chunk := ⟨[], fun w A => ∀ i t, look env i = some t → t.rd w A (tmps.getD i undef), fun _ h k i t hl => t.mono h (k i t hl)⟩
def Chunk.lp (l : Nat) (r : Loop) (env : Env) (cs : List Chunk) : Chunk := Chunk.bun (Chunk.lrec l r :: Chunk.envc env r.tmps :: cs)
theorem lp_fp (l : Nat) (r : Loop) (env : Env) (cs : List Chunk) : (Chunk.lp l r env cs).fp = l :: fps cs := by
  unfold Chunk.lp Chunk.bun fps Chunk.lrec Chunk.envc
  simp
theorem lp_fps (l : Nat) (r : Loop) (env : Env) (cs : List Chunk) : fps [Chunk.lp l r env cs] = l :: fps cs := by
  simp only [fps, List.flatMap_cons, List.flatMap_nil, List.append_nil]
  exact lp_fp l r env cs
theorem lp_holds {l : Nat} {r : Loop} {env : Env} {cs : List Chunk} {w : World} {A : Nat → Prop} : (Chunk.lp l r env cs).holds w A ↔ w.heap[l]? = some (.loop r) ∧ (∀ i t, look env i = some t → t.rd w A (r.tmps.getD i undef)) ∧ ∀ c ∈ cs, c.holds w A := by
  unfold Chunk.lp Chunk.bun
  simp only [List.mem_cons, forall_eq_or_imp]
  exact Iff.rfl

/-- the parameters of a round -/
def prm : List Nat → List Tr → Env → Env
  | p :: ps, t :: ts, e => prm ps ts ((p, t) :: e)
  | _, _, e => e
theorem foldl_size : ∀ (l : List (Nat × Value)) (t : Array Value), (l.foldl (fun t (p, v) => t.setIfInBounds p v) t).size = t.size
  | [], t => rfl
  | (p, v) :: l, t => by rw [List.foldl_cons, foldl_size l]; simp
theorem prm_rd {w : World} {A : Nat → Prop} : ∀ {ps : List Nat} {ts : List Tr} {vs : List Value} {e : Env} {tm : Array Value}, RdL w A ts vs → (∀ p ∈ ps, p < tm.size) → (∀ i t, look e i = some t → t.rd w A (tm.getD i undef)) →
    ∀ i t, look (prm ps ts e) i = some t → t.rd w A (((ps.zip vs).foldl (fun t (p, v) => t.setIfInBounds p v) tm).getD i undef)
  | [], ts, vs, e, tm, _, _, h, i, t, hl => by
    simp only [prm] at hl
    simpa using h i t hl
  | p :: ps, [], vs, e, tm, hr, _, h, i, t, hl => by
    simp only [prm] at hl
    have : vs = [] := hr
    subst this
    simpa using h i t hl
  | p :: ps, u :: ts, _, e, tm, ⟨v, rest, rfl, hu, hr⟩, hp, h, i, t, hl => by
    simp only [prm] at hl
    rw [List.zip_cons_cons, List.foldl_cons]
    refine prm_rd hr (fun q hq => by simp only [Array.size_setIfInBounds]; exact hp q (List.mem_cons_of_mem _ hq)) ?_ i t hl
    intro j s hj
    have hpt := hp p (by simp)
    by_cases e1 : p = j
    · subst e1
      rw [look_cons_same] at hj
      cases hj
      rw [Array.getD_eq_getD_getElem?, Array.getElem?_setIfInBounds_self, if_pos hpt]
      exact hu
    · rw [look_cons_ne _ _ e1] at hj
      have := h j s hj
      rw [Array.getD_eq_getD_getElem?] at this ⊢
      rwa [Array.getElem?_setIfInBounds_ne e1]

/-- how a round may be left -/
def RPost (Γ : Ctx) (I : List Chunk → Prop) (Ix : Code → List Chunk → Prop) : Post
  | .normal, env, cs => ∃ cs2, Ent Γ env cs [] cs2 ∧ I cs2
  | .ret, env, cs => ∃ cs2, Ent Γ env cs [] cs2 ∧ Ix .ret cs2
  | .exit id, env, cs => ∃ cs2, Ent Γ env cs [] cs2 ∧ Ix (.exit id) cs2
  | .goto t, env, cs => ∃ cs2, Ent Γ env cs [] cs2 ∧ Ix (.goto t) cs2
  | _, _, _ => False
def NoX : Post := fun _ _ _ => False

/-- a round, out of the walks of its two codes -/
theorem yspec_of {l : Nat} {r : Loop} {ps : List Nat} {n : Nat} {csk : List Chunk} {args : List Tr} {I : List Chunk → Prop} {Ix : Code → List Chunk → Prop} (hrs : r.state = .ready) (hrp : r.pending = none) (hrn : r.tmps.size = n) (hps : r.params = ps.toArray) (hpn : ∀ p ∈ ps, p < n) (hal : args.length = ps.length)
    (hbody : ∀ w0 own0 M, Cw P ⟨w0, own0, M, n, some l, []⟩ r.assign (prm ps args env) csk (Then (fun env1 cs1 => ∀ w0 own0, Cw P ⟨w0, own0, M, n, some l, []⟩ r.body env1 cs1 (RPost ⟨w0, own0, M, n, some l, []⟩ I Ix)) NoX)) :
    YSpec P l args [Chunk.lp l r env csk] (fun rr cs => (rr = Tr.bool true ∧ ∃ c', (∃ cs2, I cs2 ∧ c' = Chunk.lp l r env cs2) ∧ cs = [c']) ∨ (rr = Tr.bool false ∧ ∃ c', (∃ j cs2, Ix j cs2 ∧ c' = Chunk.lp l { r with state := .done, pending := some j } env cs2) ∧ cs = [c'])) := by
  intro M w vs hr hch hnd hlt hM
  have hfps := lp_fps l r env csk
  rw [hfps] at hnd hlt
  have hc := hch _ (List.mem_singleton.2 rfl)
  rw [lp_holds] at hc
  obtain ⟨hrec, henv, hcs⟩ := hc
  have hav : ∀ c2 : List Chunk, ∀ q : Loop, av M [Chunk.lp l q env c2] = av (fun b => M b ∨ b = l) c2 := by
    intro c2 q
    funext b
    simp only [av, lp_fps, List.mem_cons, not_or]
    apply propext
    constructor
    · rintro ⟨h1, h2, h3⟩; exact ⟨⟨h1, h2⟩, h3⟩
    · rintro ⟨⟨h1, h2⟩, h3⟩; exact ⟨h1, h2, h3⟩
  rw [hav] at hr henv hcs
  have hlw : l < w.heap.size := (hlt l (by simp)).1
  have hlM : ¬ M l := (hlt l (by simp)).2
  rw [List.nodup_cons] at hnd
  have hsz : vs.toArray.size = r.params.size := by rw [hps]; simp [hr.length, hal]
  refine ⟨_, _, _, _, run_yield hrec hsz, ?_⟩
  refine roundIn_of_wpIn trivial ?_
  have hb := hbody w (fps csk) (fun b => M b ∨ b = l)
  unfold Cw at hb
  have hzip : (r.params.zip vs.toArray).foldl (fun tmps (t, a) => tmps.setIfInBounds t a) r.tmps = (ps.zip vs).foldl (fun t (p, v) => t.setIfInBounds p v) r.tmps := by
    rw [hps]
    simp [← Array.foldl_toList]
  have d0 : Den ⟨w, fps csk, fun b => M b ∨ b = l, n, some l, []⟩ (prm ps args env) csk { tmps := (r.params.zip vs.toArray).foldl (fun tmps (t, a) => tmps.setIfInBounds t a) r.tmps, defers := [] } w := by
    refine ⟨rfl, by simp only [hzip, foldl_size]; exact hrn, ?_, hcs, hnd.2, ?_, ?_, Frm.refl _ _⟩
    · intro i t hl
      simp only [hzip]
      exact prm_rd hr (fun p hp => by rw [hrn]; exact hpn p hp) henv i t hl
    · intro b hb
      have := hlt b (by simp [hb])
      exact ⟨this.1, fun h => h.elim this.2 (fun e => hnd.1 (e ▸ hb)), .inl hb⟩
    · intro b hb
      rcases hb with hb | rfl
      · exact hM b hb
      · exact hlw
  refine wpIn_mono (wpIn_depth (n := 9) (m := 8) rfl (hb _ _ d0)) ?_
  rintro e a1 w1 ⟨env1, cs1, hq, d1⟩
  cases e with
  | normal =>
    unfold Then at hq
    have hl1 : w1.heap[l]? = some (.loop r) := (d1.frame.block l hlw hnd.1).trans hrec
    have hlw1 : l < w1.heap.size := (Array.getElem?_eq_some_iff.1 hl1).1
    refine ⟨_, run_beginRound hl1 hrs, ?_⟩
    obtain ⟨w2, hw2⟩ : ∃ w2, w2 = w1.putObj l (.loop { r with state := .busy }) := ⟨_, rfl⟩
    rw [← hw2]
    have hs12 : SameOn w1 w2 (av (fun b => M b ∨ b = l) cs1) (av (fun b => M b ∨ b = l) cs1) := by
      intro b hb ⟨m1, m2⟩
      exact ⟨⟨m1, m2⟩, by rw [hw2]; exact World.putObj_heap_other (fun e => m1 (.inr e))⟩
    have hsz12 : w2.heap.size = w1.heap.size := by rw [hw2]; simp
    have hln : l ∉ fps cs1 := fun h => (d1.fresh l h).2.1 (.inr rfl)
    have d2 : Den ⟨w2, fps cs1, fun b => M b ∨ b = l, n, some l, []⟩ env1 cs1 a1 w2 := by
      refine ⟨d1.nodefer, d1.tmps, fun i t h => t.mono hs12 (d1.env i t h), ?_, d1.nodup, ?_, ?_, Frm.refl _ _⟩
      · intro c hc
        refine c.mono (fun b hb _ => ?_) hs12 (d1.chunks c hc)
        rw [hw2]
        exact World.putObj_heap_other (fun e => hln (by rw [← e]; exact List.mem_flatMap.2 ⟨c, hc, hb⟩))
      · intro b hb
        have := d1.fresh b hb
        exact ⟨by rw [hsz12]; exact this.1, this.2.1, .inl hb⟩
      · intro b hb
        have h1 := d1.below b hb
        have h2 := d1.frame.size
        simp only at h1 h2 ⊢
        omega
    have hb2 := hq w2 (fps cs1)
    unfold Cw at hb2
    refine wpIn_mono (wpIn_depth (n := 9) (m := 8) rfl (hb2 _ _ d2)) ?_
    rintro e a3 w3 ⟨env3, cs3, hq3, d3⟩
    have hl3 : w3.heap[l]? = some (.loop { r with state := .busy }) := by
      rw [d3.frame.block l (by simp only [hsz12]; exact hlw1) hln]
      simp only [hw2]
      exact World.putObj_heap_same hlw1
    have hlw3 : l < w3.heap.size := (Array.getElem?_eq_some_iff.1 hl3).1
    have fin : ∀ (q : Loop) (b : Bool) (cs2 : List Chunk) (post : Tr → List Chunk → Prop), q.tmps = r.tmps → Ent ⟨w2, fps cs1, fun b => M b ∨ b = l, n, some l, []⟩ env3 cs3 [] cs2 → post (Tr.bool b) [Chunk.lp l q env cs2] →
        After M [Chunk.lp l r env csk] post w (.returned (.bool b)) (w3.putObj l (.loop q)) := by
      intro q b cs2 post hqt hE hpost
      unfold Ent at hE
      have d4 := hE _ _ d3
      have hln2 : l ∉ fps cs2 := fun h => (d4.fresh l h).2.1 (.inr rfl)
      have hfresh2 : ∀ x ∈ fps cs2, x ∈ fps csk ∨ w.heap.size ≤ x := by
        intro x hx
        have h1 := (d4.fresh x hx).2.2
        simp only at h1
        rcases h1 with h1 | h1
        · exact (d1.fresh x h1).2.2
        · have := d1.frame.size
          simp only at this
          exact .inr (by omega)
      have hblk : ∀ x, x < w.heap.size → x ∉ fps csk → x ≠ l → (w3.putObj l (.loop q)).heap[x]? = w.heap[x]? := by
        intro x hx hn hne
        rw [World.putObj_heap_other hne]
        have h1 : x ∉ fps cs1 := fun h => by
          rcases (d1.fresh x h).2.2 with h2 | h2
          · exact hn h2
          · simp only at h2; omega
        have hx1 : x < w1.heap.size := Nat.lt_of_lt_of_le hx d1.frame.size
        rw [d3.frame.block x (by simp only [hsz12]; exact hx1) h1]
        simp only [hw2]
        rw [World.putObj_heap_other hne]
        exact d1.frame.block x hx hn
      have hs : SameOn w (w3.putObj l (.loop q)) (av (fun b => M b ∨ b = l) csk) (av (fun b => M b ∨ b = l) cs2) := by
        intro x hx ⟨m1, m2⟩
        refine ⟨⟨m1, fun h => ?_⟩, hblk x hx m2 (fun e => m1 (.inr e))⟩
        rcases hfresh2 x h with h2 | h2
        · exact m2 h2
        · omega
      have hs3 : SameOn w3 (w3.putObj l (.loop q)) (av (fun b => M b ∨ b = l) cs2) (av (fun b => M b ∨ b = l) cs2) := by
        intro x hx ⟨m1, m2⟩
        exact ⟨⟨m1, m2⟩, World.putObj_heap_other (fun e => m1 (.inr e))⟩
      have hsz3 : w.heap.size ≤ w3.heap.size := by
        have h1 := d1.frame.size
        have h2 := d3.frame.size
        simp only [hsz12] at h1 h2
        omega
      refine ⟨.bool b, Tr.bool b, [Chunk.lp l q env cs2], rfl, hpost, raw_self _, ?_, ?_, ?_, ?_⟩
      · intro c hc
        rw [List.mem_singleton] at hc
        subst hc
        rw [hav, lp_holds]
        refine ⟨World.putObj_heap_same hlw3, fun i t hl => ?_, fun c hc => ?_⟩
        · rw [hqt]
          exact t.mono hs (henv i t hl)
        · refine c.mono (fun b hb _ => World.putObj_heap_other (fun e => hln2 (by rw [← e]; exact List.mem_flatMap.2 ⟨c, hc, hb⟩))) hs3 (d4.chunks c hc)
      · rw [lp_fps, List.nodup_cons]
        exact ⟨hln2, d4.nodup⟩
      · intro x hx
        rw [lp_fps] at hx
        rw [hfps]
        rcases List.mem_cons.1 hx with rfl | hx
        · exact ⟨by simp only [World.putObj_size]; exact hlw3, hlM, .inl (by simp)⟩
        · refine ⟨by simp only [World.putObj_size]; exact (d4.fresh x hx).1, fun h => (d4.fresh x hx).2.1 (.inl h), ?_⟩
          rcases hfresh2 x hx with h | h
          · exact .inl (by simp [h])
          · exact .inr h
      · rw [hfps]
        refine ⟨?_, ?_, ?_, by simp only [World.putObj_size]; exact hsz3, fun x hx hn => ?_, fun _ => ?_⟩
        · have h1 := d1.frame.os; have h2 := d3.frame.os; simp only [hw2, World.putObj] at h1 h2 ⊢; exact h2.trans h1
        · have h1 := d1.frame.tape; have h2 := d3.frame.tape; simp only [hw2, World.putObj] at h1 h2 ⊢; exact h2.trans h1
        · have h1 := d1.frame.output; have h2 := d3.frame.output; simp only [hw2, World.putObj] at h1 h2 ⊢; exact h2.trans h1
        · simp only [List.mem_cons, not_or] at hn
          exact hblk x hx hn.2 hn.1
        · have h1 := d1.frame.drawn trivial; have h2 := d3.frame.drawn trivial; simp only [hw2, World.putObj] at h1 h2 ⊢; exact Nat.le_trans h1 h2
    cases e with
    | normal =>
      obtain ⟨cs2, hE, hI⟩ := hq3
      refine ⟨_, _, run_endRound none hl3, ?_⟩
      refine fin _ true cs2 _ rfl hE (.inl ⟨rfl, _, ⟨cs2, hI, ?_⟩, rfl⟩)
      congr 1
      cases r
      simp only at hrs hrp ⊢
      subst hrs hrp
      rfl
    | ret =>
      obtain ⟨cs2, hE, hI⟩ := hq3
      exact ⟨_, _, run_endRound (some .ret) hl3, fin _ false cs2 _ rfl hE (.inr ⟨rfl, _, ⟨_, cs2, hI, rfl⟩, rfl⟩)⟩
    | exit id =>
      obtain ⟨cs2, hE, hI⟩ := hq3
      exact ⟨_, _, run_endRound (some (.exit id)) hl3, fin _ false cs2 _ rfl hE (.inr ⟨rfl, _, ⟨_, cs2, hI, rfl⟩, rfl⟩)⟩
    | goto t =>
      obtain ⟨cs2, hE, hI⟩ := hq3
      exact ⟨_, _, run_endRound (some (.goto t)) hl3, fin _ false cs2 _ rfl hE (.inr ⟨rfl, _, ⟨_, cs2, hI, rfl⟩, rfl⟩)⟩
    | panic ch => exact hq3.elim
    | outgrown => exact hq3.elim
  | ret => unfold Then NoX at hq; exact hq.elim
  | exit id => unfold Then NoX at hq; exact hq.elim
  | goto t => unfold Then NoX at hq; exact hq.elim
  | panic ch => unfold Then NoX at hq; exact hq.elim
  | outgrown => unfold Then NoX at hq; exact hq.elim
theorem RPost.norm {I : List Chunk → Prop} {Ix : Code → List Chunk → Prop} {cs2 : List Chunk} (he : Ent Γ env cs [] cs2) (h : I cs2) : RPost Γ I Ix .normal env cs := ⟨cs2, he, h⟩
theorem RPost.ret {I : List Chunk → Prop} {Ix : Code → List Chunk → Prop} {cs2 : List Chunk} (he : Ent Γ env cs [] cs2) (h : Ix .ret cs2) : RPost Γ I Ix .ret env cs := ⟨cs2, he, h⟩
end rng
attribute [irreducible] YSpec RPost NoX Chunk.lp
end Lg
end
