/- A part of the proof of a law of this seat: it adds no condition. By an AI agent. -/
import Derived.Lib.Bytealg
import Derived.Laws.Externs
import Derived.Test.YthgcdnfhfejijaaGreatDoorLgMap
section
set_option linter.all false
namespace Lg
open Go

/-! ### an owned slice lent to a function that writes nothing of it -/
section lend
variable {P : Program}
/-- a chunk that speaks of its own blocks alone -/
def FreeC (c : Chunk) : Prop := ∀ (w : World) (A A' : Nat → Prop), c.holds w A → c.holds w A'
theorem FreeC.own {ad : Option Addr} {cap k : Nat} {E : TypeId} {rows : List (List Tr)} (h : FreeL rows.flatten) : FreeC (Chunk.own ad cap k E rows) := by
 intro w A A' hh
 unfold Chunk.own at hh ⊢
 obtain ⟨hk, xs, ho, hrx⟩ := hh
 exact ⟨hk, xs, ho, h.rdc hrx⟩
theorem FreeL.intRows (l : List Int) : FreeL (intRows l).flatten := by
 unfold Lg.intRows
 induction l with
 |nil => exact .nil
 |cons x l ih =>
  rw [List.map_cons, List.flatten_cons]
  exact .cons FreeT.raw ih
theorem Spec.lend {f : FuncId} {pre suf : List Tr} {C : List Chunk} {kk E n cap : Nat} {ad : Option Addr} {rows : List (List Tr)} {post : Tr → List Chunk → Prop} (h : Spec P f (pre ++ .sl kk rows :: suf) C post) (hn : n = rows.length)
  (hfr : ∀ r cs, post r cs → FreeT r ∧ ∀ c ∈ cs, FreeC c) :
  Spec P f (pre ++ Tr.raw (.slice ad n cap) :: suf) (Chunk.own ad cap kk E rows :: C) (fun r cs => ∃ cs0, cs = Chunk.own ad cap kk E rows :: cs0 ∧ post r cs0) := by
 subst hn
 unfold Spec at h ⊢
 obtain ⟨h1, h2⟩ := h
 refine ⟨h1, fun M w vs hr hch hnd hlt hM => ?_⟩
 have hfp : (Chunk.own ad cap kk E rows).fp = (Value.ownBlock (.slice ad rows.length cap)).toList := by unfold Chunk.own; simp
 have hfps : ∀ L, fps (Chunk.own ad cap kk E rows :: L) = (Chunk.own ad cap kk E rows).fp ++ fps L := fun L => by simp [fps]
 have hs : SameOn w w (av M (Chunk.own ad cap kk E rows :: C)) (av M C) := fun b _ ⟨h1, h2⟩ => ⟨⟨h1, fun hm => h2 (by rw [hfps]; exact List.mem_append.2 (.inr hm))⟩, rfl⟩
 have hown0 := hch (Chunk.own ad cap kk E rows) (by simp)
 have hown := hown0
 unfold Chunk.own at hown
 obtain ⟨hk, xs, ho, hrx⟩ := hown
 rw [hfps] at hnd
 obtain ⟨hnd1, hnd2, hnd3⟩ := List.nodup_append.1 hnd
 have hsl : (Tr.sl kk rows).rd w (av M C) (.slice ad rows.length cap) := by
  unfold Tr.sl
  rcases ho.2 with ⟨e1, e2⟩ | ⟨g, cp, cur, hv, hg, hb, q1, q2, q3, q4⟩
  ·simp only [Value.slice.injEq] at e1
   obtain ⟨rfl, _, rfl⟩ := e1
   exact ⟨hk, by simp [e2], none, 0, rfl, by omega, by simp, fun _ => ⟨List.eq_nil_of_length_eq_zero e2, rfl⟩, .inl (List.eq_nil_of_length_eq_zero e2)⟩
  ·simp only [Value.slice.injEq] at hv
   obtain ⟨rfl, _, rfl⟩ := hv
   have hg1 : g ∈ (Chunk.own (some ⟨g, 0, none⟩) cap kk E rows).fp := by rw [hfp]; simp [Value.ownBlock]
   have hfr := hlt g (by rw [hfps]; exact List.mem_append.2 (.inl hg1))
   refine ⟨hk, by omega, _, cap, rfl, q1, q2, fun h => absurd h (by simp), .inr ⟨g, 0, rfl, ⟨hfr.2, fun hm => hnd3 g hg1 g hm rfl⟩, cur, E, _, hb, ?_⟩⟩
   rw [List.drop_zero, flat_len hk, q4]
   have hs2 : SameOn w w (av M (Chunk.own (some ⟨g, 0, none⟩) cap kk E rows :: C)) (av M C) := hs
   unfold Chunk.own at hs2
   exact hrx.mono hs2
 have hargs : ∀ (pre : List Tr) (vs : List Value), RdL w (av M (Chunk.own ad cap kk E rows :: C)) (pre ++ Tr.raw (.slice ad rows.length cap) :: suf) vs → RdL w (av M C) (pre ++ .sl kk rows :: suf) vs := by
  intro pre
  induction pre with
  |nil =>
   intro vs hr
   obtain ⟨v, rest, rfl, hv, hr⟩ := hr
   have := rd_raw hv
   subst this
   exact ⟨_, _, rfl, hsl, hr.mono hs⟩
  |cons p pre ih =>
   intro vs hr
   obtain ⟨v, rest, rfl, hv, hr⟩ := hr
   exact ⟨v, rest, rfl, p.mono hs hv, ih rest hr⟩
 refine (h2 M w vs (hargs pre vs hr) (fun c hc => Chunk.mono _ (fun b _ hb => rfl) hs (hch c (List.mem_cons_of_mem _ hc))) hnd2 (fun b hb => hlt b (by rw [hfps]; exact List.mem_append.2 (.inr hb))) hM).mono ?_
 rintro e w' ⟨v, r, cs', rfl, hpost, hrd, hch', hnd', hlt', hfm⟩
 obtain ⟨hfr1, hfr2⟩ := hfr r cs' hpost
 have hold : ∀ b, b ∈ (Chunk.own ad cap kk E rows).fp → b < w.heap.size → w'.heap[b]? = w.heap[b]? := fun b hb hl => hfm.block b hl (fun hm => hnd3 b hb b hm rfl)
 refine ⟨v, r, _, rfl, ⟨cs', rfl, hpost⟩, hfr1 _ _ _ _ _ hrd, ?_, ?_, ?_, ⟨hfm.os, hfm.tape, hfm.output, hfm.size, fun b hb hn => hfm.block b hb (fun hm => hn (by rw [hfps]; exact List.mem_append.2 (.inr hm))), hfm.drawn⟩⟩
 ·have hs2 : SameOn w w' (av M (Chunk.own ad cap kk E rows :: C)) (av M (Chunk.own ad cap kk E rows :: cs')) := by
   intro b hb ⟨m1, m2⟩
   rw [hfps] at m2
   refine ⟨⟨m1, fun hm => ?_⟩, hfm.block b hb fun hm => m2 (List.mem_append.2 (.inr hm))⟩
   rw [hfps] at hm
   rcases List.mem_append.1 hm with hm | hm
   ·exact m2 (List.mem_append.2 (.inl hm))
   ·obtain ⟨_, _, q3⟩ := hlt' b hm
    rcases q3 with q3 | q3
    ·exact m2 (List.mem_append.2 (.inr q3))
    ·omega
  intro c hc
  rcases List.mem_cons.1 hc with rfl | hc
  ·exact Chunk.mono _ (fun b hb hl => hold b hb hl) hs2 hown0
  ·exact hfr2 c hc _ _ _ (hch' c hc)
 ·rw [hfps]
  refine List.nodup_append.2 ⟨hnd1, hnd', fun b hb d hd hbd => ?_⟩
  subst hbd
  obtain ⟨_, _, q3⟩ := hlt' b hd
  rcases q3 with q3 | q3
  ·exact hnd3 b hb b q3 rfl
  ·have := (hlt b (by rw [hfps]; exact List.mem_append.2 (.inl hb))).1
   omega
 ·intro b hb
  rw [hfps] at hb ⊢
  rcases List.mem_append.1 hb with hb | hb
  ·obtain ⟨q1, q2⟩ := hlt b (by rw [hfps]; exact List.mem_append.2 (.inl hb))
   exact ⟨Nat.lt_of_lt_of_le q1 hfm.size, q2, .inl (List.mem_append.2 (.inl hb))⟩
  ·obtain ⟨q1, q2, q3⟩ := hlt' b hb
   exact ⟨q1, q2, q3.imp (fun h => List.mem_append.2 (.inr h)) id⟩
/-- what a function hands out beside another value is settled at once -/
theorem Spec.settle2 {f : FuncId} {args : List Tr} {C L : List Chunk} {k E n : Nat} {rows : List (List Tr)} {t : Tr}
  (h : Spec P f args C (fun r cs => ∃ (ad : Option Addr) (cap : Nat), r = .tup [Tr.raw (.slice ad n cap), t] ∧ cs = L ++ [Chunk.own ad cap k E rows])) (hn : n = rows.length) :
  Spec P f args C (fun r cs => r = .tup [.sl k rows, t] ∧ cs = L) := by
 subst hn
 unfold Spec at h ⊢
 obtain ⟨h1, h2⟩ := h
 refine ⟨h1, fun M w vs hr hch hnd hlt hM => (h2 M w vs hr hch hnd hlt hM).mono ?_⟩
 rintro e w' ⟨v, r, cs', rfl, ⟨ad, cap, rfl, rfl⟩, hrd, hch', hnd', hlt', hfm⟩
 have hfps : fps (L ++ [Chunk.own ad cap k E rows]) = fps L ++ (Chunk.own ad cap k E rows).fp := by simp [fps]
 have hs : SameOn w' w' (av M (L ++ [Chunk.own ad cap k E rows])) (av M L) := fun b _ ⟨g1, g2⟩ => ⟨⟨g1, fun hm => g2 (by rw [hfps]; exact List.mem_append.2 (.inl hm))⟩, rfl⟩
 rw [hfps] at hnd'
 obtain ⟨hnd1, hnd2, hnd3⟩ := List.nodup_append.1 hnd'
 have hfp : (Chunk.own ad cap k E rows).fp = (Value.ownBlock (.slice ad rows.length cap)).toList := by unfold Chunk.own; simp
 have hown := hch' (Chunk.own ad cap k E rows) (by simp)
 unfold Chunk.own at hown
 obtain ⟨hk, xs, ho, hrx⟩ := hown
 have hsl : (Tr.sl k rows).rd w' (av M L) (.slice ad rows.length cap) := by
  unfold Tr.sl
  rcases ho.2 with ⟨e1, e2⟩ | ⟨g, cp, cur, hv, hg, hb, q1, q2, q3, q4⟩
  ·simp only [Value.slice.injEq] at e1
   obtain ⟨rfl, _, rfl⟩ := e1
   exact ⟨hk, by simp [e2], none, 0, rfl, by omega, by simp, fun _ => ⟨List.eq_nil_of_length_eq_zero e2, rfl⟩, .inl (List.eq_nil_of_length_eq_zero e2)⟩
  ·simp only [Value.slice.injEq] at hv
   obtain ⟨rfl, _, rfl⟩ := hv
   have hg1 : g ∈ (Chunk.own (some ⟨g, 0, none⟩) cap k E rows).fp := by rw [hfp]; simp [Value.ownBlock]
   have hfr := hlt' g (by rw [hfps]; exact List.mem_append.2 (.inr hg1))
   refine ⟨hk, by omega, _, cap, rfl, q1, q2, fun h => absurd h (by simp), .inr ⟨g, 0, rfl, ⟨hfr.2.1, fun hm => hnd3 g hm g hg1 rfl⟩, cur, E, _, hb, ?_⟩⟩
   rw [List.drop_zero, flat_len hk, q4]
   have hs2 : SameOn w' w' (av M (L ++ [Chunk.own (some ⟨g, 0, none⟩) cap k E rows])) (av M L) := hs
   unfold Chunk.own at hs2
   exact hrx.mono hs2
 unfold Tr.tup at hrd
 obtain ⟨us, rfl, v1, us2, rfl, hv1, v2, us3, rfl, hv2, rfl⟩ := hrd
 have := rd_raw hv1
 subst this
 refine ⟨_, _, _, rfl, ⟨rfl, rfl⟩, ?_, fun c hc => Chunk.mono _ (fun b _ _ => rfl) hs (hch' c (List.mem_append.2 (.inl hc))), hnd1, fun b hb => hlt' b (by rw [hfps]; exact List.mem_append.2 (.inl hb)), hfm⟩
 unfold Tr.tup
 exact ⟨_, rfl, _, _, rfl, hsl, _, _, rfl, Tr.mono _ hs hv2, rfl⟩
end lend
end Lg
end
section
set_option linter.all false
namespace Lg
open Go Go.ChangeMaps

/-! ### an iterator that stands at an entry -/
section maps
variable {P : Program} {Γ : Ctx} {env env' : Env} {cs cs' cf : List Chunk} {Q : Post} {R : Array Oper}
variable {i : Tmp} {ty : TypeId} {pos : String} {af : Array Edge} {rest : List Oper}
variable {x y z : Operand} {T : TypeId}
variable {α : Type} [DecidableEq α] {enc : α → Value}

def Chunk.rc (enc : α → Value) (b r : Nat) (kv left : List (α × Tr)) (a : α) (t : Tr) : Chunk :=
 ⟨[b, r], fun w A => ∃ es clock seen, w.heap[b]? = some (.map es clock) ∧ EsR w A enc kv es.toList ∧ (borns es.toList).Pairwise (· < ·) ∧ (∀ e ∈ es.toList, e.born < clock) ∧
   w.heap[r]? = some (.mapIter (some b) clock seen clock) ∧ EsR w A enc left (unseen seen es.toList) ∧ ∃ (e : MapEntry) (seen0 : Array Nat), seen = seen0.push e.born ∧ e ∈ es.toList ∧ e.key = enc a ∧ t.rd w A e.val,
  fun hb h ⟨es, clock, seen, e, hr, h1, h2, h3, h4, e0, s0, q1, q2, q3, q4⟩ => ⟨es, clock, seen, (hb b (by simp) (Array.getElem?_eq_some_iff.1 e).1).trans e, hr.mono h, h1, h2, (hb r (by simp) (Array.getElem?_eq_some_iff.1 h3).1).trans h3, h4.mono h, e0, s0, q1, q2, q3, t.mono h q4⟩⟩
theorem Ent.rc {b r : Nat} {kv left : List (α × Tr)} {a : α} {t : Tr} (hp : cs.Perm (Chunk.rc enc b r kv left a t :: cf)) : Ent Γ env cs env (Chunk.rg enc b r kv left :: cf) := by
 unfold Ent
 intro ac w d
 refine (d.perm hp).turnF (fun q hq => .inl (by simpa [Chunk.rc, Chunk.rg] using hq)) ?_ (Frm.refl _ _) ?_
 ·have h := (d.perm hp).nodup
  simp only [fps, List.flatMap_cons] at h
  exact (List.nodup_append.1 h).1
 ·intro hs ⟨es, clock, seen, h0, hr, h1, h2, h3, h4, _⟩
  exact ⟨es, clock, seen, h0, hr.mono hs, h1, h2, h3, h4.mono hs⟩
/-- the next entry: any that is left; the iterator stands there -/
theorem Ops.nextC {b r : Nat} {kv left : List (α × Tr)} (hx : ev env x = some (.raw (.pointer (some ⟨r, 0, none⟩)))) (hp : cs.Perm (Chunk.rg enc b r kv left :: cf)) (hi : Nat.blt i Γ.n = true)
  (kend : left = [] → Ops P Γ R rest ((i, .tup [.bool false]) :: env) (Chunk.mp enc b kv :: cf) Q)
  (kont : ∀ j a t, left[j]? = some (a, t) → Ops P Γ R rest ((i, .tup [.bool true, .raw (enc a), t]) :: env) (Chunk.rc enc b r kv (left.eraseIdx j) a t :: cf) Q) : Ops P Γ R (⟨some i, .next x false, ty, pos, af, none⟩ :: rest) env cs Q :=
 Ops.of fun ac w d => by
  have hv := rd_raw (d.ev hx)
  have d := d.perm hp
  obtain ⟨es, clock, seen, hb, hr, h1, h2, h3, h4⟩ := d.has (List.Perm.refl _)
  have hle : (leftOf es seen).toList = unseen seen es.toList := by
   simp [leftOf, unseen, Array.toList_filter]
  have hnd := d.nodup
  simp only [fps, List.flatMap_cons, Chunk.rg] at hnd
  have hbr : b ≠ r := by
   intro e
   subst e
   simp at hnd
  rcases run_next_at (P := P) w ty r b clock clock seen es clock h3 hb h2 (Nat.le_refl _) with ⟨g1, g2⟩ | ⟨e, g1, w1, g2, g3⟩
  ·have hl0 : left = [] := by
    have e1 : (unseen seen es.toList) = [] := by
     rw [← hle]
     have := Array.eq_empty_of_size_eq_zero g1
     rw [this]
    rw [e1] at h4
    cases h4
    rfl
   have hd : Den Γ env (Chunk.mp enc b kv :: cf) ac w := by
    refine d.turnF (c' := Chunk.mp enc b kv) (fun q hq => .inl (by simp [Chunk.mp] at hq; simp [Chunk.rg, hq])) (by simp [Chunk.mp]) (Frm.refl _ _) ?_
    intro hs _
    exact ⟨es, clock, hb, hr.mono hs, h1, h2⟩
   refine ⟨_, _, .value (.tuple #[.bool false]), w, by simp [execOp, hv, g2] <;> rfl, .inl ⟨_, rfl, hd.put hi ?_⟩, kend hl0⟩
   unfold Tr.tup
   exact ⟨[.bool false], rfl, .bool false, [], rfl, raw_self _, rfl⟩
  ·rw [hle] at g1
   obtain ⟨j, hj, hje⟩ := List.getElem_of_mem g1
   have hj2 : (unseen seen es.toList)[j]? = some e := by rw [List.getElem?_eq_getElem hj, hje]
   obtain ⟨a, t, q1, q2, q3⟩ := h4.at hj2
   have hw1 : w1.heap = w.heap ∧ w1.os = w.os ∧ w1.tape = w.tape ∧ w1.output = w.output := by
    rcases g2 with rfl | rfl <;> exact ⟨rfl, rfl, rfl, rfl⟩
   have hrlt : r < w.heap.size := (Array.getElem?_eq_some_iff.1 h3).1
   have hem : e ∈ es.toList := by
    have h := List.mem_of_getElem? hj2
    unfold unseen at h
    exact (List.mem_filter.1 h).1
   have hother : ∀ q, q ≠ r → (setBlock w1 r (.mapIter (some b) clock (seen.push e.born) clock)).heap[q]? = w.heap[q]? := by
    intro q hq
    simp only [setBlock, hw1.1]
    rw [Array.getElem?_setIfInBounds_ne (Ne.symm hq)]
   have hsame : (setBlock w1 r (.mapIter (some b) clock (seen.push e.born) clock)).heap[r]? = some (.mapIter (some b) clock (seen.push e.born) clock) := by
    simp only [setBlock, hw1.1]
    rw [Array.getElem?_setIfInBounds_self]
    simp [hrlt]
   have hd : SameOn w (setBlock w1 r (.mapIter (some b) clock (seen.push e.born) clock)) (av Γ.M (Chunk.rg enc b r kv left :: cf)) (av Γ.M (Chunk.rc enc b r kv (left.eraseIdx j) a t :: cf)) ∧ Den Γ env (Chunk.rc enc b r kv (left.eraseIdx j) a t :: cf) ac (setBlock w1 r (.mapIter (some b) clock (seen.push e.born) clock)) := by
    have hs : SameOn w (setBlock w1 r (.mapIter (some b) clock (seen.push e.born) clock)) (av Γ.M (Chunk.rg enc b r kv left :: cf)) (av Γ.M (Chunk.rc enc b r kv (left.eraseIdx j) a t :: cf)) := by
     intro q hq ⟨m1, m2⟩
     refine ⟨⟨m1, by simpa [fps, Chunk.rg, Chunk.rc] using m2⟩, hother q fun e => m2 (by subst e; simp [fps, Chunk.rg])⟩
    refine ⟨hs, d.turn (c' := Chunk.rc enc b r kv (left.eraseIdx j) a t) rfl (fun q hq hn => hother q fun e => hn (by subst e; simp [Chunk.rg])) (by simp [setBlock, hw1.1]) hw1.2.1 hw1.2.2.1 hw1.2.2.2 ?_ (fun _ => by rcases g2 with rfl | rfl; exact Nat.le_refl _; exact Nat.le_succ _)⟩
    intro hs _
    refine ⟨es, clock, seen.push e.born, (hother b hbr).trans hb, hr.mono hs, h1, h2, hsame, ?_, e, seen, rfl, hem, q2, t.mono hs q3⟩
    rw [unseen_push h1 hj2]
    exact (h4.erase j).mono hs
   refine ⟨_, _, .value (.tuple #[.bool true, e.key, e.val]), _, by simp [execOp, hv, g3] <;> rfl, .inl ⟨_, rfl, hd.2.put hi ?_⟩, kont j a t q1⟩
   unfold Tr.tup
   exact ⟨[.bool true, e.key, e.val], rfl, .bool true, _, rfl, raw_self _, e.key, _, rfl, by rw [q2]; exact raw_self _, e.val, [], rfl, Tr.mono _ hd.1 q3, rfl⟩
/-- the entry at which the iterator stands -/
theorem OpV.entry {b r : Nat} {kv left : List (α × Tr)} {a : α} {t : Tr} (hx : ev env x = some (.raw (.pointer (some ⟨r, 0, none⟩)))) (hp : cs.Perm (Chunk.rc enc b r kv left a t :: cf)) : OpV P Γ (.entry x) ty env cs (.tup [.raw (enc a), t]) := by
 unfold OpV
 intro ac w d
 have hv := rd_raw (d.ev hx)
 obtain ⟨es, clock, seen, hb, hr, h1, h2, h3, h4, e, s0, q1, q2, q3, q4⟩ := d.has hp
 subst q1
 have hnd : (es.toList.map (·.born)).Nodup := by
  have h : (borns es.toList).Pairwise (· ≠ ·) := h1.imp (fun h => Nat.ne_of_lt h)
  exact h
 refine ⟨.tuple #[e.key, e.val], by simp [execOp, hv, run_entry_at (P := P) w r b clock s0 es clock e h3 hb q2 hnd] <;> rfl, ?_⟩
 unfold Tr.tup
 exact ⟨[e.key, e.val], rfl, e.key, _, rfl, by rw [q3]; exact raw_self _, e.val, [], rfl, q4, rfl⟩
theorem Ops.entry {b r : Nat} {kv left : List (α × Tr)} {a : α} {t : Tr} (hx : ev env x = some (.raw (.pointer (some ⟨r, 0, none⟩)))) (hp : cs.Perm (Chunk.rc enc b r kv left a t :: cf)) (hi : Nat.blt i Γ.n = true)
  (kont : Ops P Γ R rest ((i, .tup [.raw (enc a), t]) :: env) (Chunk.rg enc b r kv left :: cf) Q) : Ops P Γ R (⟨some i, .entry x, ty, pos, af, none⟩ :: rest) env cs Q :=
 Ops.val' hi (OpV.entry hx hp) (Ops.ent (Ent.rc hp) kont)
end maps

/-! ### entries as a list: what is gone is what was not left -/
theorem eraseIdx_perm {α : Type} {l : List α} {j : Nat} {x : α} (h : l[j]? = some x) : l.Perm (x :: l.eraseIdx j) := by
 induction l generalizing j with
 |nil => simp at h
 |cons y l ih =>
  cases j with
  |zero =>
   simp at h
   subst h
   exact List.Perm.refl _
  |succ j =>
   simp only [List.getElem?_cons_succ] at h
   rw [List.eraseIdx_cons_succ]
   exact ((ih h).cons y).trans (List.Perm.swap x y _)
theorem eraseIdx_snoc {α : Type} {l g left : List α} {j : Nat} {x : α} (hp : l.Perm (g ++ left)) (h : left[j]? = some x) : l.Perm ((g ++ [x]) ++ left.eraseIdx j) := by
 refine hp.trans ?_
 rw [List.append_assoc]
 exact List.Perm.append_left g (eraseIdx_perm h)
theorem eraseIdx_len {α : Type} {l : List α} {j : Nat} {x : α} (h : l[j]? = some x) : (l.eraseIdx j).length + 1 = l.length := by
 have := (eraseIdx_perm h).length_eq
 simpa using this.symm
end Lg
end
section
set_option linter.all false
namespace Lg
open Go

/-! ### strings in order -/
/-! ### a sorted list of keys that differ is determined by its elements -/
section uniq
variable {α : Type} (lt : α → α → Bool)
theorem insRev_sorted (h1 : ∀ a b, lt a b = true → lt b a = false) (h2 : ∀ a b c, lt b a = false → lt c b = false → lt c a = false) (x : α) : ∀ {l : List α}, l.Pairwise (fun a b => lt a b = false) → (insRev lt x l).Pairwise (fun a b => lt a b = false)
 |[], _ => by simp [insRev]
 |y :: r, h => by
  unfold insRev
  rw [List.pairwise_cons] at h
  cases hxy : lt x y with
  |true =>
   simp only [if_true]
   rw [List.pairwise_cons]
   refine ⟨fun z hz => ?_, insRev_sorted h1 h2 x h.2⟩
   rcases List.mem_cons.1 ((insRev_perm lt x r).mem_iff.1 hz) with rfl | hz
   ·exact h1 _ _ hxy
   ·exact h.1 z hz
  |false =>
   simp only [Bool.false_eq_true, if_false]
   rw [List.pairwise_cons]
   refine ⟨fun z hz => ?_, List.pairwise_cons.2 h⟩
   rcases List.mem_cons.1 hz with rfl | hz
   ·exact hxy
   ·exact h2 z y x (h.1 z hz) hxy
theorem isortB_sorted (h1 : ∀ a b, lt a b = true → lt b a = false) (h2 : ∀ a b c, lt b a = false → lt c b = false → lt c a = false) : ∀ (l : List α) {acc : List α}, acc.Pairwise (fun a b => lt b a = false) → (isortB lt acc l).Pairwise (fun a b => lt b a = false)
 |[], acc, h => h
 |x :: l, acc, h => by
  rw [isortB]
  refine isortB_sorted h1 h2 l ?_
  unfold insB
  rw [List.pairwise_reverse]
  exact insRev_sorted lt h1 h2 x (by rw [List.pairwise_reverse]; exact h)
theorem isort_sorted (h1 : ∀ a b, lt a b = true → lt b a = false) (h2 : ∀ a b c, lt b a = false → lt c b = false → lt c a = false) (l : List α) : (isort lt l).Pairwise (fun a b => lt b a = false) := isortB_sorted lt h1 h2 l List.Pairwise.nil
theorem sorted_uniq {le : α → α → Prop} : ∀ {l1 l2 : List α}, l1.Perm l2 → (∀ a ∈ l1, ∀ b ∈ l1, le a b → le b a → a = b) → l1.Pairwise le → l2.Pairwise le → l1 = l2
 |[], l2, hp, _, _, _ => (List.nil_perm.1 hp).symm
 |a :: l1, l2, hp, ha, h1, h2 => by
  cases l2 with
  |nil => exact absurd (List.perm_nil.1 hp) (by simp)
  |cons b l2 =>
   have hab : a = b := by
    rw [List.pairwise_cons] at h1 h2
    have hb : b ∈ a :: l1 := hp.mem_iff.2 (by simp)
    have ham : a ∈ b :: l2 := hp.mem_iff.1 (by simp)
    rcases List.mem_cons.1 hb with e | hb2
    ·exact e.symm
    ·rcases List.mem_cons.1 ham with e | ham2
     ·exact e
     ·exact ha a (by simp) b hb (h1.1 b hb2) (h2.1 a ham2)
   subst hab
   rw [List.pairwise_cons] at h1 h2
   rw [sorted_uniq (List.perm_cons a |>.1 hp) (fun x hx y hy => ha x (by simp [hx]) y (by simp [hy])) h1.2 h2.2]
theorem key_inj {κ : Type} {key : α → κ} : ∀ {l : List α}, (l.map key).Nodup → ∀ a ∈ l, ∀ b ∈ l, key a = key b → a = b
 |[], _, a, ha, _, _, _ => by cases ha
 |c :: l, h, a, ha, b, hb, e => by
  rw [List.map_cons, List.nodup_cons] at h
  rcases List.mem_cons.1 ha with ea | ha2
  ·rcases List.mem_cons.1 hb with eb | hb2
   ·rw [ea, eb]
   ·exact absurd (List.mem_map.2 ⟨b, hb2, by rw [← e, ea]⟩) h.1
  ·rcases List.mem_cons.1 hb with eb | hb2
   ·exact absurd (List.mem_map.2 ⟨a, ha2, by rw [e, eb]⟩) h.1
   ·exact key_inj h.2 a ha2 b hb2 e
end uniq
/-- sorted by a number -/
theorem isortI_uniq {α : Type} {key : α → Int} {l1 l2 : List α} (hp : l1.Perm l2) (hn : (l1.map key).Nodup) : isort (fun a b => decide (key a < key b)) l1 = isort (fun a b => decide (key a < key b)) l2 := by
 have H1 : ∀ a b : α, decide (key a < key b) = true → decide (key b < key a) = false := by simp; intro a b h; omega
 have H2 : ∀ a b c : α, decide (key b < key a) = false → decide (key c < key b) = false → decide (key c < key a) = false := by simp; intro a b c h1 h2; omega
 refine sorted_uniq (le := fun a b => decide (key b < key a) = false) ((isort_perm _ l1).trans (hp.trans (isort_perm _ l2).symm)) ?_ (isort_sorted _ H1 H2 l1) (isort_sorted _ H1 H2 l2)
 intro a ha b hb h1 h2
 simp only [decide_eq_false_iff_not] at h1 h2
 exact key_inj hn a ((isort_perm _ l1).mem_iff.1 ha) b ((isort_perm _ l1).mem_iff.1 hb) (by omega)
/-! ### maps of numbers -/
section mapI
variable {α : Type} [DecidableEq α]
def mI (a : α) : List (α × Int) → Int
 |[] => 0
 |p :: m => if a = p.1 then p.2 else mI a m
def mUp (a : α) (v : Int) : List (α × Int) → List (α × Int)
 |[] => [(a, v)]
 |p :: m => if a = p.1 then (a, v) :: m else p :: mUp a v m
def mAdd (a : α) (v : Int) (m : List (α × Int)) : List (α × Int) := mUp a (mI a m + v) m
def tkv (m : List (α × Int)) : List (α × Tr) := m.map fun p => (p.1, Tr.int p.2)
theorem tkv_read (a : α) (m : List (α × Int)) : mread a (.int .i64 0) (tkv m) = Tr.int (mI a m) := by
 unfold mread
 induction m with
 |nil => rfl
 |cons p m ih =>
  simp only [tkv, List.map_cons, mget, mI]
  split
  ·rfl
  ·exact ih
theorem tkv_set (a : α) (v : Int) (m : List (α × Int)) : mset a (Tr.int v) (tkv m) = tkv (mUp a v m) := by
 induction m with
 |nil => rfl
 |cons p m ih =>
  simp only [tkv, List.map_cons, mset, mUp]
  split
  ·rfl
  ·simp only [List.map_cons]
   exact congrArg _ ih
theorem tkv_at {m : List (α × Int)} {j : Nat} {a : α} {t : Tr} (h : (tkv m)[j]? = some (a, t)) : ∃ v, m[j]? = some (a, v) ∧ t = Tr.int v := by
 unfold tkv at h
 rw [List.getElem?_map] at h
 cases hm : m[j]? with
 |none => rw [hm] at h; simp at h
 |some p => rw [hm] at h; simp at h; exact ⟨p.2, by rw [← h.1], h.2.symm⟩
theorem tkv_erase (m : List (α × Int)) (j : Nat) : (tkv m).eraseIdx j = tkv (m.eraseIdx j) := by
 unfold tkv
 induction m generalizing j with
 |nil => rfl
 |cons p m ih =>
  cases j with
  |zero => rfl
  |succ j => simp only [List.map_cons, List.eraseIdx_cons_succ]; rw [ih]
theorem tkv_nil {m : List (α × Int)} (h : tkv m = []) : m = [] := by
 cases m with
 |nil => rfl
 |cons p m => cases h
theorem mUp_keys (a : α) (v : Int) : ∀ (m : List (α × Int)), (mUp a v m).map Prod.fst = if a ∈ m.map Prod.fst then m.map Prod.fst else m.map Prod.fst ++ [a]
 |[] => by simp [mUp]
 |p :: m => by
  simp only [mUp]
  by_cases h : a = p.1
  ·simp [h]
  ·rw [if_neg h, List.map_cons, mUp_keys a v m, List.map_cons]
   by_cases h2 : a ∈ m.map Prod.fst
   ·rw [if_pos h2, if_pos (by simp [h2])]
   ·rw [if_neg h2, if_neg (by simp only [List.mem_cons, not_or]; exact ⟨h, h2⟩)]
    rfl
theorem mUp_nodup {a : α} {v : Int} {m : List (α × Int)} (h : (m.map Prod.fst).Nodup) : ((mUp a v m).map Prod.fst).Nodup := by
 rw [mUp_keys]
 split
 ·exact h
 ·rename_i h2
  rw [List.nodup_append]
  exact ⟨h, by simp, fun x hx y hy e => by simp at hy; subst hy; subst e; exact h2 hx⟩
theorem mUp_len (a : α) (v : Int) : ∀ m : List (α × Int), (mUp a v m).length ≤ m.length + 1
 |[] => by simp [mUp]
 |p :: m => by
  simp only [mUp]
  split
  ·simp
  ·have := mUp_len a v m
   simp
   omega
theorem mAll_up {p : α × Int → Prop} {a : α} {v : Int} (h : p (a, v)) : ∀ {m : List (α × Int)}, (∀ q ∈ m, p q) → ∀ q ∈ mUp a v m, p q
 |[], _, q, hq => by simp [mUp] at hq; rw [hq]; exact h
 |r :: m, hm, q, hq => by
  simp only [mUp] at hq
  split at hq
  ·rcases List.mem_cons.1 hq with rfl | hq
   ·exact h
   ·exact hm q (by simp [hq])
  ·rcases List.mem_cons.1 hq with rfl | hq
   ·exact hm q (by simp)
   ·exact mAll_up h (fun x hx => hm x (by simp [hx])) q hq
theorem mI_all {p : Int → Prop} {a : α} (h0 : p 0) : ∀ {m : List (α × Int)}, (∀ q ∈ m, p q.2) → p (mI a m)
 |[], _ => h0
 |r :: m, hm => by
  simp only [mI]
  split
  ·exact hm r (by simp)
  ·exact mI_all h0 (fun x hx => hm x (by simp [hx]))
end mapI
end Lg
end
