/- A part of the proof of a law of this seat: it adds no condition. By an AI agent. -/
import Derived.Test.YtfgcjpkkbhnkgaaGreatDoorLgIns
section
set_option linter.all false
namespace Lg
open Go
section appo
variable {P : Program} {Γ : Ctx} {env env' : Env} {cs cs' cf : List Chunk} {Q : Post} {R : Array Oper}
variable {i : Tmp} {ty : TypeId} {pos : String} {af : Array Edge} {rest : List Oper} {x y : Operand} {T T2 : TypeId}
/-- an owned slice is put behind another one, and stays -/
theorem Ops.append_ownR {E kk bb z} [hS : TySl P T E kk bb z] {ad ad2 : Option Addr} {n cap n2 cap2 : Nat} {rows rows2 : List (List Tr)} (hx : ev env x = some (.raw (.slice ad n cap))) (hy : ev env y = some (.raw (.slice ad2 n2 cap2)))
  (hp : cs.Perm (Chunk.own ad cap kk E rows :: Chunk.own ad2 cap2 kk E rows2 :: cf)) (hn : n = rows.length) (hn2 : n2 = rows2.length) (hb : (rows.length + rows2.length) * bb ≤ 140737488355328) (hm : rows.length + rows2.length ≤ 9223372036854775807) (hi : Nat.blt i Γ.n = true)
  (kont : ∀ ad' cap', Ops P Γ R rest ((i, .raw (.slice ad' (rows ++ rows2).length cap')) :: env) (Chunk.own ad' cap' kk E (rows ++ rows2) :: Chunk.own ad2 cap2 kk E rows2 :: cf) Q) :
  Ops P Γ R (⟨some i, .call ⟨.builtin .append, #[x, y], #[T, T]⟩, ty, pos, af, none⟩ :: rest) env cs Q :=
 Ops.of fun a w d => by
  subst hn
  subst hn2
  have hv := rd_raw (d.ev hx)
  have hv2 := rd_raw (d.ev hy)
  have d' := d.perm hp
  have hh := d'.has (List.Perm.refl _)
  have hh2 := d'.has (List.Perm.swap _ _ _)
  generalize hA : av Γ.M (Chunk.own ad cap kk E rows :: Chunk.own ad2 cap2 kk E rows2 :: cf) = A at hh hh2
  unfold Chunk.own at hh hh2
  obtain ⟨hk, xs, hown, hrd⟩ := hh
  obtain ⟨hk2, xs2, hown2, hrd2⟩ := hh2
  subst hA
  obtain ⟨ti, zv, hi1, hi2, hi3, hi4, hi5, hi6⟩ := hS.hE
  have hzs : zv.cells.size = kk := hS.hz _ _ hi1 hi2
  have hm' : rows.length + rows2.length ≤ maxLen := by simp only [maxLen]; omega
  have key : ∃ v' w', (Builtin.append_ #[T, T] ty #[.slice ad rows.length cap, .slice ad2 rows2.length cap2]).run P w = .ok v' w' ∧
    w'.ownsRow 0 E kk v' (rows.length + rows2.length) (xs ++ xs2) ∧ w.grownBy w' (Value.ownBlock (.slice ad rows.length cap)) ∧ (∀ b, v'.ownBlock = some b → (Value.ownBlock (.slice ad rows.length cap)) = some b ∨ w.heap.size ≤ b) := by
   rcases hown2.2 with ⟨e, h0⟩ | ⟨g, c, cur, e, _⟩
   ·simp only [Value.slice.injEq] at e
    obtain ⟨rfl, e2, rfl⟩ := e
    have hxs : xs2 = [] := by
     have := hrd2.length
     rw [flat_len hk2, h0] at this
     exact List.eq_nil_of_length_eq_zero (by omega)
    subst hxs
    rw [h0]
    exact ⟨_, w, run_append_owned_none (P := P) w 0 T ty E ti kk hS.hT hi1 _ _ xs hown, by simpa using hown, ⟨rfl, rfl, rfl, Nat.le_refl _, fun _ _ _ => rfl⟩, fun b hb => .inl hb⟩
   ·simp only [Value.slice.injEq] at e
    obtain ⟨rfl, _, rfl⟩ := e
    exact append_run (P := P) (ty := ty) (a := ⟨g, 0, none⟩) (m := rows2.length) (c := cap2) (news := xs2) hS.hT hi1 hi2 hi4 hi5 hzs hi6 hown (by rw [hrd2.length]; exact flat_len hk2) (hown2.cells (g := g) rfl) hrd2.one hm' hb
  obtain ⟨v', w', hrun, hown', hgr, hfresh⟩ := key
  have hform : ∃ ad' cap', v' = .slice ad' (rows ++ rows2).length cap' := by
   rcases hown'.2 with ⟨e, h0⟩ | ⟨g, c, cur, e, _⟩
   ·exact ⟨none, 0, by rw [e, List.length_append, h0]⟩
   ·exact ⟨_, c, by rw [e, List.length_append]⟩
  obtain ⟨ad', cap', rfl⟩ := hform
  refine ⟨_, _, .value _, w', by simp [execOp, resolve, invoke, builtin, hv, hv2, hrun] <;> rfl, .inl ⟨_, rfl, Den.put ?_ hi (raw_self _)⟩, kont ad' cap'⟩
  refine d'.turnF (c' := Chunk.own ad' cap' kk E (rows ++ rows2)) ?_ ?_ ?_ ?_
  ·intro b hb
   have hb' : Value.ownBlock (.slice ad' (rows ++ rows2).length cap') = some b := by unfold Chunk.own at hb; simpa using hb
   rcases hfresh b hb' with h | h
   ·exact .inl (by unfold Chunk.own; simpa using h)
   ·exact .inr ⟨h, (hown'.lt b hb').2⟩
  ·have : (Chunk.own ad' cap' kk E (rows ++ rows2)).fp = (Value.ownBlock (.slice ad' (rows ++ rows2).length cap')).toList := by unfold Chunk.own; rfl
   rw [this]
   cases Value.ownBlock (.slice ad' (rows ++ rows2).length cap') <;> simp
  ·exact ⟨hgr.os, hgr.tape, hgr.output, hgr.size, fun b hb hn => hgr.block b hb fun e => hn (by unfold Chunk.own; simp [← e]), fun _ => run_drawn hrun⟩
  ·intro hs _
   generalize av Γ.M (Chunk.own ad' cap' kk E (rows ++ rows2) :: Chunk.own ad2 cap2 kk E rows2 :: cf) = A' at hs ⊢
   unfold Chunk.own
   refine ⟨?_, _, by simpa using hown', ?_⟩
   ·intro r hr
    rcases List.mem_append.1 hr with h | h
    ·exact hk r h
    ·exact hk2 r h
   ·rw [List.flatten_append]
    exact (hrd.mono hs).app (hrd2.mono hs)
end appo
end Lg
end
section
set_option linter.all false
namespace Lg
open Go

/-! ### a part of an owned slice: it is read and written through the whole one -/
section sub
variable {P : Program} {Γ : Ctx} {env env' : Env} {cs cs' cf : List Chunk} {Q : Post} {R : Array Oper}
variable {i : Tmp} {ty : TypeId} {pos : String} {af : Array Edge} {rest : List Oper}
variable {x y z : Operand} {T : TypeId} {k : IntKind} {p q : Int}

theorem OpV.indexAddr_sub {E kk bb z} [h : TySl P T E kk bb z] {ad : Option Addr} {o n cap cap2 : Nat} {e : TypeId} {rows : List (List Tr)} (hx : ev env x = some (.qsl ad o kk n cap2)) (hy : ev env y = some (.raw (.int k p)))
  (hp : cs.Perm (Chunk.own ad cap kk e rows :: cf)) (hn : o + n ≤ rows.length) (h0 : 0 ≤ p) (h1 : p < n) : OpV P Γ (.indexAddr T x y) ty env cs (.eptr ad kk (o + p.toNat) 0) :=
 (by
  unfold OpV
  intro a w d
  unfold Tr.qsl at hx
  unfold Tr.eptr
  have hv := rd_raw (d.ev hx)
  have hp' := rd_raw (d.ev hy)
  have hch := d.has hp
  obtain ⟨g, cur, rfl, _⟩ := own_some hch (fun e => by subst e; simp at hn; omega)
  simp only [Option.map_some] at hv
  exact ⟨_, by simp [execOp, hv, hp', run_indexAt (T := T) h0 h1] <;> rfl, g, rfl, by simp [Nat.add_mul]⟩)
theorem Ops.indexAddr_sub {E kk bb z} [h : TySl P T E kk bb z] {ad : Option Addr} {o n cap cap2 : Nat} {e : TypeId} {rows : List (List Tr)} (hx : ev env x = some (.qsl ad o kk n cap2)) (hy : ev env y = some (.raw (.int k p)))
  (hp : cs.Perm (Chunk.own ad cap kk e rows :: cf)) (hn : o + n ≤ rows.length) (h0 : 0 ≤ p) (h1 : p < n) (hi : Nat.blt i Γ.n = true)
  (kont : Ops P Γ R rest ((i, .eptr ad kk (o + p.toNat) 0) :: env) cs Q) : Ops P Γ R (⟨some i, .indexAddr T x y, ty, pos, af, none⟩ :: rest) env cs Q :=
 Ops.val' hi (OpV.indexAddr_sub hx hy hp hn h0 h1) kont
end sub
end Lg
end
section
set_option linter.all false
namespace Lg
open Go

/-! ### trees that speak of no memory -/
section free
variable {P : Program} {Γ : Ctx} {env env' : Env} {cs cs' cf : List Chunk} {Q : Post} {R : Array Oper}
variable {i : Tmp} {ty : TypeId} {pos : String} {af : Array Edge} {rest : List Oper}
variable {x y z : Operand} {T : TypeId} {k : IntKind} {p q : Int}
def FreeT (t : Tr) : Prop := ∀ (w : World) (A : Nat → Prop) (w' : World) (A' : Nat → Prop) (v : Value), t.rd w A v → t.rd w' A' v
inductive FreeL : List Tr → Prop
 |nil : FreeL []
 |cons {t : Tr} {ts : List Tr} (h : FreeT t) (k : FreeL ts) : FreeL (t :: ts)
theorem FreeT.any : FreeT Tr.any := by
 intro w A w' A' v _
 unfold Tr.any
 trivial
theorem FreeT.raw {v0 : Value} : FreeT (Tr.raw v0) := raw_free
theorem FreeL.rdc {w w' : World} {A A' : Nat → Prop} {ts : List Tr} (h : FreeL ts) : ∀ {vs : List Value}, RdC w A ts vs → RdC w' A' ts vs := by
 induction h with
 |nil => exact fun h => h
 |cons h _ ih =>
  rintro vs ⟨v, vs', rfl, h1, h2, h3⟩
  exact ⟨v, vs', rfl, h _ _ _ _ _ h1, h2, ih h3⟩
theorem FreeL.rdl {w w' : World} {A A' : Nat → Prop} {ts : List Tr} (h : FreeL ts) : ∀ {vs : List Value}, RdL w A ts vs → RdL w' A' ts vs := by
 induction h with
 |nil => exact fun h => h
 |cons h _ ih =>
  rintro vs ⟨v, vs', rfl, h1, h3⟩
  exact ⟨v, vs', rfl, h _ _ _ _ _ h1, ih h3⟩
theorem FreeT.agg {ts : List Tr} (h : FreeL ts) : FreeT (.agg ts) := by
 intro w A w' A' v hr
 unfold Tr.agg at hr ⊢
 obtain ⟨vs, e, hr⟩ := hr
 exact ⟨vs, e, h.rdc hr⟩
theorem FreeT.tup {ts : List Tr} (h : FreeL ts) : FreeT (.tup ts) := by
 intro w A w' A' v hr
 unfold Tr.tup at hr ⊢
 obtain ⟨vs, e, hr⟩ := hr
 exact ⟨vs, e, h.rdl hr⟩
theorem Imp.any {t : Tr} : Imp t Tr.any := by
 intro w A v _
 unfold Tr.any
 trivial
theorem ImpL.rdl {w : World} {A : Nat → Prop} {ts ts' : List Tr} (h : ImpL ts ts') : ∀ {vs : List Value}, RdL w A ts vs → RdL w A ts' vs := by
 induction h with
 |nil => exact fun h => h
 |cons h _ ih =>
  rintro vs ⟨v, vs', rfl, h1, h3⟩
  exact ⟨v, vs', rfl, h _ _ _ h1, ih h3⟩
theorem Imp.tup {ts ts' : List Tr} (h : ImpL ts ts') : Imp (.tup ts) (.tup ts') := by
 intro w A v hr
 unfold Tr.tup at hr ⊢
 obtain ⟨vs, e, hr⟩ := hr
 exact ⟨vs, e, h.rdl hr⟩
theorem PFn.imp {f : FuncId} {args : List Tr} {t t' : Tr} (h : PFn P f args (· = t)) (hi : Imp t t') : PFn P f args (· = t') := by
 unfold PFn Spec at h ⊢
 obtain ⟨h1, h2⟩ := h
 refine ⟨h1, fun M w vs hr hch hnd hlt hM => (h2 M w vs hr hch hnd hlt hM).mono ?_⟩
 rintro e w' ⟨v, r, cs', rfl, ⟨rfl, rfl⟩, hrd, h3⟩
 exact ⟨v, t', [], rfl, ⟨rfl, rfl⟩, hi _ _ _ hrd, h3⟩

/-- the head of an owned slice: the value alone -/
theorem OpV.slice_own_hP {E kk bb zs} [hS : TySl P T E kk bb zs] {ad : Option Addr} {n cap : Nat} {e : TypeId} {rows : List (List Tr)} (hx : ev env x = some (.raw (.slice ad n cap))) (hz : ev env z = some (.raw (.int k q)))
  (hp : cs.Perm (Chunk.own ad cap kk e rows :: cf)) (hn : n = rows.length) (h0 : 0 ≤ q ∧ q ≤ rows.length) : OpV P Γ (.slice T x none (some z) none) ty env cs (.raw (.slice ad q.toNat cap)) := by
 unfold OpV
 intro a w d
 subst hn
 have hv := rd_raw (d.ev hx)
 have hq := rd_raw (d.ev hz)
 have hch := (d.perm hp).has (List.Perm.refl _)
 have hcap : rows.length ≤ cap := by
  generalize av Γ.M _ = A at hch
  unfold Chunk.own at hch
  obtain ⟨_, xs, ho, _⟩ := hch
  rcases ho.2 with ⟨e1, e2⟩ | ⟨g, cp, cur, hv, hg, hb, h1, _⟩
  ·omega
  ·simp only [Value.slice.injEq] at hv
   omega
 have hrun := run_slice_parts (P := P) (t := T) (kk := kk) (a := ad) (bounds_h (P := P) (k := k) (w := w) (len := rows.length) (cap := cap) h0.1 (by omega))
 have hval : (if cap = 0 then ad else ad.map (·.add (0 * kk))) = ad := by
  split
  ·rfl
  ·cases ad <;> simp [Addr.add]
 rw [hval] at hrun
 exact ⟨_, by simp [execOp, hv, hq, hrun] <;> rfl, raw_self _⟩
/-- the tail of an owned slice is forgotten -/
theorem Ent.own_take {ad : Option Addr} {cap kk : Nat} {e : TypeId} {rows : List (List Tr)} (n : Nat) (hp : cs.Perm (Chunk.own ad cap kk e rows :: cf)) (hn : n ≤ rows.length) : Ent Γ env cs env (Chunk.own ad cap kk e (rows.take n) :: cf) := by
 unfold Ent
 intro a w d
 have d := d.perm hp
 have hf : ∀ rows : List (List Tr), (Chunk.own ad cap kk e rows).fp = ad.toList.map (·.block) := by
  intro rows
  unfold Chunk.own
  cases ad <;> simp [Value.ownBlock]
 have hfp : fps (Chunk.own ad cap kk e (rows.take n) :: cf) = fps (Chunk.own ad cap kk e rows :: cf) := by
  simp only [fps, List.flatMap_cons, hf]
 refine d.swapc hfp ?_
 intro c hc
 rcases List.mem_cons.1 hc with rfl | hc
 ·exact own_head n hn (d.chunks (Chunk.own ad cap kk e rows) (by simp))
 ·exact d.chunks c (List.mem_cons_of_mem _ hc)
theorem Ent.own_head {ad : Option Addr} {cap kk : Nat} {e : TypeId} {rows rows' : List (List Tr)} (n : Nat) (he : rows.take n = rows') (hp : cs.Perm (Chunk.own ad cap kk e rows :: cf)) (hn : n ≤ rows.length) : Ent Γ env cs env (Chunk.own ad cap kk e rows' :: cf) := by
 subst he
 exact Ent.own_take n hp hn
end free
end Lg
end
