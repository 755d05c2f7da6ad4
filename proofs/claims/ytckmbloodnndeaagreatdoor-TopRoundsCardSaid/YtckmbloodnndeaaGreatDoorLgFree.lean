/- A part of the proof of a law of this seat: it adds no condition. By an AI agent. -/
import Derived.Test.YtckmbloodnndeaaGreatDoorLgApp
set_option linter.all false
namespace Lg
open Go

/-! ### trees that speak of no memory -/
section free
variable {P : Program} {Γ : Ctx} {env env' : Env} {cs cs' cf : List Chunk} {Q : Post} {R : Array Oper}
variable {i : Tmp} {ty : TypeId} {pos : String} {af : Array Edge} {rest : List Oper}
variable {x y z : Operand} {T : TypeId} {k : IntKind} {p q : Int}
def FreeT (t : Tr) : Prop := ∀ (w : World) (A : Nat → Prop) (w' : World) (A' : Nat → Prop) (v : Value), t.rd w A v → t.rd w' A' v
inductive FreeL : List Tr → Prop
  | nil : FreeL []
  | cons {t : Tr} {ts : List Tr} (h : FreeT t) (k : FreeL ts) : FreeL (t :: ts)
theorem FreeT.any : FreeT Tr.any := by
  intro w A w' A' v _
  unfold Tr.any
  trivial
theorem FreeT.raw {v0 : Value} : FreeT (Tr.raw v0) := raw_free
theorem FreeL.rdc {w w' : World} {A A' : Nat → Prop} {ts : List Tr} (h : FreeL ts) : ∀ {vs : List Value}, RdC w A ts vs → RdC w' A' ts vs := by
  induction h with
  | nil => exact fun h => h
  | cons h _ ih =>
    rintro vs ⟨v, vs', rfl, h1, h2, h3⟩
    exact ⟨v, vs', rfl, h _ _ _ _ _ h1, h2, ih h3⟩
theorem FreeL.rdl {w w' : World} {A A' : Nat → Prop} {ts : List Tr} (h : FreeL ts) : ∀ {vs : List Value}, RdL w A ts vs → RdL w' A' ts vs := by
  induction h with
  | nil => exact fun h => h
  | cons h _ ih =>
    rintro vs ⟨v, vs', rfl, h1, h3⟩
    exact ⟨v, vs', rfl, h _ _ _ _ _ h1, ih h3⟩
theorem FreeT.agg {ts : List Tr} (h : FreeL ts) : FreeT (.agg ts) := by
  intro w A w' A' v hr
  unfold Tr.agg at hr ⊢
  obtain ⟨vs, e, hr⟩ := hr
  exact ⟨vs, e, h.rdc hr⟩
theorem FreeT.tup {ts : List Tr} (h : FreeL ts) : FreeT (.tup ts) := by
  intro w A w' A' v hr
  unfold Tr.tup at hr ⊢
  obtain ⟨vs, e, hr⟩ := hr
  exact ⟨vs, e, h.rdl hr⟩
theorem Imp.any {t : Tr} : Imp t Tr.any := by
  intro w A v _
  unfold Tr.any
  trivial
theorem ImpL.rdl {w : World} {A : Nat → Prop} {ts ts' : List Tr} (h : ImpL ts ts') : ∀ {vs : List Value}, RdL w A ts vs → RdL w A ts' vs := by
  induction h with
  | nil => exact fun h => h
  | cons h _ ih =>
    rintro vs ⟨v, vs', rfl, h1, h3⟩
    exact ⟨v, vs', rfl, h _ _ _ h1, ih h3⟩
theorem Imp.tup {ts ts' : List Tr} (h : ImpL ts ts') : Imp (.tup ts) (.tup ts') := by
  intro w A v hr
  unfold Tr.tup at hr ⊢
  obtain ⟨vs, e, hr⟩ := hr
  exact ⟨vs, e, h.rdl hr⟩
theorem PFn.imp {f : FuncId} {args : List Tr} {t t' : Tr} (h : PFn P f args (· = t)) (hi : Imp t t') : PFn P f args (· = t') := by
  unfold PFn Spec at h ⊢
  obtain ⟨h1, h2⟩ := h
  refine ⟨h1, fun M w vs hr hch hnd hlt hM => (h2 M w vs hr hch hnd hlt hM).mono ?_⟩
  rintro e w' ⟨v, r, cs', rfl, ⟨rfl, rfl⟩, hrd, h3⟩
  exact ⟨v, t', [], rfl, ⟨rfl, rfl⟩, hi _ _ _ hrd, h3⟩

/-- the head of an owned slice: the value alone -/
theorem OpV.slice_own_hP {E kk bb zs} [hS : TySl P T E kk bb zs] {ad : Option Addr} {n cap : Nat} {e : TypeId} {rows : List (List Tr)} (hx : ev env x = some (.raw (.slice ad n cap))) (hz : ev env z = some (.raw (.int k q)))
    (hp : cs.Perm (Chunk.own ad cap kk e rows :: cf)) (hn : n = rows.length) (h0 : 0 ≤ q ∧ q ≤ rows.length) : OpV P Γ (.slice T x none (some z) none) ty env cs (.raw (.slice ad q.toNat cap)) := by
  unfold OpV
  intro a w d
  subst hn
  have hv := rd_raw (d.ev hx)
  have hq := rd_raw (d.ev hz)
  have hch := (d.perm hp).has (List.Perm.refl _)
  have hcap : rows.length ≤ cap := by
    generalize av Γ.M _ = A at hch
    unfold Chunk.own at hch
    obtain ⟨_, xs, ho, _⟩ := hch
    rcases ho.2 with ⟨e1, e2⟩ | ⟨g, cp, cur, hv, hg, hb, h1, _⟩
    · omega
    · simp only [Value.slice.injEq] at hv
      omega
  have hrun := run_slice_parts (P := P) (t := T) (kk := kk) (a := ad) (bounds_h (P := P) (k := k) (w := w) (len := rows.length) (cap := cap) h0.1 (by omega))
  have hval : (if cap = 0 then ad else ad.map (·.add (0 * kk))) = ad := by
    split
    · rfl
    · cases ad <;> simp [Addr.add]
  rw [hval] at hrun
  exact ⟨_, by simp [execOp, hv, hq, hrun] <;> rfl, raw_self _⟩
/-- the tail of an owned slice is forgotten -/
theorem Ent.own_take {ad : Option Addr} {cap kk : Nat} {e : TypeId} {rows : List (List Tr)} (n : Nat) (hp : cs.Perm (Chunk.own ad cap kk e rows :: cf)) (hn : n ≤ rows.length) : Ent Γ env cs env (Chunk.own ad cap kk e (rows.take n) :: cf) := by
  unfold Ent
  intro a w d
  have d := d.perm hp
  have hf : ∀ rows : List (List Tr), (Chunk.own ad cap kk e rows).fp = ad.toList.map (·.block) := by
    intro rows
    unfold Chunk.own
    cases ad <;> simp [Value.ownBlock]
  have hfp : fps (Chunk.own ad cap kk e (rows.take n) :: cf) = fps (Chunk.own ad cap kk e rows :: cf) := by
    simp only [fps, List.flatMap_cons, hf]
  refine d.swapc hfp ?_
  intro c hc
  rcases List.mem_cons.1 hc with rfl | hc
  · exact own_head n hn (d.chunks (Chunk.own ad cap kk e rows) (by simp))
  · exact d.chunks c (List.mem_cons_of_mem _ hc)
theorem Ent.own_head {ad : Option Addr} {cap kk : Nat} {e : TypeId} {rows rows' : List (List Tr)} (n : Nat) (he : rows.take n = rows') (hp : cs.Perm (Chunk.own ad cap kk e rows :: cf)) (hn : n ≤ rows.length) : Ent Γ env cs env (Chunk.own ad cap kk e rows' :: cf) := by
  subst he
  exact Ent.own_take n hp hn
/-- a struct inside a settled struct -/
theorem OpV.load_ref_part {n : Nat} [h : TyAgg P T n] {ts us : List Tr} (hx : ev env x = some (.ref ts)) (hu : ts.take n = us) (hn : us.length = n) : OpV P Γ (.load T x) ty env cs (.agg us) := by
  unfold OpV
  intro a w d
  have hq := d.ev hx
  unfold Tr.ref at hq
  obtain ⟨b, o, hv, hA, c, e, fz, hb, hr⟩ := hq
  obtain ⟨vs, hl, hr', hcv⟩ := rdc_cells hr
  have hr2 := hr'.take n
  rw [hu] at hr2
  have := run_loadAgg (P := P) (T := T) (w := w) (b := b) (o := o) (vs := vs.take n) (by rw [hr2.length]; exact hn) (fun j v hj => by
    rw [cell_at hb]
    rw [List.getElem?_take] at hj
    split at hj
    · exact hcv j v hj
    · cases hj)
  unfold Tr.agg
  exact ⟨_, by simp [execOp, hv, Instr.loadAt, Instr.sureAddr, this] <;> rfl, _, rfl, hr2⟩
end free
end Lg
