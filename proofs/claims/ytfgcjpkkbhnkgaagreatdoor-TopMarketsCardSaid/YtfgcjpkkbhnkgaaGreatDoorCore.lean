/- A part of the proof of a law of this seat: it adds no condition. By an AI agent. -/
import Derived.Test.YtfgcjpkkbhnkgaaGreatDoorLgBase
set_option linter.all false
namespace Lg
open Go
def Tr.raw (v0 : Value) : Tr := ⟨fun _ _ v => v = v0, fun _ h => h⟩
def Tr.any : Tr := ⟨fun _ _ _ => True, fun _ h => h⟩
abbrev Tr.int (n : Int) : Tr := Tr.raw (.int .i64 n)
abbrev Tr.bool (b : Bool) : Tr := Tr.raw (.bool b)
abbrev Tr.str (s : ByteArray) : Tr := Tr.raw (.string s)
def Tr.agg (cs : List Tr) : Tr := ⟨fun w A v => ∃ vs : List Value, v = .agg vs.toArray ∧ RdC w A cs vs, fun h ⟨vs, e, hr⟩ => ⟨vs, e, hr.mono h⟩⟩
def Tr.tup (ts : List Tr) : Tr := ⟨fun w A v => ∃ vs : List Value, v = .tuple vs.toArray ∧ RdL w A ts vs, fun h ⟨vs, e, hr⟩ => ⟨vs, e, hr.mono h⟩⟩
def Cells (w : World) (A : Nat → Prop) (b off : Nat) (cs : List Tr) : Prop :=
 A b ∧ ∃ c e fz, w.heap[b]? = some (.cells c e fz) ∧ RdC w A cs ((c.toList.drop off).take cs.length)
theorem Cells.mono {w w' : World} {A A' : Nat → Prop} {b off : Nat} {cs : List Tr} (h : SameOn w w' A A') (hc : Cells w A b off cs) : Cells w' A' b off cs := by
 obtain ⟨hA, c, e, fz, hb, hr⟩ := hc
 have hlt : b < w.heap.size := (Array.getElem?_eq_some_iff.1 hb).1
 obtain ⟨hA', hs⟩ := h b hlt hA
 exact ⟨hA', c, e, fz, hs.trans hb, hr.mono h⟩
def Tr.ref (cs : List Tr) : Tr := ⟨fun w A v => ∃ b off, v = .pointer (some ⟨b, off, none⟩) ∧ Cells w A b off cs, fun h ⟨b, off, e, hc⟩ => ⟨b, off, e, hc.mono h⟩⟩
def Tr.sl (k : Nat) (rows : List (List Tr)) : Tr :=
 ⟨fun w A v => (∀ r ∈ rows, r.length = k) ∧ rows.length ≤ maxLen ∧ ∃ a cap, v = .slice a rows.length cap ∧ rows.length ≤ cap ∧ cap ≤ maxLen ∧
   (a = none → rows = [] ∧ cap = 0) ∧ (rows = [] ∨ ∃ b off, a = some ⟨b, off, none⟩ ∧ Cells w A b off rows.flatten),
  fun h ⟨hk, hl, a, cap, e, h1, h2, h3, h4⟩ => ⟨hk, hl, a, cap, e, h1, h2, h3, h4.imp id fun ⟨b, off, e2, hc⟩ => ⟨b, off, e2, hc.mono h⟩⟩⟩
structure Chunk where
 fp : List Nat
 holds : World → (Nat → Prop) → Prop
 mono : ∀ {w w' : World} {A A' : Nat → Prop}, (∀ b ∈ fp, b < w.heap.size → w'.heap[b]? = w.heap[b]?) → SameOn w w' A A' → holds w A → holds w' A'
def fps (cs : List Chunk) : List Nat := cs.flatMap Chunk.fp
def Chunk.box (b : Nat) (ty : TypeId) (ts : List Tr) : Chunk :=
 ⟨[b], fun w A => ∃ c, w.heap[b]? = some (.cells c ty (0, 0)) ∧ RdC w A ts c.toList,
  fun hb h ⟨c, e, hr⟩ => ⟨c, (hb b (by simp) (Array.getElem?_eq_some_iff.1 e).1).trans e, hr.mono h⟩⟩
def Chunk.own (a : Option Addr) (cap k : Nat) (ty : TypeId) (rows : List (List Tr)) : Chunk :=
 ⟨(Value.ownBlock (.slice a rows.length cap)).toList,
  fun w A => (∀ r ∈ rows, r.length = k) ∧ ∃ xs, w.ownsRow 0 ty k (.slice a rows.length cap) rows.length xs ∧ RdC w A rows.flatten xs,
  fun {w w' A A'} hb h ⟨hk, xs, ho, hr⟩ => ⟨hk, xs, by
   refine ⟨ho.1, ?_⟩
   rcases ho.2 with hn | ⟨g, cp, cur, hv, hg0, hg, r⟩
   ·exact .inl hn
   ·refine .inr ⟨g, cp, cur, hv, hg0, ?_, r⟩
    have hlt := (Array.getElem?_eq_some_iff.1 hg).1
    rw [hb g (by rw [hv]; simp [Value.ownBlock]) hlt, hg], hr.mono h⟩⟩
abbrev Env := List (Nat × Tr)
def look : Env → Nat → Option Tr
 |[], _ => none
 |(j, t) :: l, i => match Nat.beq j i with
  |true => some t
  |false => look l i
def ev (env : Env) : Operand → Option Tr
 | .tmp i => look env i
 | .const v => some (.raw v)
 | .func f => some (.raw (.func (.func f) #[] #[]))
 | .global g => some (.raw (.pointer (some ⟨g, 0, none⟩)))
structure Ctx where
 w0 : World
 own0 : List Nat
 M : Nat → Prop
 n : Nat
 /-- within a round of a range over a function: its loop -/
 rd : Option Nat
 /-- behind a range over a function: its mark among the deferred calls -/
 df : List Deferred
def av (M : Nat → Prop) (cs : List Chunk) : Nat → Prop := fun b => ¬ M b ∧ b ∉ fps cs
def Strict : Prop := True
structure Frm (own : List Nat) (w w' : World) : Prop where
 os : w'.os = w.os
 tape : w'.tape = w.tape
 output : w'.output = w.output
 size : w.heap.size ≤ w'.heap.size
 block : ∀ b, b < w.heap.size → b ∉ own → w'.heap[b]? = w.heap[b]?
 drawn : Strict → w.drawn ≤ w'.drawn
theorem Frm.refl (own : List Nat) (w : World) : Frm own w w := ⟨rfl, rfl, rfl, Nat.le_refl _, fun _ _ _ => rfl, fun _ => Nat.le_refl _⟩
theorem Frm.trans {o0 o1 : List Nat} {a b c : World} (h : Frm o0 a b) (k : Frm o1 b c) (hs : ∀ x ∈ o1, x ∈ o0 ∨ a.heap.size ≤ x) : Frm o0 a c :=
 ⟨k.os.trans h.os, k.tape.trans h.tape, k.output.trans h.output, Nat.le_trans h.size k.size, fun i hi hn => by
  rw [k.block i (Nat.lt_of_lt_of_le hi h.size) (fun hm => by rcases hs i hm with h1 | h1; exact hn h1; omega), h.block i hi hn], fun hS => Nat.le_trans (h.drawn hS) (k.drawn hS)⟩
structure Den (Γ : Ctx) (env : Env) (cs : List Chunk) (a : Act) (w : World) : Prop where
 nodefer : a.defers = Γ.df
 tmps : a.tmps.size = Γ.n
 env : ∀ i t, look env i = some t → t.rd w (av Γ.M cs) (a.tmps.getD i undef)
 chunks : ∀ c ∈ cs, c.holds w (av Γ.M cs)
 nodup : (fps cs).Nodup
 fresh : ∀ b ∈ fps cs, b < w.heap.size ∧ ¬ Γ.M b ∧ (b ∈ Γ.own0 ∨ Γ.w0.heap.size ≤ b)
 below : ∀ b, Γ.M b → b < Γ.w0.heap.size
 frame : Frm Γ.own0 Γ.w0 w
section den
variable {P : Program} {Γ : Ctx} {env env' : Env} {cs cs' cf : List Chunk} {a : Act} {w w' : World}
theorem Den.ev (d : Den Γ env cs a w) {x : Operand} {t : Tr} (h : ev env x = some t) : t.rd w (av Γ.M cs) (a.eval x) := by
 cases x with
 |tmp i => exact d.env i t h
 |const v => simp [Lg.ev] at h; subst h; rfl
 |func f => simp [Lg.ev] at h; subst h; rfl
 |global g => simp [Lg.ev] at h; subst h; rfl
theorem look_cons_same (d : Nat) (t : Tr) (l : Env) : look ((d, t) :: l) d = some t := by simp [look]
theorem look_cons_ne {d i : Nat} (t : Tr) (l : Env) (h : d ≠ i) : look ((d, t) :: l) i = look l i := by
 have : Nat.beq d i = false := by
  cases hb : Nat.beq d i with
  |false => rfl
  |true => exact absurd (Nat.eq_of_beq_eq_true hb) h
 simp [look, this]
theorem Den.put (d : Den Γ env cs a w) {i : Nat} (hi : Nat.blt i Γ.n = true) {t : Tr} {v : Value} (ht : t.rd w (av Γ.M cs) v) : Den Γ ((i, t) :: env) cs (a.put (some i) v) w := by
 have hlt : i < Γ.n := by simpa [Nat.blt_eq] using hi
 refine ⟨d.nodefer, by simpa [Act.put] using d.tmps, ?_, d.chunks, d.nodup, d.fresh, d.below, d.frame⟩
 intro j u hj
 by_cases e : i = j
 ·subst e
  rw [look_cons_same] at hj
  cases hj
  have hs : i < a.tmps.size := by rw [d.tmps]; exact hlt
  simpa [Act.put, hs] using ht
 ·rw [look_cons_ne _ _ e] at hj
  have := d.env j u hj
  simpa [Act.put, Array.getElem?_setIfInBounds_ne e] using this
theorem Den.put_none (d : Den Γ env cs a w) (v : Value) : Den Γ env cs (a.put none v) w := d
theorem Den.world (d : Den Γ env cs a w) (hs : SameOn w w' (av Γ.M cs) (av Γ.M cs')) (hch : ∀ c ∈ cs', c.holds w' (av Γ.M cs')) (hnd : (fps cs').Nodup)
  (hfr : ∀ b ∈ fps cs', b < w'.heap.size ∧ ¬ Γ.M b ∧ (b ∈ Γ.own0 ∨ Γ.w0.heap.size ≤ b)) (hf : Frm (fps cs) w w') : Den Γ env cs' a w' :=
 ⟨d.nodefer, d.tmps, fun i t h => t.mono hs (d.env i t h), hch, hnd, hfr, d.below, d.frame.trans hf fun x hx => (d.fresh x hx).2.2⟩
theorem Den.drew (d : Den Γ env cs a w) : Den Γ env cs a w.drew :=
 d.world (w' := w.drew) (fun _ _ h => ⟨h, rfl⟩) (fun c hc => c.mono (w := w) (w' := w.drew) (A := av Γ.M cs) (A' := av Γ.M cs) (fun _ _ _ => rfl) (fun _ _ h => ⟨h, rfl⟩) (d.chunks c hc)) d.nodup d.fresh ⟨rfl, rfl, rfl, Nat.le_refl _, fun _ _ _ => rfl, fun _ => Nat.le_succ _⟩
theorem Den.push (d : Den Γ env cs a w) (c : Chunk) (hs : w.heap.size < w'.heap.size) (hfp : ∀ b ∈ c.fp, w.heap.size ≤ b ∧ b < w'.heap.size) (hnd : c.fp.Nodup)
  (hold : ∀ b, b < w.heap.size → w'.heap[b]? = w.heap[b]?) (ho : w'.os = w.os) (htp : w'.tape = w.tape) (hou : w'.output = w.output)
  (hc : (SameOn w w' (av Γ.M cs) (av Γ.M (c :: cs))) → c.holds w' (av Γ.M (c :: cs))) (hdr : Strict → w.drawn ≤ w'.drawn := by exact fun _ => Nat.le_refl _) : Den Γ env (c :: cs) a w' := by
 have hsame : SameOn w w' (av Γ.M cs) (av Γ.M (c :: cs)) := by
  intro b hb ⟨h1, h2⟩
  refine ⟨⟨h1, ?_⟩, hold b hb⟩
  simp only [fps, List.flatMap_cons, List.mem_append, not_or]
  exact ⟨fun hm => by have := (hfp b hm).1; omega, h2⟩
 refine d.world hsame ?_ ?_ ?_ ⟨ho, htp, hou, Nat.le_of_lt hs, fun b hb _ => hold b hb, hdr⟩
 ·intro x hx
  rcases List.mem_cons.1 hx with rfl | hx
  ·exact hc hsame
  ·exact x.mono (fun b hb hlt => hold b hlt) hsame (d.chunks x hx)
 ·simp only [fps, List.flatMap_cons]
  refine List.nodup_append.2 ⟨hnd, d.nodup, ?_⟩
  intro x hx y hy e
  subst e
  have := (hfp x hx).1
  have := (d.fresh x hy).1
  omega
 ·intro b hb
  simp only [fps, List.flatMap_cons, List.mem_append] at hb
  rcases hb with hb | hb
  ·refine ⟨(hfp b hb).2, fun hm => ?_, .inr ?_⟩
   ·have := d.below b hm
    have := (hfp b hb).1
    have := d.frame.size
    omega
   ·have := (hfp b hb).1
    have := d.frame.size
    omega
  ·obtain ⟨h1, h2, h3⟩ := d.fresh b hb
   exact ⟨by omega, h2, h3⟩
theorem fps_perm (h : cs.Perm cs') : (fps cs).Perm (fps cs') := List.Perm.flatMap_right _ h
theorem av_perm (h : cs.Perm cs') (M : Nat → Prop) : av M cs = av M cs' := by
 funext b
 simp only [av, (fps_perm h).mem_iff]
theorem Den.perm (d : Den Γ env cs a w) (h : cs.Perm cs') : Den Γ env cs' a w := by
 have e := av_perm h Γ.M
 refine ⟨d.nodefer, d.tmps, e ▸ d.env, ?_, (fps_perm h).nodup_iff.1 d.nodup, fun b hb => d.fresh b ((fps_perm h).mem_iff.2 hb), d.below, d.frame⟩
 intro c hc
 rw [← e]
 exact d.chunks c (h.mem_iff.2 hc)
theorem Den.dropc {c : Chunk} (d : Den Γ env (c :: cs) a w) : Den Γ env cs a w := by
 have hs : SameOn w w (av Γ.M (c :: cs)) (av Γ.M cs) := fun b _ ⟨h1, h2⟩ => ⟨⟨h1, fun hm => h2 (by simp [fps] at hm ⊢; exact .inr hm)⟩, rfl⟩
 refine d.world hs (fun x hx => x.mono (fun _ _ _ => rfl) hs (d.chunks x (List.mem_cons_of_mem _ hx))) ?_ (fun b hb => d.fresh b (by simp [fps] at hb ⊢; exact .inr hb)) (Frm.refl _ _)
 have := d.nodup
 simp only [fps, List.flatMap_cons] at this ⊢
 exact (List.nodup_append.1 this).2.1
theorem Den.turn {c c' : Chunk} (d : Den Γ env (c :: cs) a w) (hfp : c'.fp = c.fp) (hold : ∀ b, b < w.heap.size → b ∉ c.fp → w'.heap[b]? = w.heap[b]?) (hsz : w'.heap.size = w.heap.size)
  (ho : w'.os = w.os) (htp : w'.tape = w.tape) (hou : w'.output = w.output)
  (hc : SameOn w w' (av Γ.M (c :: cs)) (av Γ.M (c' :: cs)) → c.holds w (av Γ.M (c :: cs)) → c'.holds w' (av Γ.M (c' :: cs))) (hdr : Strict → w.drawn ≤ w'.drawn := by exact fun _ => Nat.le_refl _) : Den Γ env (c' :: cs) a w' := by
 have hfe : fps (c' :: cs) = fps (c :: cs) := by simp [fps, hfp]
 have hsame : SameOn w w' (av Γ.M (c :: cs)) (av Γ.M (c' :: cs)) := by
  intro b hb ⟨h1, h2⟩
  refine ⟨⟨h1, by rw [hfe]; exact h2⟩, hold b hb fun hm => h2 (by simp [fps]; exact .inl hm)⟩
 have hnd := d.nodup
 simp only [fps, List.flatMap_cons] at hnd
 obtain ⟨_, _, hdis⟩ := List.nodup_append.1 hnd
 refine d.world hsame ?_ (by rw [hfe]; exact d.nodup) (fun b hb => by rw [hfe] at hb; rw [hsz]; exact d.fresh b hb) ⟨ho, htp, hou, by omega, fun b hb hn => hold b hb fun hm => hn (by simp [fps]; exact .inl hm), hdr⟩
 intro x hx
 rcases List.mem_cons.1 hx with rfl | hx
 ·exact hc hsame (d.chunks c (by simp))
 ·refine x.mono (fun b hb hlt => hold b hlt fun hm => ?_) hsame (d.chunks x (List.mem_cons_of_mem _ hx))
  exact hdis b hm b (List.mem_flatMap.2 ⟨x, hx, hb⟩) rfl
theorem Den.turnF {c c' : Chunk} (d : Den Γ env (c :: cs) a w) (hfp : ∀ b ∈ c'.fp, b ∈ c.fp ∨ (w.heap.size ≤ b ∧ b < w'.heap.size)) (hnd' : c'.fp.Nodup) (hf : Frm c.fp w w')
  (hc : SameOn w w' (av Γ.M (c :: cs)) (av Γ.M (c' :: cs)) → c.holds w (av Γ.M (c :: cs)) → c'.holds w' (av Γ.M (c' :: cs))) : Den Γ env (c' :: cs) a w' := by
 have hnd := d.nodup
 simp only [fps, List.flatMap_cons] at hnd
 obtain ⟨_, hnd2, hdis⟩ := List.nodup_append.1 hnd
 have hsame : SameOn w w' (av Γ.M (c :: cs)) (av Γ.M (c' :: cs)) := by
  intro b hb ⟨h1, h2⟩
  simp only [fps, List.flatMap_cons, List.mem_append, not_or] at h2
  refine ⟨⟨h1, ?_⟩, hf.block b hb h2.1⟩
  simp only [fps, List.flatMap_cons, List.mem_append, not_or]
  refine ⟨fun hm => ?_, h2.2⟩
  rcases hfp b hm with h | h
  ·exact h2.1 h
  ·omega
 refine d.world hsame ?_ ?_ ?_ ⟨hf.os, hf.tape, hf.output, hf.size, fun b hb hn => hf.block b hb fun hm => hn (by simp [fps]; exact .inl hm), hf.drawn⟩
 ·intro x hx
  rcases List.mem_cons.1 hx with rfl | hx
  ·exact hc hsame (d.chunks c (by simp))
  ·refine x.mono (fun b hb hlt => hf.block b hlt fun hm => ?_) hsame (d.chunks x (List.mem_cons_of_mem _ hx))
   exact hdis b hm b (List.mem_flatMap.2 ⟨x, hx, hb⟩) rfl
 ·simp only [fps, List.flatMap_cons]
  refine List.nodup_append.2 ⟨hnd', hnd2, ?_⟩
  intro x hx y hy e
  subst e
  rcases hfp x hx with h | h
  ·exact hdis x h x hy rfl
  ·have := (d.fresh x (by simp only [fps, List.flatMap_cons, List.mem_append]; exact .inr hy)).1
   omega
 ·intro b hb
  simp only [fps, List.flatMap_cons, List.mem_append] at hb
  have hold : ∀ b, b ∈ fps (c :: cs) → b < w'.heap.size ∧ ¬ Γ.M b ∧ (b ∈ Γ.own0 ∨ Γ.w0.heap.size ≤ b) := fun b hb => by
   obtain ⟨h1, h2, h3⟩ := d.fresh b hb
   exact ⟨Nat.lt_of_lt_of_le h1 hf.size, h2, h3⟩
  rcases hb with hb | hb
  ·rcases hfp b hb with h | h
   ·exact hold b (by simp only [fps, List.flatMap_cons, List.mem_append]; exact .inl h)
   ·refine ⟨h.2, fun hm => ?_, .inr ?_⟩
    ·have := d.below b hm
     have := d.frame.size
     omega
    ·have := d.frame.size
     omega
  ·exact hold b (by simp only [fps, List.flatMap_cons, List.mem_append]; exact .inr hb)
end den
def fen (Γ : Ctx) : Fence := { Fence.wide with round := Γ.rd }
theorem nd_of_run {P : Program} {ρ : Operand → Value} {o : Oper} {w w' : World} {nx : Next} (h : (execOp ρ o).run P w = .ok nx w') (hx : ∀ d, nx ≠ .defer d) : ∀ c, o.op ≠ .defer c := by
 intro c hc
 unfold execOp at h
 rw [hc] at h
 simp only [Sem.run_bind] at h
 cases hr : (resolve ρ c o.type).run P w with
 |ok v w2 =>
  rw [hr] at h
  simp at h
  exact hx _ h.1.symm
 |halt x w2 =>
  rw [hr] at h
  simp at h
theorem uponIn_of_upon {P : Program} {Γ : Ctx} {o : Oper} {a : Act} {next : Act → World → Prop} {Q : Exit → Act → World → Prop} {r : Result Next} (h : o.upon P a next Q r) (hr : ∀ x args w, r ≠ .ok (.row x args) w) : o.uponIn (fen Γ) 9 P a next Q r := by
 cases r with
 |ok nx w =>
  cases nx with
  |enter f args => exact ⟨fun h => by simp [fen, Fence.wide] at h, callsIn_wide.2 h⟩
  |row x args => exact absurd rfl (hr _ _ _)
  |round l f t a b => exact h.elim
  |_ => exact h
 |halt x w =>
  cases x with
  |_ => exact h
theorem opIn_of_run {P : Program} {Γ : Ctx} {o : Oper} {a : Act} {w w' : World} {nx : Next} {next : Act → World → Prop} {Q : Exit → Act → World → Prop} (h : (execOp a.eval o).run P w = .ok nx w') (hx : (∀ d, nx ≠ .defer d) ∧ ∀ x args, nx ≠ .row x args) (hu : o.upon P a next Q (.ok nx w')) : o.wpIn (fen Γ) 9 P a w next Q := by
 refine ⟨fun _ _ => trivial, ?_⟩
 rw [Oper.semAt_eq _ _ _ (nd_of_run h hx.1), h]
 exact uponIn_of_upon hu (fun x args w e => hx.2 x args (by simp only [Result.ok.injEq] at e; exact e.1))
abbrev Post := Exit → Env → List Chunk → Prop
def Lift (Γ : Ctx) (Q : Post) (e : Exit) (a : Act) (w : World) : Prop := ∃ env cs, Q e env cs ∧ Den Γ env cs a w
def Cw (P : Program) (Γ : Ctx) (c : Code) (env : Env) (cs : List Chunk) (Q : Post) : Prop := ∀ a w, Den Γ env cs a w → c.wpIn (fen Γ) 9 P (Lift Γ Q) a w
def Ops (P : Program) (Γ : Ctx) (R : Array Oper) (l : List Oper) (env : Env) (cs : List Chunk) (Q : Post) : Prop := ∀ a w, Den Γ env cs a w → wpListIn (fen Γ) 9 P R (Lift Γ Q) l a w
def Then (K : Env → List Chunk → Prop) (Q : Post) : Post
 | .normal, env, cs => K env cs
 |e, env, cs => Q e env cs
def InB (id : Nat) (Q : Post) : Post
 | .exit j, env, cs => if j = id then Q .normal env cs else Q (.exit j) env cs
 |e, env, cs => Q e env cs
def Ent (Γ : Ctx) (env : Env) (cs : List Chunk) (env' : Env) (cs' : List Chunk) : Prop := ∀ a w, Den Γ env cs a w → Den Γ env' cs' a w
theorem wpIn_loop_ghost {F : Fence} {rm : Nat} {P : Program} {Q : Exit → Act → World → Prop} {a : Act} {w : World} {c : Code} (I : Nat → Act → World → Prop) (n0 : Nat) (h0 : I n0 a w)
  (hr : ∀ n a w, I n a w → c.wpIn F rm P (Exit.then (fun a' w' => ∃ n', n' < n ∧ I n' a' w') Q) a w) : (Code.loop c).wpIn F rm P Q a w := by
 refine wpIn_loop (fun a w => ∃ n, I n a w) (fun a w => leastOf (fun n => I n a w)) ⟨n0, h0⟩ fun a w hI => wpIn_mono (hr _ a w (leastOf_spec hI).1) ?_
 intro e a' w' hq
 cases e with
 |normal =>
  obtain ⟨n', hlt, hI'⟩ := hq
  have hl := leastOf_spec (p := fun n => I n a' w') ⟨n', hI'⟩
  exact ⟨⟨n', hI'⟩, Nat.lt_of_le_of_lt (hl.2 n' hI') hlt⟩
 |_ => exact hq
section code
variable {P : Program} {Γ : Ctx} {env env' : Env} {cs cs' cf : List Chunk} {Q : Post} {R : Array Oper}
theorem Then.norm {K : Env → List Chunk → Prop} (h : K env cs) : Then K Q .normal env cs := h
theorem Then.exit {K : Env → List Chunk → Prop} {j : Nat} (h : Q (.exit j) env cs) : Then K Q (.exit j) env cs := h
theorem Then.ret {K : Env → List Chunk → Prop} (h : Q .ret env cs) : Then K Q .ret env cs := h
theorem InB.norm {id : Nat} (h : Q .normal env cs) : InB id Q .normal env cs := h
theorem InB.exit {id : Nat} (h : Q .normal env cs) : InB id Q (.exit id) env cs := by simpa [InB] using h
theorem InB.exit_ne {id j : Nat} (hn : Nat.beq j id = false) (h : Q (.exit j) env cs) : InB id Q (.exit j) env cs := by
 have : j ≠ id := fun e => by subst e; simp at hn
 simpa [InB, this] using h
theorem InB.ret {id : Nat} (h : Q .ret env cs) : InB id Q .ret env cs := h
theorem Lift.mono {Q Q' : Post} (h : ∀ e env cs, Q e env cs → Q' e env cs) {e : Exit} {a : Act} {w : World} : Lift Γ Q e a w → Lift Γ Q' e a w
 | ⟨env, cs, hq, hd⟩ => ⟨env, cs, h _ _ _ hq, hd⟩
theorem Cw.ent {c : Code} (he : Ent Γ env cs env' cs') (h : Cw P Γ c env' cs' Q) : Cw P Γ c env cs Q := fun a w d => h a w (he a w d)
theorem Ops.ent {l : List Oper} (he : Ent Γ env cs env' cs') (h : Ops P Γ R l env' cs' Q) : Ops P Γ R l env cs Q := fun a w d => h a w (he a w d)
theorem Cw.seq {x y : Code} (h : Cw P Γ x env cs (Then (fun env cs => Cw P Γ y env cs Q) Q)) : Cw P Γ (.seq x y) env cs Q := by
 intro a w d
 refine wpIn_seq (wpIn_mono (h a w d) ?_)
 intro e a' w' hl
 obtain ⟨env', cs', hq, hd⟩ := hl
 cases e with
 |normal => exact hq a' w' hd
 |exit id => exact ⟨env', cs', hq, hd⟩
 |goto l => exact ⟨env', cs', hq, hd⟩
 |ret => exact ⟨env', cs', hq, hd⟩
 |panic c => exact ⟨env', cs', hq, hd⟩
 |outgrown => exact ⟨env', cs', hq, hd⟩
theorem Cw.mono {c : Code} {Q Q' : Post} (h : Cw P Γ c env cs Q) (hq : ∀ e env cs, Q e env cs → Q' e env cs) : Cw P Γ c env cs Q' :=
 fun a w d => wpIn_mono (h a w d) fun _ _ _ hl => hl.mono hq
theorem Cw.cut {x y : Code} (Mid : Env → List Chunk → Prop) (h : Cw P Γ x env cs (Then Mid Q)) (h2 : ∀ env cs, Mid env cs → Cw P Γ y env cs Q) : Cw P Γ (.seq x y) env cs Q :=
 Cw.seq (h.mono fun e env cs hq => by cases e <;> first | exact hq | exact h2 _ _ hq)
theorem Cw.skip (h : Q .normal env cs) : Cw P Γ .skip env cs Q := fun a w d => wpIn_skip ⟨env, cs, h, d⟩
theorem Cw.exit {id : Nat} (h : Q (.exit id) env cs) : Cw P Γ (.exit id) env cs Q := fun a w d => wpIn_exit ⟨env, cs, h, d⟩
theorem Cw.ret (h : Q .ret env cs) : Cw P Γ .ret env cs Q := fun a w d => wpIn_ret ⟨env, cs, h, d⟩
theorem Cw.block {id : Nat} {c : Code} (h : Cw P Γ c env cs (InB id Q)) : Cw P Γ (.block id c) env cs Q := by
 intro a w d
 refine wpIn_block (wpIn_mono (h a w d) ?_)
 intro e a' w' hl
 obtain ⟨env', cs', hq, hd⟩ := hl
 cases e with
 |exit j =>
  simp only [InB] at hq
  simp only [Exit.inBlock]
  split
  ·rename_i hj; rw [if_pos hj] at hq; exact ⟨env', cs', hq, hd⟩
  ·rename_i hj; rw [if_neg hj] at hq; exact ⟨env', cs', hq, hd⟩
 |normal => exact ⟨env', cs', hq, hd⟩
 |goto l => exact ⟨env', cs', hq, hd⟩
 |ret => exact ⟨env', cs', hq, hd⟩
 |panic c => exact ⟨env', cs', hq, hd⟩
 |outgrown => exact ⟨env', cs', hq, hd⟩
theorem Cw.cond_true {c : Operand} {x y : Code} (hc : ev env c = some (Tr.bool true)) (h : Cw P Γ x env cs Q) : Cw P Γ (.cond c x y) env cs Q :=
 fun a w d => wpIn_cond_true (d.ev hc) (h a w d)
theorem Cw.cond_false {c : Operand} {x y : Code} (hc : ev env c = some (Tr.bool false)) (h : Cw P Γ y env cs Q) : Cw P Γ (.cond c x y) env cs Q :=
 fun a w d => wpIn_cond_false (d.ev hc) (h a w d)
theorem Cw.cond_dec {c : Operand} {x y : Code} {p : Prop} [Decidable p] (hc : ev env c = some (Tr.bool (decide p))) (ht : p → Cw P Γ x env cs Q) (hf : ¬ p → Cw P Γ y env cs Q) : Cw P Γ (.cond c x y) env cs Q :=
 fun a w d => wpIn_cond_split (d.ev hc) (fun e => ht (of_decide_eq_true e) a w d) (fun e => hf (of_decide_eq_false e) a w d)
theorem Cw.cond_bool {c : Operand} {x y : Code} {b : Bool} (hc : ev env c = some (Tr.bool b)) (ht : b = true → Cw P Γ x env cs Q) (hf : b = false → Cw P Γ y env cs Q) : Cw P Γ (.cond c x y) env cs Q :=
 fun a w d => wpIn_cond_split (d.ev hc) (fun e => ht e a w d) (fun e => hf e a w d)
theorem Cw.region {id : Nat} {l : List Oper} (h : Ops P Γ l.toArray l env cs Q) : Cw P Γ (.region id l.toArray false) env cs Q :=
 fun a w d => wpIn_region_lit (h a w d)
theorem Cw.loop {c : Code} {ι : Type} (V : ι → Prop) (S : ι → Env) (C : ι → List Chunk) (μ : ι → Nat) (h0 : ∃ i, V i ∧ Ent Γ env cs (S i) (C i))
  (hr : ∀ i, V i → Cw P Γ c (S i) (C i) (Then (fun env' cs' => ∃ j, V j ∧ μ j < μ i ∧ Ent Γ env' cs' (S j) (C j)) Q)) : Cw P Γ (.loop c) env cs Q := by
 intro a w d
 obtain ⟨i0, hv0, he0⟩ := h0
 refine wpIn_loop_ghost (fun n a w => ∃ i, V i ∧ μ i = n ∧ Den Γ (S i) (C i) a w) (μ i0) ⟨i0, hv0, rfl, he0 a w d⟩ ?_
 rintro n a w ⟨i, hv, rfl, hd⟩
 refine wpIn_mono (hr i hv a w hd) ?_
 intro e a' w' hl
 obtain ⟨env', cs', hq, hd'⟩ := hl
 cases e with
 |normal =>
  obtain ⟨j, hvj, hlt, hent⟩ := hq
  exact ⟨μ j, hlt, j, hvj, rfl, hent _ _ hd'⟩
 |exit id => exact ⟨env', cs', hq, hd'⟩
 |goto l => exact ⟨env', cs', hq, hd'⟩
 |ret => exact ⟨env', cs', hq, hd'⟩
 |panic c => exact ⟨env', cs', hq, hd'⟩
 |outgrown => exact ⟨env', cs', hq, hd'⟩
theorem Ent.refl : Ent Γ env cs env cs := fun _ _ d => d
theorem Ent.trans {e1 e2 : Env} {c1 c2 : List Chunk} (h : Ent Γ env cs e1 c1) (k : Ent Γ e1 c1 e2 c2) : Ent Γ env cs e2 c2 := fun a w d => k a w (h a w d)
def Sub (env : Env) : Env → Prop
 |[] => True
 |(i, t) :: l => look env i = some t ∧ Sub env l
theorem Sub.nil : Sub env [] := trivial
theorem Sub.cons {i : Nat} {t : Tr} {l : Env} (h : look env i = some t) (r : Sub env l) : Sub env ((i, t) :: l) := ⟨h, r⟩
theorem Sub.conv {i : Nat} {t t' : Tr} {l : Env} (h : look env i = some t') (e : t' = t) (r : Sub env l) : Sub env ((i, t) :: l) := ⟨e ▸ h, r⟩
theorem Sub.look {e1 : Env} : ∀ {e2 : Env}, Sub e1 e2 → ∀ {i t}, look e2 i = some t → look e1 i = some t
 |[], _, i, t, h => by simp [Lg.look] at h
 |(j, u) :: l, ⟨hj, hr⟩, i, t, h => by
  by_cases e : j = i
  ·subst e; rw [look_cons_same] at h; cases h; exact hj
  ·rw [look_cons_ne _ _ e] at h; exact Sub.look hr h
theorem Ent.sub (h : Sub env env') : Ent Γ env cs env' cs := fun a w d =>
 ⟨d.nodefer, d.tmps, fun i t hl => d.env i t (h.look hl), d.chunks, d.nodup, d.fresh, d.below, d.frame⟩
theorem Ent.perm (h : cs.Perm cs') : Ent Γ env cs env cs' := fun _ _ d => d.perm h
theorem Ent.drop {c : Chunk} : Ent Γ env (c :: cs) env cs := fun _ _ d => d.dropc
def Take (cs : List Chunk) : List Chunk → Prop
 |[] => True
 |c :: l => ∃ cf, cs.Perm (c :: cf) ∧ Take cf l
theorem Take.nil {cs : List Chunk} : Take cs [] := trivial
theorem Take.cons {c : Chunk} {cs cf l : List Chunk} (h : cs.Perm (c :: cf)) (r : Take cf l) : Take cs (c :: l) := ⟨cf, h, r⟩
theorem Take.perm : ∀ {l cs : List Chunk}, Take cs l → ∃ cf, cs.Perm (l ++ cf)
 |[], cs, _ => ⟨cs, List.Perm.refl _⟩
 |c :: l, cs, ⟨cf, hp, hr⟩ => by
  obtain ⟨cg, hcg⟩ := Take.perm hr
  exact ⟨cg, hp.trans (List.Perm.cons _ hcg)⟩
theorem Ent.dropall {cf : List Chunk} : ∀ {cs : List Chunk}, Ent Γ env (cf ++ cs) env cs := by
 induction cf with
 |nil => exact Ent.refl
 |cons c cf ih => exact Ent.drop.trans ih
theorem Ent.take (h : Take cs cs') : Ent Γ env cs env cs' := by
 obtain ⟨cf, hp⟩ := h.perm
 exact (Ent.perm (hp.trans List.perm_append_comm)).trans Ent.dropall
theorem Ent.mk (h : Sub env env') (k : Take cs cs') : Ent Γ env cs env' cs' := (Ent.take k).trans (Ent.sub h)
theorem pick0 {c : Chunk} {l : List Chunk} : (c :: l).Perm (c :: l) := List.Perm.refl _
theorem pickS {c d : Chunk} {l cf : List Chunk} (h : l.Perm (c :: cf)) : (d :: l).Perm (c :: d :: cf) := (List.Perm.cons d h).trans (List.Perm.swap c d cf)
theorem Ops.nil (h : Q .normal env cs) : Ops P Γ R [] env cs Q := fun a w d => ⟨env, cs, h, d⟩
theorem Ops.of {d : Option Tmp} {op : Op} {ty : TypeId} {pos : String} {af : Array Edge} {rest : List Oper}
  (h : ∀ a w, Den Γ env cs a w → ∃ env' cs' nx w', (execOp a.eval ⟨d, op, ty, pos, af, none⟩).run P w = .ok nx w' ∧
   ((∃ v, nx = .value v ∧ Den Γ env' cs' (a.put d v) w') ∨ (nx = .skip ∧ Den Γ env' cs' (a.put d undef) w')) ∧ Ops P Γ R rest env' cs' Q) :
  Ops P Γ R (⟨d, op, ty, pos, af, none⟩ :: rest) env cs Q := by
 intro a w hd
 obtain ⟨env', cs', nx, w', hr, hn, hk⟩ := h a w hd
 refine wpListIn_plain rfl fun K hK => ?_
 rcases hn with ⟨v, rfl, hd'⟩ | ⟨rfl, hd'⟩
 ·exact opIn_of_run hr ⟨(by intro d h; cases h), (by intro x y h; cases h)⟩ (hK _ _ (hk _ _ hd'))
 ·exact opIn_of_run hr ⟨(by intro d h; cases h), (by intro x y h; cases h)⟩ (hK _ _ (hk _ _ hd'))
theorem Ops.val {i : Tmp} {op : Op} {ty : TypeId} {pos : String} {af : Array Edge} {rest : List Oper} {t : Tr} (hi : Nat.blt i Γ.n = true)
  (h : ∀ a w, Den Γ env cs a w → ∃ v, (execOp a.eval ⟨some i, op, ty, pos, af, none⟩).run P w = .ok (.value v) w ∧ t.rd w (av Γ.M cs) v)
  (k : Ops P Γ R rest ((i, t) :: env) cs Q) : Ops P Γ R (⟨some i, op, ty, pos, af, none⟩ :: rest) env cs Q :=
 Ops.of fun a w d => by
  obtain ⟨v, hr, ht⟩ := h a w d
  exact ⟨_, _, _, _, hr, .inl ⟨v, rfl, d.put hi ht⟩, k⟩
variable {i : Tmp} {ty : TypeId} {pos : String} {af : Array Edge} {rest : List Oper}
def OpV (P : Program) (Γ : Ctx) (op : Op) (ty : TypeId) (env : Env) (cs : List Chunk) (t : Tr) : Prop :=
 ∀ a w, Den Γ env cs a w → ∃ v, (execOp a.eval ⟨.none, op, ty, "", #[], .none⟩).run P w = .ok (.value v) w ∧ t.rd w (av Γ.M cs) v
theorem Ops.val' {op : Op} {t : Tr} (hi : Nat.blt i Γ.n = true) (h : OpV P Γ op ty env cs t) (k : Ops P Γ R rest ((i, t) :: env) cs Q) : Ops P Γ R (⟨some i, op, ty, pos, af, none⟩ :: rest) env cs Q :=
 Ops.val hi (fun a w d => by
  obtain ⟨v, hr, ht⟩ := h a w d
  exact ⟨v, hr, ht⟩) k
theorem OpV.move {x : Operand} {t : Tr} (h : ev env x = some t) : OpV P Γ (.move x) ty env cs (t) :=
 (fun a w d => ⟨_, rfl, d.ev h⟩)
theorem Ops.move {x : Operand} {t : Tr} (h : ev env x = some t) (hi : Nat.blt i Γ.n = true)
  (k : Ops P Γ R rest ((i, t) :: env) cs Q) : Ops P Γ R (⟨some i, .move x, ty, pos, af, none⟩ :: rest) env cs Q :=
 Ops.val' hi (OpV.move h) k
theorem OpV.assign {x : Operand} {t : Tr} (h : ev env x = some t) : OpV P Γ (.assign x) ty env cs (t) :=
 (fun a w d => ⟨_, rfl, d.ev h⟩)
theorem Ops.assign {x : Operand} {t : Tr} (h : ev env x = some t) (hi : Nat.blt i Γ.n = true)
  (k : Ops P Γ R rest ((i, t) :: env) cs Q) : Ops P Γ R (⟨some i, .assign x, ty, pos, af, none⟩ :: rest) env cs Q :=
 Ops.val' hi (OpV.assign h) k
theorem OpV.pick_true {c x y : Operand} {t : Tr} (hc : ev env c = some (Tr.bool true)) (h : ev env x = some t) : OpV P Γ (.pick c x y) ty env cs (t) :=
 (fun a w d => ⟨a.eval x, by have := d.ev hc; simp only [Tr.raw] at this; simp [execOp, this, asBool], d.ev h⟩)
theorem Ops.pick_true {c x y : Operand} {t : Tr} (hc : ev env c = some (Tr.bool true)) (h : ev env x = some t) (hi : Nat.blt i Γ.n = true)
  (k : Ops P Γ R rest ((i, t) :: env) cs Q) : Ops P Γ R (⟨some i, .pick c x y, ty, pos, af, none⟩ :: rest) env cs Q :=
 Ops.val' hi (OpV.pick_true hc h) k
theorem OpV.pick_false {c x y : Operand} {t : Tr} (hc : ev env c = some (Tr.bool false)) (h : ev env y = some t) : OpV P Γ (.pick c x y) ty env cs (t) :=
 (fun a w d => ⟨a.eval y, by have := d.ev hc; simp only [Tr.raw] at this; simp [execOp, this, asBool], d.ev h⟩)
theorem Ops.pick_false {c x y : Operand} {t : Tr} (hc : ev env c = some (Tr.bool false)) (h : ev env y = some t) (hi : Nat.blt i Γ.n = true)
  (k : Ops P Γ R rest ((i, t) :: env) cs Q) : Ops P Γ R (⟨some i, .pick c x y, ty, pos, af, none⟩ :: rest) env cs Q :=
 Ops.val' hi (OpV.pick_false hc h) k
end code
class TySl (P : Program) (T : TypeId) (E : outParam TypeId) (k bytes : outParam Nat) (z : outParam (List Value)) : Prop where
 hT : P.underlying T = some (.slice E)
 hE : ∃ i zv, P.info? E = some i ∧ i.zero = some zv ∧ zv.cells.toList = z ∧ i.size = k ∧ i.bytes = bytes ∧ 0 < k
 hk : z.length = k
 one : ∀ v ∈ z, v.oneCell' = true
theorem TySl.hz {P : Program} {T E k bytes : Nat} {z : List Value} (h : TySl P T E k bytes z) (i : TypeInfo) (zv : Value) (hi : P.info? E = some i) (hz : i.zero = some zv) : zv.cells.size = k := by
 obtain ⟨i', zv', h1, h2, h3, _⟩ := h.hE
 rw [hi] at h1
 cases h1
 rw [hz] at h2
 cases h2
 rw [← Array.length_toList, h3, h.hk]
class TyOne (P : Program) (T : TypeId) : Prop where
 agg : ∀ w, (isAgg T).run P w = .ok false w
 size : ∃ i, P.info? T = some i ∧ i.size = 1
class TyAgg (P : Program) (T : TypeId) (n : outParam Nat) : Prop where
 agg : ∀ w, (isAgg T).run P w = .ok true w
 size : ∃ i, P.info? T = some i ∧ i.size = n
class TySz (P : Program) (T : TypeId) (n : outParam Nat) : Prop where
 size : ∃ i, P.info? T = some i ∧ i.size = n
instance {P : Program} {T : TypeId} [h : TyOne P T] : TySz P T 1 := ⟨h.size⟩
instance {P : Program} {T n : Nat} [h : TyAgg P T n] : TySz P T n := ⟨h.size⟩
class TyZero (P : Program) (T : TypeId) (z : outParam (List Value)) : Prop where
 h : ∃ i zv, P.info? T = some i ∧ i.zero = some zv ∧ zv.cells.toList = z
 one : ∀ v ∈ z, v.oneCell' = true
class TyFld (P : Program) (T : TypeId) (f : Nat) (off ty : outParam Nat) : Prop where
 h : ∃ fs fld, P.underlying T = some (.struct fs) ∧ fs[f]? = some fld ∧ fld.offset = off ∧ fld.type = ty ∧ ∃ i, P.info? ty = some i ∧ i.size ≠ 0
class TyStr (P : Program) (T : TypeId) (pl : outParam (List (Nat × Nat))) (z : outParam (List Value)) : Prop where
 h : ∃ i zv, P.info? T = some i ∧ i.zero = some zv ∧ zv.cells.toList = z ∧ ∃ fs, P.underlying T = some (.struct fs) ∧ fs.toList.mapM (fun f => (P.info? f.type).map fun i => (f.offset, i.size)) = some pl
 one : ∀ v ∈ z, v.oneCell' = true
class OneT (t : Tr) : Prop where
 h : ∀ w A v, t.rd w A v → v.oneCell' = true ∧ v.cells = #[v]
class RowT (t : Tr) (cs : outParam (List Tr)) : Prop where
 h : ∀ w A v, t.rd w A v → RdC w A cs v.cells.toList
section inst
variable {v : Value}
instance {k n} : OneT (Tr.raw (.int k n)) := ⟨fun _ _ _ h => by cases h; exact ⟨rfl, rfl⟩⟩
instance {b} : OneT (Tr.raw (.bool b)) := ⟨fun _ _ _ h => by cases h; exact ⟨rfl, rfl⟩⟩
instance {b} : OneT (Tr.raw (.string b)) := ⟨fun _ _ _ h => by cases h; exact ⟨rfl, rfl⟩⟩
instance {b} : OneT (Tr.raw (.pointer b)) := ⟨fun _ _ _ h => by cases h; exact ⟨rfl, rfl⟩⟩
instance {a n c} : OneT (Tr.raw (.slice a n c)) := ⟨fun _ _ _ h => by cases h; exact ⟨rfl, rfl⟩⟩
instance {m} : OneT (Tr.raw (.map m)) := ⟨fun _ _ _ h => by cases h; exact ⟨rfl, rfl⟩⟩
instance {f a c} : OneT (Tr.raw (.func f a c)) := ⟨fun _ _ _ h => by cases h; exact ⟨rfl, rfl⟩⟩
instance : OneT (Tr.raw .nilFunc) := ⟨fun _ _ _ h => by cases h; exact ⟨rfl, rfl⟩⟩
instance : OneT (Tr.raw .nilIface) := ⟨fun _ _ _ h => by cases h; exact ⟨rfl, rfl⟩⟩
instance {t v} : OneT (Tr.raw (.iface t v)) := ⟨fun _ _ _ h => by cases h; exact ⟨rfl, rfl⟩⟩
instance {k rows} : OneT (Tr.sl k rows) := ⟨fun _ _ _ h => by obtain ⟨_, _, a, cap, rfl, _⟩ := h; exact ⟨rfl, rfl⟩⟩
instance {cs} : OneT (Tr.ref cs) := ⟨fun _ _ _ h => by obtain ⟨b, off, rfl, _⟩ := h; exact ⟨rfl, rfl⟩⟩
instance {t} [h : OneT t] : RowT t [t] := ⟨fun w A v hv => by
 obtain ⟨h1, h2⟩ := h.h w A v hv
 rw [h2]
 exact ⟨v, [], rfl, hv, h1, rfl⟩⟩
instance {cs} : RowT (Tr.agg cs) cs := ⟨fun w A v ⟨vs, e, hr⟩ => by subst e; simpa [Value.cells] using hr⟩
end inst
theorem rdc_raw {w : World} {A : Nat → Prop} : ∀ {vs : List Value}, (∀ v ∈ vs, v.oneCell' = true) → RdC w A (vs.map Tr.raw) vs
 |[], _ => rfl
 |v :: vs, h => ⟨v, vs, rfl, rfl, h v (by simp), rdc_raw fun u hu => h u (by simp [hu])⟩
section ops
variable {P : Program} {Γ : Ctx} {env env' : Env} {cs cs' cf : List Chunk} {Q : Post} {R : Array Oper}
variable {i : Tmp} {ty : TypeId} {pos : String} {af : Array Edge} {rest : List Oper}
theorem wanted_of {a : Act} {w : World} (d : Den Γ env cs a w) {o : Oper} {j t : Nat} {b b' : Bool} (hg : o.guard = some (j, b)) (hj : (R[j]?).bind (·.dst) = some t) (hl : look env t = some (Tr.bool b')) :
  Region.wanted o (yielded R a.tmps) = (b' == b) := by
 have hd := d.env t _ hl
 simp only [Tr.raw] at hd
 have ht : t < a.tmps.size := by
  rcases Nat.lt_or_ge t a.tmps.size with h | h
  ·exact h
  ·rw [Array.getD_eq_getD_getElem?, Array.getElem?_eq_none h] at hd; simp [undef] at hd
 have hy : yielded R a.tmps j = some b' := by
  unfold yielded
  rw [hj]
  rw [Array.getD_eq_getD_getElem?, Array.getElem?_eq_getElem ht] at hd
  simp only [Option.getD_some] at hd
  simp [Array.getElem?_eq_getElem ht, hd]
 simp [Region.wanted, hg, hy]
theorem Ops.guard_yes {d : Option Tmp} {op : Op} {j t : Nat} {b : Bool} (hj : (R[j]?).bind (·.dst) = some t) (hl : look env t = some (Tr.bool b))
  (k : Ops P Γ R (⟨d, op, ty, pos, af, none⟩ :: rest) env cs Q) : Ops P Γ R (⟨d, op, ty, pos, af, some (j, b)⟩ :: rest) env cs Q := by
 intro a w hd
 have hk := k a w hd
 unfold wpListIn at hk ⊢
 rw [if_pos (by simp [Region.wanted])] at hk
 rw [if_pos (by rw [wanted_of hd (o := ⟨d, op, ty, pos, af, some (j, b)⟩) rfl hj hl]; simp)]
 exact hk
theorem Ops.guard_no {op : Op} {j t : Nat} {b b' : Bool} (hj : (R[j]?).bind (·.dst) = some t) (hl : look env t = some (Tr.bool b')) (hn : (b' == b) = false) (hi : Nat.blt i Γ.n = true)
  (k : Ops P Γ R rest ((i, Tr.raw undef) :: env) cs Q) : Ops P Γ R (⟨some i, op, ty, pos, af, some (j, b)⟩ :: rest) env cs Q := by
 intro a w hd
 unfold wpListIn
 rw [if_neg (by rw [wanted_of hd (o := ⟨some i, op, ty, pos, af, some (j, b)⟩) rfl hj hl, hn]; simp)]
 exact ⟨fun _ _ => trivial, k _ _ (hd.put hi rfl)⟩
theorem wanted_undef {a : Act} {w : World} (d : Den Γ env cs a w) {o : Oper} {j t : Nat} {b : Bool} (hg : o.guard = some (j, b)) (hj : (R[j]?).bind (·.dst) = some t) (hl : look env t = some (Tr.raw undef)) :
  Region.wanted o (yielded R a.tmps) = false := by
 have hd := d.env t _ hl
 simp only [Tr.raw] at hd
 have hy : yielded R a.tmps j = none := by
  unfold yielded
  rw [hj]
  rw [Array.getD_eq_getD_getElem?] at hd
  cases ht : a.tmps[t]? with
  |none => simp [ht]
  |some v => rw [ht] at hd; simp at hd; simp [ht, hd, undef]
 simp [Region.wanted, hg, hy]
theorem Ops.guard_undef {op : Op} {j t : Nat} {b : Bool} (hj : (R[j]?).bind (·.dst) = some t) (hl : look env t = some (Tr.raw undef)) (hi : Nat.blt i Γ.n = true)
  (k : Ops P Γ R rest ((i, Tr.raw undef) :: env) cs Q) : Ops P Γ R (⟨some i, op, ty, pos, af, some (j, b)⟩ :: rest) env cs Q := by
 intro a w hd
 unfold wpListIn
 rw [if_neg (by rw [wanted_undef hd (o := ⟨some i, op, ty, pos, af, some (j, b)⟩) rfl hj hl]; simp)]
 exact ⟨fun _ _ => trivial, k _ _ (hd.put hi rfl)⟩
theorem Ops.split {l : List Oper} {t : Nat} {β : Bool} (hl : look env t = some (Tr.bool β))
  (ht : β = true → Ops P Γ R l ((t, Tr.bool true) :: env) cs Q) (hf : β = false → Ops P Γ R l ((t, Tr.bool false) :: env) cs Q) : Ops P Γ R l env cs Q := by
 have key : ∀ b, β = b → Ent Γ env cs ((t, Tr.bool b) :: env) cs := by
  intro b e
  subst e
  intro a w d
  refine ⟨d.nodefer, d.tmps, fun j u hj => ?_, d.chunks, d.nodup, d.fresh, d.below, d.frame⟩
  by_cases e : t = j
  ·subst e; rw [look_cons_same] at hj; cases hj; exact d.env t _ hl
  ·rw [look_cons_ne _ _ e] at hj; exact d.env j u hj
 cases β with
 |true => exact Ops.ent (key true rfl) (ht rfl)
 |false => exact Ops.ent (key false rfl) (hf rfl)
theorem Ops.guard_split {d : Option Tmp} {op : Op} {j t : Nat} {b β : Bool} (hj : (R[j]?).bind (·.dst) = some t) (hl : look env t = some (Tr.bool β))
  (ht : β = true → Ops P Γ R (⟨d, op, ty, pos, af, some (j, b)⟩ :: rest) ((t, Tr.bool true) :: env) cs Q) (hf : β = false → Ops P Γ R (⟨d, op, ty, pos, af, some (j, b)⟩ :: rest) ((t, Tr.bool false) :: env) cs Q) :
  Ops P Γ R (⟨d, op, ty, pos, af, some (j, b)⟩ :: rest) env cs Q := Ops.split hl ht hf
theorem Ops.guard_dec {d : Option Tmp} {op : Op} {j t : Nat} {b : Bool} {p : Prop} [Decidable p] (hj : (R[j]?).bind (·.dst) = some t) (hl : look env t = some (Tr.bool (decide p)))
  (ht : p → Ops P Γ R (⟨d, op, ty, pos, af, some (j, b)⟩ :: rest) ((t, Tr.bool true) :: env) cs Q) (hf : ¬ p → Ops P Γ R (⟨d, op, ty, pos, af, some (j, b)⟩ :: rest) ((t, Tr.bool false) :: env) cs Q) :
  Ops P Γ R (⟨d, op, ty, pos, af, some (j, b)⟩ :: rest) env cs Q := Ops.split hl (fun e => ht (of_decide_eq_true e)) (fun e => hf (of_decide_eq_false e))
theorem rd_raw {w : World} {A : Nat → Prop} {v v0 : Value} (h : (Tr.raw v0).rd w A v) : v = v0 := h
theorem run_binOp_int {op : BinOp} {t t2 : TypeId} {x y : Operand} {a : Act} {w : World} {k : IntKind} {p q : Int} {pos : String} {af : Array Edge} {d : Option Tmp} {ty : TypeId} {v : Value}
  (hx : a.eval x = .int k p) (hy : a.eval y = .int k q) (h : binOp op t (.int k p) (.int k q) = pure v) :
  (execOp a.eval ⟨d, .binOp op t x y t2, ty, pos, af, none⟩).run P w = .ok (.value v) w := by
 simp [execOp, hx, hy, eqGuard_at_int, h]
variable {x y z : Operand} {t t2 : TypeId} {k : IntKind} {p q : Int}
theorem OpV.bin {op : BinOp} {v : Value} (hx : ev env x = some (.raw (.int k p))) (hy : ev env y = some (.raw (.int k q))) (hb : binOp op t (.int k p) (.int k q) = pure v) : OpV P Γ (.binOp op t x y t2) ty env cs (.raw v) :=
 (fun a w d => ⟨v, run_binOp_int (d.ev hx) (d.ev hy) hb, rfl⟩)
theorem OpV.add (hx : ev env x = some (.int p)) (hy : ev env y = some (.int q))  (hr : -9223372036854775808 ≤ p + q ∧ p + q ≤ 9223372036854775807): OpV P Γ (.binOp .add t x y t2) ty env cs (.int (p + q)) :=
 OpV.bin hx hy (by rw [binOp_add]; simp [Op.intArith, IntWalk.i64_in _ hr])
theorem Ops.add (hx : ev env x = some (.int p)) (hy : ev env y = some (.int q))  (hr : -9223372036854775808 ≤ p + q ∧ p + q ≤ 9223372036854775807)(hi : Nat.blt i Γ.n = true)
  (kk : Ops P Γ R rest ((i, .int (p + q)) :: env) cs Q) : Ops P Γ R (⟨some i, .binOp .add t x y t2, ty, pos, af, none⟩ :: rest) env cs Q :=
 Ops.val' hi (OpV.add hx hy hr) kk
theorem OpV.sub (hx : ev env x = some (.int p)) (hy : ev env y = some (.int q))  (hr : -9223372036854775808 ≤ p - q ∧ p - q ≤ 9223372036854775807): OpV P Γ (.binOp .sub t x y t2) ty env cs (.int (p - q)) :=
 OpV.bin hx hy (by rw [binOp_sub]; simp [Op.intArith, IntWalk.i64_in _ hr])
theorem Ops.sub (hx : ev env x = some (.int p)) (hy : ev env y = some (.int q))  (hr : -9223372036854775808 ≤ p - q ∧ p - q ≤ 9223372036854775807)(hi : Nat.blt i Γ.n = true)
  (kk : Ops P Γ R rest ((i, .int (p - q)) :: env) cs Q) : Ops P Γ R (⟨some i, .binOp .sub t x y t2, ty, pos, af, none⟩ :: rest) env cs Q :=
 Ops.val' hi (OpV.sub hx hy hr) kk
theorem OpV.mul (hx : ev env x = some (.int p)) (hy : ev env y = some (.int q))  (hr : -9223372036854775808 ≤ p * q ∧ p * q ≤ 9223372036854775807): OpV P Γ (.binOp .mul t x y t2) ty env cs (.int (p * q)) :=
 OpV.bin hx hy (by rw [binOp_mul]; simp [Op.intArith, IntWalk.i64_in _ hr])
theorem Ops.mul (hx : ev env x = some (.int p)) (hy : ev env y = some (.int q))  (hr : -9223372036854775808 ≤ p * q ∧ p * q ≤ 9223372036854775807)(hi : Nat.blt i Γ.n = true)
  (kk : Ops P Γ R rest ((i, .int (p * q)) :: env) cs Q) : Ops P Γ R (⟨some i, .binOp .mul t x y t2, ty, pos, af, none⟩ :: rest) env cs Q :=
 Ops.val' hi (OpV.mul hx hy hr) kk
theorem OpV.addW (hx : ev env x = some (.raw (.int k p))) (hy : ev env y = some (.raw (.int k q))) : OpV P Γ (.binOp .add t x y t2) ty env cs (.raw (.int k (k.wrap (p + q)))) :=
 OpV.bin hx hy (by rw [binOp_add]; rfl)
theorem Ops.addW (hx : ev env x = some (.raw (.int k p))) (hy : ev env y = some (.raw (.int k q))) (hi : Nat.blt i Γ.n = true)
  (kk : Ops P Γ R rest ((i, .raw (.int k (k.wrap (p + q)))) :: env) cs Q) : Ops P Γ R (⟨some i, .binOp .add t x y t2, ty, pos, af, none⟩ :: rest) env cs Q :=
 Ops.val' hi (OpV.addW hx hy) kk
theorem OpV.mulW (hx : ev env x = some (.raw (.int k p))) (hy : ev env y = some (.raw (.int k q))) : OpV P Γ (.binOp .mul t x y t2) ty env cs (.raw (.int k (k.wrap (p * q)))) :=
 OpV.bin hx hy (by rw [binOp_mul]; rfl)
theorem Ops.mulW (hx : ev env x = some (.raw (.int k p))) (hy : ev env y = some (.raw (.int k q))) (hi : Nat.blt i Γ.n = true)
  (kk : Ops P Γ R rest ((i, .raw (.int k (k.wrap (p * q)))) :: env) cs Q) : Ops P Γ R (⟨some i, .binOp .mul t x y t2, ty, pos, af, none⟩ :: rest) env cs Q :=
 Ops.val' hi (OpV.mulW hx hy) kk
theorem OpV.quo (hx : ev env x = some (.int p)) (hy : ev env y = some (.int q))  (hr : 0 ≤ p ∧ p ≤ 9223372036854775807 ∧ 1 ≤ q): OpV P Γ (.binOp .quo t x y t2) ty env cs (.int (p / q)) :=
 OpV.bin hx hy (by rw [binOp_quo]; simp [Op.intDiv, show ¬ q = 0 by omega, IntWalk.i64_quo _ _ hr])
theorem Ops.quo (hx : ev env x = some (.int p)) (hy : ev env y = some (.int q))  (hr : 0 ≤ p ∧ p ≤ 9223372036854775807 ∧ 1 ≤ q)(hi : Nat.blt i Γ.n = true)
  (kk : Ops P Γ R rest ((i, .int (p / q)) :: env) cs Q) : Ops P Γ R (⟨some i, .binOp .quo t x y t2, ty, pos, af, none⟩ :: rest) env cs Q :=
 Ops.val' hi (OpV.quo hx hy hr) kk
theorem OpV.quoT (hx : ev env x = some (.int p)) (hy : ev env y = some (.int q))  (hr : -9223372036854775808 ≤ p ∧ p ≤ 9223372036854775807 ∧ 1 ≤ q): OpV P Γ (.binOp .quo t x y t2) ty env cs (.int (p.tdiv q)) :=
 OpV.bin hx hy (by rw [binOp_quo]; simp [Op.intDiv, show ¬ q = 0 by omega, IntWalk.i64_quo' _ _ hr])
theorem OpV.rem (hx : ev env x = some (.int p)) (hy : ev env y = some (.int q))  (hr : 0 ≤ p ∧ 1 ≤ q): OpV P Γ (.binOp .rem t x y t2) ty env cs (.int (p % q)) :=
 OpV.bin hx hy (by rw [binOp_rem]; simp [Op.intDiv, show ¬ q = 0 by omega, IntWalk.rem_in _ _ hr.1])
theorem Ops.rem (hx : ev env x = some (.int p)) (hy : ev env y = some (.int q))  (hr : 0 ≤ p ∧ 1 ≤ q)(hi : Nat.blt i Γ.n = true)
  (kk : Ops P Γ R rest ((i, .int (p % q)) :: env) cs Q) : Ops P Γ R (⟨some i, .binOp .rem t x y t2, ty, pos, af, none⟩ :: rest) env cs Q :=
 Ops.val' hi (OpV.rem hx hy hr) kk
theorem OpV.remT (hx : ev env x = some (.raw (.int k p))) (hy : ev env y = some (.raw (.int k q)))  (hr : q ≠ 0): OpV P Γ (.binOp .rem t x y t2) ty env cs (.raw (.int k (p.tmod q))) :=
 OpV.bin hx hy (by rw [binOp_rem]; simp [Op.intDiv, hr])
theorem Ops.remT (hx : ev env x = some (.raw (.int k p))) (hy : ev env y = some (.raw (.int k q)))  (hr : q ≠ 0)(hi : Nat.blt i Γ.n = true)
  (kk : Ops P Γ R rest ((i, .raw (.int k (p.tmod q))) :: env) cs Q) : Ops P Γ R (⟨some i, .binOp .rem t x y t2, ty, pos, af, none⟩ :: rest) env cs Q :=
 Ops.val' hi (OpV.remT hx hy hr) kk
theorem OpV.lss (hx : ev env x = some (.raw (.int k p))) (hy : ev env y = some (.raw (.int k q))) : OpV P Γ (.binOp .lss t x y t2) ty env cs (.bool (decide (p < q))) :=
 OpV.bin hx hy (by rw [binOp_lss])
theorem Ops.lss (hx : ev env x = some (.raw (.int k p))) (hy : ev env y = some (.raw (.int k q))) (hi : Nat.blt i Γ.n = true)
  (kk : Ops P Γ R rest ((i, .bool (decide (p < q))) :: env) cs Q) : Ops P Γ R (⟨some i, .binOp .lss t x y t2, ty, pos, af, none⟩ :: rest) env cs Q :=
 Ops.val' hi (OpV.lss hx hy) kk
theorem OpV.leq (hx : ev env x = some (.raw (.int k p))) (hy : ev env y = some (.raw (.int k q))) : OpV P Γ (.binOp .leq t x y t2) ty env cs (.bool (decide (p ≤ q))) :=
 OpV.bin hx hy (by rw [binOp_leq])
theorem Ops.leq (hx : ev env x = some (.raw (.int k p))) (hy : ev env y = some (.raw (.int k q))) (hi : Nat.blt i Γ.n = true)
  (kk : Ops P Γ R rest ((i, .bool (decide (p ≤ q))) :: env) cs Q) : Ops P Γ R (⟨some i, .binOp .leq t x y t2, ty, pos, af, none⟩ :: rest) env cs Q :=
 Ops.val' hi (OpV.leq hx hy) kk
theorem OpV.gtr (hx : ev env x = some (.raw (.int k p))) (hy : ev env y = some (.raw (.int k q))) : OpV P Γ (.binOp .gtr t x y t2) ty env cs (.bool (decide (q < p))) :=
 OpV.bin hx hy (by rw [binOp_gtr])
theorem Ops.gtr (hx : ev env x = some (.raw (.int k p))) (hy : ev env y = some (.raw (.int k q))) (hi : Nat.blt i Γ.n = true)
  (kk : Ops P Γ R rest ((i, .bool (decide (q < p))) :: env) cs Q) : Ops P Γ R (⟨some i, .binOp .gtr t x y t2, ty, pos, af, none⟩ :: rest) env cs Q :=
 Ops.val' hi (OpV.gtr hx hy) kk
theorem OpV.geq (hx : ev env x = some (.raw (.int k p))) (hy : ev env y = some (.raw (.int k q))) : OpV P Γ (.binOp .geq t x y t2) ty env cs (.bool (decide (q ≤ p))) :=
 OpV.bin hx hy (by rw [binOp_geq])
theorem Ops.geq (hx : ev env x = some (.raw (.int k p))) (hy : ev env y = some (.raw (.int k q))) (hi : Nat.blt i Γ.n = true)
  (kk : Ops P Γ R rest ((i, .bool (decide (q ≤ p))) :: env) cs Q) : Ops P Γ R (⟨some i, .binOp .geq t x y t2, ty, pos, af, none⟩ :: rest) env cs Q :=
 Ops.val' hi (OpV.geq hx hy) kk
theorem OpV.eql (hx : ev env x = some (.raw (.int k p))) (hy : ev env y = some (.raw (.int k q))) : OpV P Γ (.binOp .eql t x y t2) ty env cs (.bool (decide (p = q))) :=
 OpV.bin hx hy (by rw [binOp_eql]; congr 2)
theorem Ops.eql (hx : ev env x = some (.raw (.int k p))) (hy : ev env y = some (.raw (.int k q))) (hi : Nat.blt i Γ.n = true)
  (kk : Ops P Γ R rest ((i, .bool (decide (p = q))) :: env) cs Q) : Ops P Γ R (⟨some i, .binOp .eql t x y t2, ty, pos, af, none⟩ :: rest) env cs Q :=
 Ops.val' hi (OpV.eql hx hy) kk
theorem OpV.neq (hx : ev env x = some (.raw (.int k p))) (hy : ev env y = some (.raw (.int k q))) : OpV P Γ (.binOp .neq t x y t2) ty env cs (.bool (decide (p ≠ q))) :=
 OpV.bin hx hy (by rw [binOp_neq]; congr 2; rw [Bool.eq_iff_iff]; simp)
theorem Ops.neq (hx : ev env x = some (.raw (.int k p))) (hy : ev env y = some (.raw (.int k q))) (hi : Nat.blt i Γ.n = true)
  (kk : Ops P Γ R rest ((i, .bool (decide (p ≠ q))) :: env) cs Q) : Ops P Γ R (⟨some i, .binOp .neq t x y t2, ty, pos, af, none⟩ :: rest) env cs Q :=
 Ops.val' hi (OpV.neq hx hy) kk
theorem OpV.neg (hx : ev env x = some (.int p))  (hr : -9223372036854775807 ≤ p ∧ p ≤ 9223372036854775807): OpV P Γ (.unOp .neg t x) ty env cs (.int (-p)) :=
 (fun a w d => ⟨.int .i64 (-p), by
  have h := rd_raw (d.ev hx)
  simp [execOp, h, Op.unary, Op.intArith, IntWalk.i64_in (-p) (by omega)], rfl⟩)
theorem Ops.neg (hx : ev env x = some (.int p))  (hr : -9223372036854775807 ≤ p ∧ p ≤ 9223372036854775807)(hi : Nat.blt i Γ.n = true)
  (kk : Ops P Γ R rest ((i, .int (-p)) :: env) cs Q) : Ops P Γ R (⟨some i, .unOp .neg t x, ty, pos, af, none⟩ :: rest) env cs Q :=
 Ops.val' hi (OpV.neg hx hr) kk
theorem OpV.not {b : Bool} (hx : ev env x = some (.bool b)) : OpV P Γ (.unOp .not t x) ty env cs (.bool (!b)) :=
 (fun a w d => ⟨.bool (!b), by
  have h := rd_raw (d.ev hx)
  simp [execOp, h, Op.unary], rfl⟩)
theorem Ops.not {b : Bool} (hx : ev env x = some (.bool b)) (hi : Nat.blt i Γ.n = true)
  (kk : Ops P Γ R rest ((i, .bool (!b)) :: env) cs Q) : Ops P Γ R (⟨some i, .unOp .not t x, ty, pos, af, none⟩ :: rest) env cs Q :=
 Ops.val' hi (OpV.not hx) kk
theorem Ops.not_dec {p : Prop} [Decidable p] (hx : ev env x = some (.bool (decide p))) (hi : Nat.blt i Γ.n = true)
  (kk : Ops P Γ R rest ((i, .bool (decide (¬ p))) :: env) cs Q) : Ops P Γ R (⟨some i, .unOp .not t x, ty, pos, af, none⟩ :: rest) env cs Q :=
 Ops.not hx hi (by rw [← decide_not]; exact kk)
theorem OpV.max2 {ts : Array TypeId} (hx : ev env x = some (.int p)) (hy : ev env y = some (.int q)) : OpV P Γ (.call ⟨.builtin .max, #[x, y], ts⟩) ty env cs (.int (max p q)) :=
 (fun a w d => ⟨.int .i64 (max p q), by
  have h1 := rd_raw (d.ev hx)
  have h2 := rd_raw (d.ev hy)
  have e : (if q > p then q else p) = max p q := by omega
  simp [execOp, resolve, invoke, builtin, h1, h2, Builtin.max_, Builtin.max2, e], rfl⟩)
theorem Ops.max2 {ts : Array TypeId} (hx : ev env x = some (.int p)) (hy : ev env y = some (.int q)) (hi : Nat.blt i Γ.n = true)
  (kk : Ops P Γ R rest ((i, .int (max p q)) :: env) cs Q) : Ops P Γ R (⟨some i, .call ⟨.builtin .max, #[x, y], ts⟩, ty, pos, af, none⟩ :: rest) env cs Q :=
 Ops.val' hi (OpV.max2 hx hy) kk
theorem OpV.min2 {ts : Array TypeId} (hx : ev env x = some (.int p)) (hy : ev env y = some (.int q)) : OpV P Γ (.call ⟨.builtin .min, #[x, y], ts⟩) ty env cs (.int (min p q)) :=
 (fun a w d => ⟨.int .i64 (min p q), by
  have h1 := rd_raw (d.ev hx)
  have h2 := rd_raw (d.ev hy)
  have e : (if q < p then q else p) = min p q := by omega
  simp [execOp, resolve, invoke, builtin, h1, h2, Builtin.min_, Builtin.min2, e], rfl⟩)
theorem Ops.min2 {ts : Array TypeId} (hx : ev env x = some (.int p)) (hy : ev env y = some (.int q)) (hi : Nat.blt i Γ.n = true)
  (kk : Ops P Γ R rest ((i, .int (min p q)) :: env) cs Q) : Ops P Γ R (⟨some i, .call ⟨.builtin .min, #[x, y], ts⟩, ty, pos, af, none⟩ :: rest) env cs Q :=
 Ops.val' hi (OpV.min2 hx hy) kk
theorem OpV.extract {ts : List Tr} {n : Nat} {r : Tr} (hx : ev env x = some (.tup ts)) (hn : ts[n]? = some r) : OpV P Γ (.extract x n) ty env cs (r) :=
 (fun a w d => by
  obtain ⟨vs, hv, hr⟩ := d.ev hx
  obtain ⟨v, h1, h2⟩ := hr.get hn
  exact ⟨v, by simp [execOp, hv, Instr.extract, h1], h2⟩)
theorem Ops.extract {ts : List Tr} {n : Nat} {r : Tr} (hx : ev env x = some (.tup ts)) (hn : ts[n]? = some r) (hi : Nat.blt i Γ.n = true)
  (kk : Ops P Γ R rest ((i, r) :: env) cs Q) : Ops P Γ R (⟨some i, .extract x n, ty, pos, af, none⟩ :: rest) env cs Q :=
 Ops.val' hi (OpV.extract hx hn) kk
theorem OpV.nilCheck_raw {ad : Addr} (hx : ev env x = some (.raw (.pointer (some ad)))) : OpV P Γ (.nilCheck x) ty env cs (.raw (.pointer (some ad))) :=
 (fun a w d => ⟨_, by have h := rd_raw (d.ev hx); simp only [execOp, h]; rfl, rfl⟩)
theorem Ops.nilCheck_raw {ad : Addr} (hx : ev env x = some (.raw (.pointer (some ad)))) (hi : Nat.blt i Γ.n = true)
  (kk : Ops P Γ R rest ((i, .raw (.pointer (some ad))) :: env) cs Q) : Ops P Γ R (⟨some i, .nilCheck x, ty, pos, af, none⟩ :: rest) env cs Q :=
 Ops.val' hi (OpV.nilCheck_raw hx) kk
theorem Ops.makeFunc {fn : Fn} {capt : Array Operand} {vs : List Value} (hc : capt.toList.mapM (fun x => match ev env x with | some t => some t | none => none) = some (vs.map Tr.raw)) (hi : Nat.blt i Γ.n = true)
  (kk : Ops P Γ R rest ((i, .raw (.func fn #[] vs.toArray)) :: env) cs Q) : Ops P Γ R (⟨some i, .makeFunc fn #[] capt, ty, pos, af, none⟩ :: rest) env cs Q := by
 refine Ops.val hi (fun a w d => ⟨_, ?_, rfl⟩) kk
 have : capt.map a.eval = vs.toArray := by
  obtain ⟨l⟩ := capt
  simp only [List.map_toArray]
  congr 1
  simp only at hc
  clear kk
  induction l generalizing vs with
  |nil => simp at hc; cases vs <;> simp_all
  |cons o l ih =>
   simp only [List.mapM_cons] at hc
   cases he : ev env o with
   |none => simp [he] at hc
   |some t =>
    cases hl : (l.mapM fun x => match ev env x with | some t => some t | none => none) with
    |none => simp [he, hl] at hc
    |some us =>
     simp [he, hl] at hc
     cases vs with
     |nil => simp at hc
     |cons v vs =>
      simp at hc
      obtain ⟨h1, h2⟩ := hc
      subst h1
      have := rd_raw (d.ev he)
      simp [this, ih (vs := vs) (by rw [hl, h2])]
 simp [execOp, Instr.makeFunc, this]
end ops
section mem
variable {P : Program} {Γ : Ctx} {env env' : Env} {cs cs' cf : List Chunk} {Q : Post} {R : Array Oper}
variable {i : Tmp} {ty : TypeId} {pos : String} {af : Array Edge} {rest : List Oper}
variable {x y z : Operand} {T T2 : TypeId} {k : IntKind} {p q : Int}
theorem _root_.Lg.Den.has {a : Act} {w : World} {c : Chunk} (d : Den Γ env cs a w) (hp : cs.Perm (c :: cf)) : c.holds w (av Γ.M cs) := d.chunks _ (hp.mem_iff.2 (by simp))
theorem run_len_slice' {t E : TypeId} (h : P.underlying t = some (.slice E)) (ty : TypeId) (w : World) (base : Option Addr) (n c : Nat) :
  (Builtin.len_ #[t] ty #[.slice base n c]).run P w = .ok (.int .i64 n) w := by
 simp [Builtin.len_, run_underlying h, goInt]
theorem OpV.len_raw {E kk bb z} [h : TySl P T E kk bb z] {ad : Option Addr} {n c : Nat} (hx : ev env x = some (.raw (.slice ad n c))) : OpV P Γ (.call ⟨.builtin .len, #[x], #[T]⟩) ty env cs (.int (n : Int)) :=
 (fun a w d => ⟨_, by
  have hv := rd_raw (d.ev hx)
  simp [execOp, resolve, invoke, builtin, hv, run_len_slice' h.hT], rfl⟩)
theorem Ops.len_raw {E kk bb z} [h : TySl P T E kk bb z] {ad : Option Addr} {n c : Nat} (hx : ev env x = some (.raw (.slice ad n c))) (hi : Nat.blt i Γ.n = true)
  (r : Ops P Γ R rest ((i, .int (n : Int)) :: env) cs Q) : Ops P Γ R (⟨some i, .call ⟨.builtin .len, #[x], #[T]⟩, ty, pos, af, none⟩ :: rest) env cs Q :=
 Ops.val' hi (OpV.len_raw hx) r
theorem OpV.len_sl {E kk bb z} [h : TySl P T E kk bb z] {k2 : Nat} {rows : List (List Tr)} (hx : ev env x = some (.sl k2 rows)) : OpV P Γ (.call ⟨.builtin .len, #[x], #[T]⟩) ty env cs (.int (rows.length : Int)) :=
 (fun a w d => by
  obtain ⟨_, _, ad, cap, hv, _⟩ := d.ev hx
  exact ⟨_, by simp [execOp, resolve, invoke, builtin, hv, run_len_slice' h.hT], rfl⟩)
theorem Ops.len_sl {E kk bb z} [h : TySl P T E kk bb z] {k2 : Nat} {rows : List (List Tr)} (hx : ev env x = some (.sl k2 rows)) (hi : Nat.blt i Γ.n = true)
  (r : Ops P Γ R rest ((i, .int (rows.length : Int)) :: env) cs Q) : Ops P Γ R (⟨some i, .call ⟨.builtin .len, #[x], #[T]⟩, ty, pos, af, none⟩ :: rest) env cs Q :=
 Ops.val' hi (OpV.len_sl hx) r
theorem OpV.len_str {s : ByteArray} (hT : P.underlying T = some .string) (hx : ev env x = some (.str s)) : OpV P Γ (.call ⟨.builtin .len, #[x], #[T]⟩) ty env cs (.int (s.size : Int)) :=
 (fun a w d => ⟨_, by
  have hv := rd_raw (d.ev hx)
  simp [execOp, resolve, invoke, builtin, hv, Builtin.len_, run_underlying hT, goInt], rfl⟩)
theorem Ops.len_str {s : ByteArray} (hT : P.underlying T = some .string) (hx : ev env x = some (.str s)) (hi : Nat.blt i Γ.n = true)
  (r : Ops P Γ R rest ((i, .int (s.size : Int)) :: env) cs Q) : Ops P Γ R (⟨some i, .call ⟨.builtin .len, #[x], #[T]⟩, ty, pos, af, none⟩ :: rest) env cs Q :=
 Ops.val' hi (OpV.len_str hT hx) r
theorem add_plain (b o n : Nat) : (⟨b, o, none⟩ : Addr).add n = ⟨b, o + n, none⟩ := Addr.add_lit b o n
def Tr.eptr (ad : Option Addr) (k e j : Nat) : Tr := ⟨fun _ _ v => ∃ g, ad = some ⟨g, 0, none⟩ ∧ v = .pointer (some ⟨g, e * k + j, none⟩), fun _ h => h⟩
instance {ad k e j} : OneT (Tr.eptr ad k e j) := ⟨fun _ _ _ h => by obtain ⟨g, _, rfl⟩ := h; exact ⟨rfl, rfl⟩⟩
theorem run_indexAt {T E kk bb : Nat} {z : List Value} [h : TySl P T E kk bb z] {b o len cap : Nat} {p : Int} (h0 : 0 ≤ p) (h1 : p < len) (w : World) :
  (Instr.indexAt T (.slice (some ⟨b, o, none⟩) len cap) (.int k p)).run P w = .ok (.pointer (some ⟨b, o + p.toNat * kk, none⟩)) w := by
 obtain ⟨i, zv, hi, _, _, hs, _⟩ := h.hE
 simp [Instr.indexAt, run_underlying h.hT, asIntOf, h0, h1, Go.sizeOf, typeInfo, hi, hs, add_plain]
theorem flatten_row {rows : List (List Tr)} {k : Nat} (hk : ∀ r ∈ rows, r.length = k) : ∀ {e : Nat} {r : List Tr}, rows[e]? = some r → (rows.flatten.drop (e * k)).take k = r ∧ e * k + k ≤ rows.flatten.length := by
 induction rows with
 |nil => intro e r h; simp at h
 |cons s rows ih =>
  intro e r h
  have hs : s.length = k := hk s (by simp)
  cases e with
  |zero =>
   simp at h
   subst h
   simp [hs]
  |succ e =>
   simp at h
   obtain ⟨h1, h2⟩ := ih (fun r hr => hk r (by simp [hr])) h
   have e1 : (e + 1) * k = s.length + e * k := by rw [Nat.add_mul, hs]; omega
   refine ⟨?_, ?_⟩
   ·rw [List.flatten_cons, e1, ← List.drop_drop, List.drop_left]
    exact h1
   ·rw [List.flatten_cons, List.length_append]
    omega
theorem Cells.row {w : World} {A : Nat → Prop} {b off k e : Nat} {rows : List (List Tr)} {r : List Tr} (hk : ∀ r ∈ rows, r.length = k) (h : Cells w A b off rows.flatten) (he : rows[e]? = some r) : Cells w A b (off + e * k) r := by
 obtain ⟨hA, c, el, fz, hb, hr⟩ := h
 obtain ⟨h1, h2⟩ := flatten_row hk he
 have hl : r.length = k := hk r (List.mem_of_getElem? he)
 refine ⟨hA, c, el, fz, hb, ?_⟩
 have := (hr.drop (e * k)).take k
 rw [h1] at this
 rw [hl, ← List.drop_drop]
 rw [List.drop_take, List.take_take] at this
 rwa [Nat.min_eq_left (by omega)] at this
theorem OpV.indexAddr_sl {E kk bb z} [h : TySl P T E kk bb z] {rows : List (List Tr)} {r : List Tr} (hx : ev env x = some (.sl kk rows)) (hy : ev env y = some (.raw (.int k p))) (h0 : 0 ≤ p) (hr : rows[p.toNat]? = some r) : OpV P Γ (.indexAddr T x y) ty env cs (.ref r) :=
 (fun a w d => by
  obtain ⟨hk, hl, ad, cap, hv, h1, h2, h3, h4⟩ := d.ev hx
  have hp := rd_raw (d.ev hy)
  have hlt : p.toNat < rows.length := (List.getElem?_eq_some_iff.1 hr).1
  rcases h4 with h4 | ⟨b, off, rfl, hc⟩
  ·subst h4; simp at hr
  ·refine ⟨.pointer (some ⟨b, off + p.toNat * kk, none⟩), ?_, b, off + p.toNat * kk, rfl, hc.row hk hr⟩
   simp [execOp, hv, hp, run_indexAt (T := T) h0 (show p < (rows.length : Int) by omega)])
theorem Ops.indexAddr_sl {E kk bb z} [h : TySl P T E kk bb z] {rows : List (List Tr)} {r : List Tr} (hx : ev env x = some (.sl kk rows)) (hy : ev env y = some (.raw (.int k p))) (h0 : 0 ≤ p) (hr : rows[p.toNat]? = some r) (hi : Nat.blt i Γ.n = true)
  (kont : Ops P Γ R rest ((i, .ref r) :: env) cs Q) : Ops P Γ R (⟨some i, .indexAddr T x y, ty, pos, af, none⟩ :: rest) env cs Q :=
 Ops.val' hi (OpV.indexAddr_sl hx hy h0 hr) kont
theorem own_some {w : World} {A : Nat → Prop} {ad : Option Addr} {cap k : Nat} {e : TypeId} {rows : List (List Tr)} (h : (Chunk.own ad cap k e rows).holds w A) (hne : rows ≠ []) :
  ∃ g cur, ad = some ⟨g, 0, none⟩ ∧ w.heap[g]? = some (.cells cur e (0, 0)) ∧ rows.length ≤ cap ∧ cap ≤ maxLen ∧ cur.size = cap * k ∧ (∀ r ∈ rows, r.length = k) ∧ RdC w A rows.flatten (cur.toList.take rows.flatten.length) := by
 obtain ⟨hk, xs, ho, hr⟩ := h
 rcases ho.2 with ⟨_, hn⟩ | ⟨g, cp, cur, hv, _, hg, h1, h2, h3, h4⟩
 ·exact absurd (List.eq_nil_of_length_eq_zero hn) hne
 ·simp only [Value.slice.injEq] at hv
  obtain ⟨ha, _, hc⟩ := hv
  subst hc
  refine ⟨g, cur, ha, hg, h1, h2, h3, hk, ?_⟩
  have hl : rows.flatten.length = rows.length * k := by rw [← hr.length, ho.1]
  rw [hl, h4]
  exact hr
theorem OpV.indexAddr_own {E kk bb z} [h : TySl P T E kk bb z] {ad : Option Addr} {n cap : Nat} {e : TypeId} {rows : List (List Tr)} (hx : ev env x = some (.raw (.slice ad n cap))) (hy : ev env y = some (.raw (.int k p)))
  (hp : cs.Perm (Chunk.own ad cap kk e rows :: cf)) (hn : n = rows.length) (h0 : 0 ≤ p) (h1 : p < rows.length) : OpV P Γ (.indexAddr T x y) ty env cs (.eptr ad kk p.toNat 0) :=
 (fun a w d => by
  have hv := rd_raw (d.ev hx)
  have hp' := rd_raw (d.ev hy)
  have hch := d.has hp
  obtain ⟨g, cur, rfl, _⟩ := own_some hch (fun e => by subst e; simp at h1; omega)
  subst hn
  exact ⟨_, by simp [execOp, hv, hp', run_indexAt (T := T) h0 h1] <;> rfl, g, rfl, by simp⟩)
theorem Ops.indexAddr_own {E kk bb z} [h : TySl P T E kk bb z] {ad : Option Addr} {n cap : Nat} {e : TypeId} {rows : List (List Tr)} (hx : ev env x = some (.raw (.slice ad n cap))) (hy : ev env y = some (.raw (.int k p)))
  (hp : cs.Perm (Chunk.own ad cap kk e rows :: cf)) (hn : n = rows.length) (h0 : 0 ≤ p) (h1 : p < rows.length) (hi : Nat.blt i Γ.n = true)
  (kont : Ops P Γ R rest ((i, .eptr ad kk p.toNat 0) :: env) cs Q) : Ops P Γ R (⟨some i, .indexAddr T x y, ty, pos, af, none⟩ :: rest) env cs Q :=
 Ops.val' hi (OpV.indexAddr_own hx hy hp hn h0 h1) kont
theorem run_fieldAt {S f off fty : Nat} [h : TyFld P S f off fty] {b o : Nat} (w : World) :
  (Instr.fieldAt S (.pointer (some ⟨b, o, none⟩)) f).run P w = .ok (.pointer (some ⟨b, o + off, none⟩)) w := by
 obtain ⟨fs, fld, hu, hf, ho, ht, i, hi, hs⟩ := h.h
 subst ho
 subst ht
 simp [Instr.fieldAt, run_underlying hu, hf, Instr.sureAddr, fieldPlace, Go.sizeOf, typeInfo, hi, hs, add_plain]
theorem OpV.fieldAddr_raw {f off fty : Nat} [h : TyFld P T f off fty] {b o : Nat} (hx : ev env x = some (.raw (.pointer (some ⟨b, o, none⟩)))) : OpV P Γ (.fieldAddr T x f) ty env cs (.raw (.pointer (some ⟨b, o + off, none⟩))) :=
 (fun a w d => ⟨_, by have hv := rd_raw (d.ev hx); simp [execOp, hv, run_fieldAt (S := T)] <;> rfl, rfl⟩)
theorem Ops.fieldAddr_raw {f off fty : Nat} [h : TyFld P T f off fty] {b o : Nat} (hx : ev env x = some (.raw (.pointer (some ⟨b, o, none⟩)))) (hi : Nat.blt i Γ.n = true)
  (kont : Ops P Γ R rest ((i, .raw (.pointer (some ⟨b, o + off, none⟩))) :: env) cs Q) : Ops P Γ R (⟨some i, .fieldAddr T x f, ty, pos, af, none⟩ :: rest) env cs Q :=
 Ops.val' hi (OpV.fieldAddr_raw hx) kont
theorem Cells.drop {w : World} {A : Nat → Prop} {b off : Nat} {ts : List Tr} (h : Cells w A b off ts) (n : Nat) : Cells w A b (off + n) (ts.drop n) := by
 obtain ⟨hA, c, e, fz, hb, hr⟩ := h
 refine ⟨hA, c, e, fz, hb, ?_⟩
 have := hr.drop n
 rwa [List.drop_take, List.drop_drop, ← List.length_drop] at this
theorem OpV.fieldAddr_ref {f off fty : Nat} [h : TyFld P T f off fty] {ts : List Tr} (hx : ev env x = some (.ref ts)) : OpV P Γ (.fieldAddr T x f) ty env cs (.ref (ts.drop off)) :=
 (fun a w d => by
  obtain ⟨b, o, hv, hc⟩ := d.ev hx
  exact ⟨_, by simp [execOp, hv, run_fieldAt (S := T)] <;> rfl, b, o + off, rfl, hc.drop off⟩)
theorem Ops.fieldAddr_ref {f off fty : Nat} [h : TyFld P T f off fty] {ts : List Tr} (hx : ev env x = some (.ref ts)) (hi : Nat.blt i Γ.n = true)
  (kont : Ops P Γ R rest ((i, .ref (ts.drop off)) :: env) cs Q) : Ops P Γ R (⟨some i, .fieldAddr T x f, ty, pos, af, none⟩ :: rest) env cs Q :=
 Ops.val' hi (OpV.fieldAddr_ref hx) kont
theorem cell_at {w : World} {b o : Nat} {c : Array Value} {e : TypeId} {fz : Nat × Nat} (h : w.heap[b]? = some (.cells c e fz)) : w.cell? ⟨b, o, none⟩ = c[o]? := by
 simp [World.cell?, h]
theorem run_loadOne [h : TyOne P T] {w : World} {ad : Addr} {v : Value} (hc : w.cell? ad = some v) : (loadVar T ad).run P w = .ok v w := by
 simp [loadVar, h.agg, hc]
theorem run_loadAgg {n : Nat} [h : TyAgg P T n] {w : World} {b o : Nat} {vs : List Value} (hn : vs.length = n) (hc : ∀ j v, vs[j]? = some v → w.cell? ⟨b, o + j, none⟩ = some v) : (loadVar T ⟨b, o, none⟩).run P w = .ok (.agg vs.toArray) w := by
 obtain ⟨i, hi, hs⟩ := h.size
 have := run_loadCells_list (P := P) w ⟨b, o, none⟩ vs (fun j v hv => by rw [add_plain]; exact hc j v hv)
 simp [loadVar, h.agg, Go.sizeOf, typeInfo, hi, hs, ← hn, this]
theorem rdc_cells {w : World} {A : Nat → Prop} {ts : List Tr} {c : Array Value} {off : Nat} (h : RdC w A ts ((c.toList.drop off).take ts.length)) :
  ∃ vs : List Value, vs.length = ts.length ∧ RdC w A ts vs ∧ ∀ j v, vs[j]? = some v → c[off + j]? = some v := by
 refine ⟨_, h.length, h, fun j v hv => ?_⟩
 rw [List.getElem?_take] at hv
 split at hv
 ·rw [List.getElem?_drop] at hv
  simpa using hv
 ·cases hv
theorem OpV.load_ref_one [h : TyOne P T] {t : Tr} {ts : List Tr} (hx : ev env x = some (.ref (t :: ts))) : OpV P Γ (.load T x) ty env cs (t) :=
 (fun a w d => by
  obtain ⟨b, o, hv, hA, c, e, fz, hb, hr⟩ := d.ev hx
  obtain ⟨vs, hl, hr', hcv⟩ := rdc_cells hr
  obtain ⟨v, r, rfl, ht, _⟩ := hr'
  have hcell : w.cell? ⟨b, o, none⟩ = some v := by rw [cell_at hb]; simpa using hcv 0 v (by simp)
  exact ⟨v, by simp [execOp, hv, Instr.loadAt, Instr.sureAddr, run_loadOne (T := T) hcell], ht⟩)
theorem Ops.load_ref_one [h : TyOne P T] {t : Tr} {ts : List Tr} (hx : ev env x = some (.ref (t :: ts))) (hi : Nat.blt i Γ.n = true)
  (kont : Ops P Γ R rest ((i, t) :: env) cs Q) : Ops P Γ R (⟨some i, .load T x, ty, pos, af, none⟩ :: rest) env cs Q :=
 Ops.val' hi (OpV.load_ref_one hx) kont
theorem OpV.load_ref_agg {n : Nat} [h : TyAgg P T n] {ts : List Tr} (hx : ev env x = some (.ref ts)) (hn : ts.length = n) : OpV P Γ (.load T x) ty env cs (.agg ts) :=
 (fun a w d => by
  obtain ⟨b, o, hv, hA, c, e, fz, hb, hr⟩ := d.ev hx
  obtain ⟨vs, hl, hr', hcv⟩ := rdc_cells hr
  have := run_loadAgg (P := P) (T := T) (w := w) (b := b) (o := o) (vs := vs) (by omega) (fun j v hj => by rw [cell_at hb]; exact hcv j v hj)
  exact ⟨_, by simp [execOp, hv, Instr.loadAt, Instr.sureAddr, this] <;> rfl, vs, rfl, hr'⟩)
theorem Ops.load_ref_agg {n : Nat} [h : TyAgg P T n] {ts : List Tr} (hx : ev env x = some (.ref ts)) (hn : ts.length = n) (hi : Nat.blt i Γ.n = true)
  (kont : Ops P Γ R rest ((i, .agg ts) :: env) cs Q) : Ops P Γ R (⟨some i, .load T x, ty, pos, af, none⟩ :: rest) env cs Q :=
 Ops.val' hi (OpV.load_ref_agg hx hn) kont
theorem OpV.load_box_one [h : TyOne P T] {b o : Nat} {e : TypeId} {ts : List Tr} {t : Tr} (hx : ev env x = some (.raw (.pointer (some ⟨b, o, none⟩)))) (hp : cs.Perm (Chunk.box b e ts :: cf)) (ht : ts[o]? = some t) : OpV P Γ (.load T x) ty env cs (t) :=
 (fun a w d => by
  have hv := rd_raw (d.ev hx)
  obtain ⟨c, hb, hr⟩ := d.has hp
  obtain ⟨v, h1, h2, _⟩ := hr.get ht
  have hcell : w.cell? ⟨b, o, none⟩ = some v := by rw [cell_at hb]; simpa using h1
  exact ⟨v, by simp [execOp, hv, Instr.loadAt, Instr.sureAddr, run_loadOne (T := T) hcell], h2⟩)
theorem Ops.load_box_one [h : TyOne P T] {b o : Nat} {e : TypeId} {ts : List Tr} {t : Tr} (hx : ev env x = some (.raw (.pointer (some ⟨b, o, none⟩)))) (hp : cs.Perm (Chunk.box b e ts :: cf)) (ht : ts[o]? = some t) (hi : Nat.blt i Γ.n = true)
  (kont : Ops P Γ R rest ((i, t) :: env) cs Q) : Ops P Γ R (⟨some i, .load T x, ty, pos, af, none⟩ :: rest) env cs Q :=
 Ops.val' hi (OpV.load_box_one hx hp ht) kont
theorem OpV.load_box_agg {n : Nat} [h : TyAgg P T n] {b : Nat} {e : TypeId} {ts : List Tr} (hx : ev env x = some (.raw (.pointer (some ⟨b, 0, none⟩)))) (hp : cs.Perm (Chunk.box b e ts :: cf)) (hn : ts.length = n) : OpV P Γ (.load T x) ty env cs (.agg ts) :=
 (fun a w d => by
  have hv := rd_raw (d.ev hx)
  obtain ⟨c, hb, hr⟩ := d.has hp
  have := run_loadAgg (P := P) (T := T) (w := w) (b := b) (o := 0) (vs := c.toList) (by rw [hr.length]; exact hn) (fun j v hj => by rw [cell_at hb]; simpa using hj)
  exact ⟨_, by simp [execOp, hv, Instr.loadAt, Instr.sureAddr, this] <;> rfl, c.toList, by simp, hr⟩)
theorem OpV.load_box_part {n : Nat} [h : TyAgg P T n] {b o : Nat} {e : TypeId} {ts us : List Tr} (hx : ev env x = some (.raw (.pointer (some ⟨b, o, none⟩)))) (hp : cs.Perm (Chunk.box b e ts :: cf)) (hu : (ts.drop o).take n = us) (hn : us.length = n) : OpV P Γ (.load T x) ty env cs (.agg us) :=
 (fun a w d => by
  have hv := rd_raw (d.ev hx)
  obtain ⟨c, hb, hr⟩ := d.has hp
  have hr2 := (hr.drop o).take n
  rw [hu] at hr2
  have := run_loadAgg (P := P) (T := T) (w := w) (b := b) (o := o) (vs := (c.toList.drop o).take n) (by rw [hr2.length]; exact hn) (fun j v hj => by
   rw [cell_at hb]
   rw [List.getElem?_take] at hj
   split at hj
   ·rw [List.getElem?_drop] at hj; simpa using hj
   ·cases hj)
  exact ⟨_, by simp [execOp, hv, Instr.loadAt, Instr.sureAddr, this] <;> rfl, _, by simp, hr2⟩)
theorem Ops.load_box_part {n : Nat} [h : TyAgg P T n] {b o : Nat} {e : TypeId} {ts us : List Tr} (hx : ev env x = some (.raw (.pointer (some ⟨b, o, none⟩)))) (hp : cs.Perm (Chunk.box b e ts :: cf)) (hu : (ts.drop o).take n = us) (hn : us.length = n) (hi : Nat.blt i Γ.n = true)
  (kont : Ops P Γ R rest ((i, .agg us) :: env) cs Q) : Ops P Γ R (⟨some i, .load T x, ty, pos, af, none⟩ :: rest) env cs Q :=
 Ops.val' hi (OpV.load_box_part hx hp hu hn) kont
theorem own_cell {w : World} {A : Nat → Prop} {ad : Option Addr} {cap kk : Nat} {e : TypeId} {rows : List (List Tr)} {g n : Nat} {r : List Tr} (hch : (Chunk.own ad cap kk e rows).holds w A) (ha : ad = some ⟨g, 0, none⟩) (hr : rows[n]? = some r) :
  ∃ cur, w.heap[g]? = some (.cells cur e (0, 0)) ∧ RdC w A r ((cur.toList.drop (n * kk)).take kk) ∧ r.length = kk ∧ n * kk + kk ≤ cur.size := by
 obtain ⟨g', cur, ha', hg, h1, h2, h3, hk, hrd⟩ := own_some hch (fun e => by subst e; simp at hr)
 rw [ha] at ha'
 simp at ha'
 subst ha'
 obtain ⟨hf1, hf2⟩ := flatten_row hk hr
 have hl : r.length = kk := hk r (List.mem_of_getElem? hr)
 have hlen := hrd.length
 rw [List.length_take] at hlen
 have hcl : cur.toList.length = cur.size := Array.length_toList
 refine ⟨cur, hg, ?_, hl, by omega⟩
 have := (hrd.drop (n * kk)).take kk
 rw [hf1, List.drop_take, List.take_take, Nat.min_eq_left (by omega)] at this
 exact this
theorem OpV.load_own_one [h : TyOne P T] {ad : Option Addr} {cap kk n j : Nat} {e : TypeId} {rows : List (List Tr)} {r : List Tr} {t : Tr} (hx : ev env x = some (.eptr ad kk n j)) (hp : cs.Perm (Chunk.own ad cap kk e rows :: cf)) (hr : rows[n]? = some r) (ht : r[j]? = some t) : OpV P Γ (.load T x) ty env cs (t) :=
 (fun a w d => by
  obtain ⟨g, ha, hv⟩ := d.ev hx
  obtain ⟨cur, hg, hrd, hl, hs⟩ := own_cell (d.has hp) ha hr
  obtain ⟨v, h1, h2, _⟩ := hrd.get ht
  have hcell : w.cell? ⟨g, n * kk + j, none⟩ = some v := by
   rw [cell_at hg]
   rw [List.getElem?_take] at h1
   split at h1
   ·rw [List.getElem?_drop] at h1; simpa using h1
   ·cases h1
  exact ⟨v, by simp [execOp, hv, Instr.loadAt, Instr.sureAddr, run_loadOne (T := T) hcell], h2⟩)
theorem Ops.load_own_one [h : TyOne P T] {ad : Option Addr} {cap kk n j : Nat} {e : TypeId} {rows : List (List Tr)} {r : List Tr} {t : Tr} (hx : ev env x = some (.eptr ad kk n j)) (hp : cs.Perm (Chunk.own ad cap kk e rows :: cf)) (hr : rows[n]? = some r) (ht : r[j]? = some t) (hi : Nat.blt i Γ.n = true)
  (kont : Ops P Γ R rest ((i, t) :: env) cs Q) : Ops P Γ R (⟨some i, .load T x, ty, pos, af, none⟩ :: rest) env cs Q :=
 Ops.val' hi (OpV.load_own_one hx hp hr ht) kont
theorem OpV.load_own_agg {m : Nat} [h : TyAgg P T m] {ad : Option Addr} {cap n : Nat} {e : TypeId} {rows : List (List Tr)} {r : List Tr} (hx : ev env x = some (.eptr ad m n 0)) (hp : cs.Perm (Chunk.own ad cap m e rows :: cf)) (hr : rows[n]? = some r) : OpV P Γ (.load T x) ty env cs (.agg r) :=
 (fun a w d => by
  obtain ⟨g, ha, hv⟩ := d.ev hx
  obtain ⟨cur, hg, hrd, hl, hs⟩ := own_cell (d.has hp) ha hr
  have := run_loadAgg (P := P) (T := T) (w := w) (b := g) (o := n * m) (vs := (cur.toList.drop (n * m)).take m) (by rw [hrd.length]; exact hl) (fun j v hj => by
   rw [cell_at hg]
   rw [List.getElem?_take] at hj
   split at hj
   ·rw [List.getElem?_drop] at hj; simpa using hj
   ·cases hj)
  simp only [Nat.add_zero] at hv
  exact ⟨_, by simp [execOp, hv, Instr.loadAt, Instr.sureAddr, this] <;> rfl, _, by simp, hrd⟩)
theorem Ops.load_own_agg {m : Nat} [h : TyAgg P T m] {ad : Option Addr} {cap n : Nat} {e : TypeId} {rows : List (List Tr)} {r : List Tr} (hx : ev env x = some (.eptr ad m n 0)) (hp : cs.Perm (Chunk.own ad cap m e rows :: cf)) (hr : rows[n]? = some r) (hi : Nat.blt i Γ.n = true)
  (kont : Ops P Γ R rest ((i, .agg r) :: env) cs Q) : Ops P Γ R (⟨some i, .load T x, ty, pos, af, none⟩ :: rest) env cs Q :=
 Ops.val' hi (OpV.load_own_agg hx hp hr) kont
end mem
section mem2
variable {P : Program} {Γ : Ctx} {env env' : Env} {cs cs' cf : List Chunk} {Q : Post} {R : Array Oper}
variable {i : Tmp} {ty : TypeId} {pos : String} {af : Array Edge} {rest : List Oper}
variable {x y z : Operand} {T T2 : TypeId} {k : IntKind} {p q : Int}
theorem Den.newblock {a : Act} {w : World} (d : Den Γ env cs a w) (c : Array Value) (e : TypeId) {ts : List Tr} (hr : RdC w (av Γ.M cs) ts c.toList) :
  Den Γ env (Chunk.box w.heap.size e ts :: cs) a (w.alloc (.cells c e)) := by
 refine d.push _ (by simp) (by simp [Chunk.box]) (by simp [Chunk.box]) (fun b hb => heap_alloc_old w _ b hb) rfl rfl rfl ?_
 intro hs
 exact ⟨c, heap_alloc_new w _, hr.mono hs⟩
theorem Ops.alloc {zs : List Value} [h : TyZero P T zs] (hi : Nat.blt i Γ.n = true)
  (kont : ∀ b, Ops P Γ R rest ((i, .raw (.pointer (some ⟨b, 0, none⟩))) :: env) (Chunk.box b T (zs.map Tr.raw) :: cs) Q) : Ops P Γ R (⟨some i, .alloc T, ty, pos, af, none⟩ :: rest) env cs Q :=
 Ops.of fun a w d => by
  obtain ⟨ti, zv, h1, h2, h3⟩ := h.h
  have hd := d.newblock zv.cells T (ts := zs.map Tr.raw) (by rw [h3]; exact rdc_raw h.one)
  exact ⟨_, _, _, w.alloc (.cells zv.cells T), by simp [execOp, Instr.alloc, zeroValue, typeInfo, h1, h2, newVar, newRow] <;> rfl, .inl ⟨_, rfl, hd.put hi rfl⟩, kont _⟩
theorem Ops.box {t : Tr} {us : List Tr} [h : RowT t us] (hx : ev env x = some t) (hi : Nat.blt i Γ.n = true)
  (kont : ∀ b, Ops P Γ R rest ((i, .raw (.pointer (some ⟨b, 0, none⟩))) :: env) (Chunk.box b T us :: cs) Q) : Ops P Γ R (⟨some i, .box T x, ty, pos, af, none⟩ :: rest) env cs Q :=
 Ops.of fun a w d => by
  have hd := d.newblock (a.eval x).cells T (ts := us) (h.h _ _ _ (d.ev hx))
  exact ⟨_, _, _, w.alloc (.cells (a.eval x).cells T), by simp [execOp, Instr.box, newVar, newRow] <;> rfl, .inl ⟨_, rfl, hd.put hi rfl⟩, kont _⟩
theorem run_storeAt {w : World} {g off : Nat} {e : TypeId} {cur : Array Value} {v : Value} {n : Nat} (hg : w.heap[g]? = some (.cells cur e (0, 0))) (hT : ∃ i, P.info? T = some i ∧ i.size = n) (hn : v.cells.size = n) (hfit : off + n ≤ cur.size) (h1 : ∀ u ∈ v.cells.toList, u.oneCell' = true) :
  (Instr.storeAt T (.pointer (some ⟨g, off, none⟩)) v).run P w = .ok () (w.setRow g (cur.toList.take off ++ v.cells.toList ++ cur.toList.drop (off + n)).toArray) := by
 obtain ⟨ti, h2, h3⟩ := hT
 have hl : v.cells.toList.length = n := by rw [Array.length_toList]; exact hn
 have := run_storeCells_at P g off e v.cells.toList 0 cur w hg (by rw [hl]; omega) h1
 simp only [Nat.add_zero, hl] at this
 simp [Instr.storeAt, Instr.sureAddr, storeVar, Go.sizeOf, typeInfo, h2, h3, hn, this]
theorem Den.store {a : Act} {w : World} {c c' : Chunk} {g : Nat} {cur news : List Value} {e : TypeId} (d : Den Γ env (c :: cs) a w) (hfp : c.fp = [g]) (hfp' : c'.fp = [g])
  (hg : w.heap[g]? = some (.cells cur.toArray e (0, 0)))
  (hc : SameOn w (w.setRow g news.toArray) (av Γ.M (c :: cs)) (av Γ.M (c' :: cs)) → (w.setRow g news.toArray).heap[g]? = some (.cells news.toArray e (0, 0)) → c.holds w (av Γ.M (c :: cs)) → c'.holds (w.setRow g news.toArray) (av Γ.M (c' :: cs))) :
  Den Γ env (c' :: cs) a (w.setRow g news.toArray) :=
 d.turn (by rw [hfp, hfp']) (fun b hb hn => setRow_other w g b _ (fun e => hn (by rw [hfp]; simp [e]))) (by simp) rfl rfl rfl (fun hs h => hc hs (setRow_heap w g _ _ e _ hg) h)
theorem Ops.store_box {n b o : Nat} {e : TypeId} {ts us : List Tr} {t : Tr} [hr : RowT t us] [hT : TySz P T n] (hx : ev env x = some (.raw (.pointer (some ⟨b, o, none⟩)))) (hy : ev env y = some t)
  (hp : cs.Perm (Chunk.box b e ts :: cf)) (hn : us.length = n) (ho' : Nat.ble (o + n) ts.length = true)
  (kont : Ops P Γ R rest env (Chunk.box b e (ts.take o ++ us ++ ts.drop (o + n)) :: cf) Q) : Ops P Γ R (⟨none, .store T x y, ty, pos, af, none⟩ :: rest) env cs Q :=
 Ops.of fun a w d => by
  have hv := rd_raw (d.ev hx)
  have hu := hr.h _ _ _ (d.ev hy)
  obtain ⟨cur, hb, hc⟩ := d.has hp
  have hl : (a.eval y).cells.size = n := by rw [← Array.length_toList, hu.length, hn]
  have hcl := hc.length
  have ho := Nat.le_of_ble_eq_true ho'
  have hrun := run_storeAt (P := P) (T := T) (w := w) (off := o) (v := a.eval y) hb hT.size hl (by simp at hcl; omega) hu.one
  refine ⟨env, _, .skip, _, by simp [execOp, hv, hrun] <;> rfl, .inr ⟨rfl, ?_⟩, kont⟩
  have ea := av_perm hp Γ.M
  refine (d.perm hp).store (cur := cur.toList) (e := e) rfl rfl (by simpa using hb) ?_
  intro hs hg _
  exact ⟨_, hg, by
   have h1 := ((hc.take o).app hu).app (hc.drop (o + n))
   rw [ea] at h1
   have h2 := h1.mono hs
   simpa only [List.append_assoc] using h2⟩
theorem splice_take {α : Type} (C vs : List α) (a j m kk F : Nat) (h1 : a + kk ≤ F) (h2 : F ≤ C.length) (h3 : j + m ≤ kk) (hv : vs.length = m) :
  (C.take (a + j) ++ vs ++ C.drop (a + j + m)).take F = (C.take F).take a ++ (((C.drop a).take kk).take j ++ vs ++ ((C.drop a).take kk).drop (j + m)) ++ (C.take F).drop (a + kk) := by
 apply List.ext_getElem?
 intro q
 simp only [List.getElem?_take, List.getElem?_append, List.getElem?_drop, List.length_append, List.length_take, List.length_drop, hv]
 repeat' split
 all_goals first
  |rfl
  |(exfalso; omega)
  |(congr 1; omega)
  |(symm; rw [List.getElem?_eq_none_iff]; omega)
  |(rw [List.getElem?_eq_none_iff]; omega)
theorem flatten_set {rows : List (List Tr)} {k : Nat} (hk : ∀ r ∈ rows, r.length = k) : ∀ {e : Nat} {r : List Tr}, e < rows.length → r.length = k →
  (rows.set e r).flatten = rows.flatten.take (e * k) ++ r ++ rows.flatten.drop (e * k + k) := by
 induction rows with
 |nil => intro e r h; simp at h
 |cons s rows ih =>
  intro e r h hr
  have hs : s.length = k := hk s (by simp)
  cases e with
  |zero =>
   simp [← hs]
  |succ e =>
   have ih' := ih (fun r hr => hk r (by simp [hr])) (e := e) (r := r) (by simpa using h) hr
   have e1 : (e + 1) * k = s.length + e * k := by rw [Nat.add_mul, hs]; omega
   rw [List.set_cons_succ, List.flatten_cons, ih', List.flatten_cons, e1, Nat.add_assoc, List.take_append, List.drop_append]
   simp [List.take_of_length_le, List.drop_of_length_le]
theorem own_store {a : Act} {w : World} {ad : Option Addr} {cap kk n j m : Nat} {e : TypeId} {rows : List (List Tr)} {r r' : List Tr} {vs : List Value} {g : Nat} (d : Den Γ env (Chunk.own ad cap kk e rows :: cf) a w) (ha : ad = some ⟨g, 0, none⟩)
  (hr : rows[n]? = some r) (hvs : vs.length = m) (hfit : j + m ≤ kk) (hrow : ∀ A, (∀ w', SameOn w w' (av Γ.M (Chunk.own ad cap kk e rows :: cf)) A → ∀ xs, RdC w (av Γ.M (Chunk.own ad cap kk e rows :: cf)) r xs → RdC w' A r' (xs.take j ++ vs ++ xs.drop (j + m)))) (hrl : r'.length = kk)
  (T : TypeId) (v : Value) (hT : ∃ i, P.info? T = some i ∧ i.size = m) (hv : v.cells.toList = vs) (h1 : ∀ u ∈ vs, u.oneCell' = true) :
  ∃ w', (Instr.storeAt T (.pointer (some ⟨g, n * kk + j, none⟩)) v).run P w = .ok () w' ∧ Den Γ env (Chunk.own ad cap kk e (rows.set n r') :: cf) a w' := by
 have hch := d.has (List.Perm.refl _)
 obtain ⟨cur, hg, hrd, hl, hs⟩ := own_cell hch ha hr
 have hrun := run_storeAt (P := P) (T := T) (w := w) (off := n * kk + j) (v := v) hg hT (by rw [← Array.length_toList, hv, hvs]) (by omega) (by rw [hv]; exact h1)
 refine ⟨_, hrun, ?_⟩
 have hn : n < rows.length := (List.getElem?_eq_some_iff.1 hr).1
 have hne : rows ≠ [] := fun e => by subst e; simp at hn
 refine d.store (cur := cur.toList) (e := e) (by subst ha; simp [Chunk.own, Value.ownBlock]) (by subst ha; simp [Chunk.own, Value.ownBlock]) (by simpa using hg) ?_
 intro hsame hg' hold
 obtain ⟨g2, cur2, ha2, hg2, c1, c2, c3, hk, hall⟩ := own_some hold hne
 rw [ha] at ha2
 simp at ha2
 subst ha2
 rw [hg] at hg2
 simp at hg2
 subst hg2
 have hcl : cur.toList.length = cur.size := Array.length_toList
 have hfl : rows.flatten.length = rows.length * kk := by
  have : ∀ l : List (List Tr), (∀ r ∈ l, r.length = kk) → l.flatten.length = l.length * kk := by
   intro l
   induction l with
   |nil => intro _; simp
   |cons s l ih => intro h; rw [List.flatten_cons, List.length_append, ih (fun r hr => h r (by simp [hr])), h s (by simp), List.length_cons, Nat.add_mul]; omega
  exact this rows hk
 have hle : rows.flatten.length ≤ cur.size := by
  have := hall.length
  rw [List.length_take] at this
  omega
 have hnk : n * kk + kk ≤ rows.flatten.length := (flatten_row hk hr).2
 rw [hv] at hg' ⊢
 have hset : (rows.set n r').flatten = rows.flatten.take (n * kk) ++ r' ++ rows.flatten.drop (n * kk + kk) := flatten_set hk hn hrl
 have hrd' : RdC (w.setRow g (cur.toList.take (n * kk + j) ++ vs ++ cur.toList.drop (n * kk + j + m)).toArray) (av Γ.M (Chunk.own ad cap kk e (rows.set n r') :: cf)) (rows.set n r').flatten
   ((cur.toList.take (n * kk + j) ++ vs ++ cur.toList.drop (n * kk + j + m)).take rows.flatten.length) := by
  have A1 := (hall.take (n * kk)).mono hsame
  have A3 := (hall.drop (n * kk + kk)).mono hsame
  have A2 := hrow _ _ hsame _ hrd
  have := (A1.app A2).app A3
  rw [hset, splice_take cur.toList vs (n * kk) j m kk rows.flatten.length hnk (by omega) hfit hvs]
  rw [hv] at this
  exact this
 refine ⟨?_, _, ?_, hrd'⟩
 ·intro s hs
  rcases List.mem_or_eq_of_mem_set hs with h | h
  ·exact hk s h
  ·rw [h]; exact hrl
 ·subst ha
  refine ⟨?_, .inr ⟨g, cap, _, by simp, Nat.zero_le _, hg', by simpa using c1, c2, ?_, ?_⟩⟩
  ·simp only [List.length_take, List.length_append, List.length_drop, List.length_set, hvs, hcl]
   omega
  ·simp only [List.size_toArray, List.length_append, List.length_take, List.length_drop, hvs, hcl, c3]
   omega
  ·simp [hfl]
end mem2
section mem3
variable {P : Program} {Γ : Ctx} {env env' : Env} {cs cs' cf : List Chunk} {Q : Post} {R : Array Oper}
variable {i : Tmp} {ty : TypeId} {pos : String} {af : Array Edge} {rest : List Oper}
variable {x y z : Operand} {T T2 : TypeId} {k : IntKind} {p q : Int}
theorem Ops.store_own {ad : Option Addr} {cap kk n j m : Nat} {e : TypeId} {rows : List (List Tr)} {r us : List Tr} {t : Tr} [hrt : RowT t us] (hT : ∃ i, P.info? T = some i ∧ i.size = m)
  (hx : ev env x = some (.eptr ad kk n j)) (hy : ev env y = some t) (hp : cs.Perm (Chunk.own ad cap kk e rows :: cf)) (hr : rows[n]? = some r) (hu : us.length = m) (hfit : j + m ≤ kk)
  (kont : Ops P Γ R rest env (Chunk.own ad cap kk e (rows.set n (r.take j ++ us ++ r.drop (j + m))) :: cf) Q) : Ops P Γ R (⟨none, .store T x y, ty, pos, af, none⟩ :: rest) env cs Q :=
 Ops.of fun a w d => by
  obtain ⟨g, ha, hv⟩ := d.ev hx
  have hrow := hrt.h _ _ _ (d.ev hy)
  rw [av_perm hp Γ.M] at hrow
  have d' := d.perm hp
  obtain ⟨cur, hg, hrd, hl, hs⟩ := own_cell (d'.has (List.Perm.refl _)) ha hr
  obtain ⟨w', hrun, hd⟩ := own_store (P := P) d' ha hr (r' := r.take j ++ us ++ r.drop (j + m)) (vs := (a.eval y).cells.toList) (m := m) (j := j) (by rw [hrow.length, hu]) hfit
   (fun A w' hs xs hx => (((hx.take j).mono hs).app (hrow.mono hs)).app ((hx.drop (j + m)).mono hs)) (by simp [hu, hl]; omega) T (a.eval y) hT rfl hrow.one
  exact ⟨env, _, .skip, w', by simp [execOp, hv, hrun], .inr ⟨rfl, hd⟩, kont⟩
theorem Ops.store_own1 [h1 : TyOne P T] {ad : Option Addr} {cap kk n j : Nat} {e : TypeId} {rows : List (List Tr)} {r : List Tr} {t : Tr} [hrt : OneT t]
  (hx : ev env x = some (.eptr ad kk n j)) (hy : ev env y = some t) (hp : cs.Perm (Chunk.own ad cap kk e rows :: cf)) (hr : rows[n]? = some r) (hj : j < kk)
  (kont : Ops P Γ R rest env (Chunk.own ad cap kk e (rows.set n (r.set j t)) :: cf) Q) : Ops P Γ R (⟨none, .store T x y, ty, pos, af, none⟩ :: rest) env cs Q := by
 refine fun a w d => Ops.store_own (us := [t]) (m := 1) h1.size hx hy hp hr rfl (by omega) ?_ a w d
 have hl : r.length = kk := by
  obtain ⟨hk, _⟩ := d.has hp
  exact hk r (List.mem_of_getElem? hr)
 have : r.take j ++ [t] ++ r.drop (j + 1) = r.set j t := by rw [List.set_eq_take_append_cons_drop, if_pos (by omega)]; simp
 rw [this]
 exact kont
theorem Ops.store_own_all {ad : Option Addr} {cap m n : Nat} {e : TypeId} {rows : List (List Tr)} {us : List Tr} {t : Tr} [hrt : RowT t us] [hT : TyAgg P T m]
  (hx : ev env x = some (.eptr ad m n 0)) (hy : ev env y = some t) (hp : cs.Perm (Chunk.own ad cap m e rows :: cf)) (hr : n < rows.length) (hu : us.length = m)
  (kont : Ops P Γ R rest env (Chunk.own ad cap m e (rows.set n us) :: cf) Q) : Ops P Γ R (⟨none, .store T x y, ty, pos, af, none⟩ :: rest) env cs Q := by
 refine fun a w d => Ops.store_own (us := us) (m := m) hT.size hx hy hp (List.getElem?_eq_getElem hr) hu (by omega) ?_ a w d
 have hl : (rows[n]).length = m := by
  obtain ⟨hk, _⟩ := d.has hp
  exact hk _ (List.getElem_mem hr)
 have : (rows[n]).take 0 ++ us ++ (rows[n]).drop (0 + m) = us := by simp [List.drop_of_length_le, hl]
 rw [this]
 exact kont
theorem Ent.nil (k : Nat) (e : TypeId) : Ent Γ env cs env (Chunk.own none 0 k e [] :: cs) := by
 intro a w d
 have hf : fps (Chunk.own none 0 k e [] :: cs) = fps cs := by simp [fps, Chunk.own, Value.ownBlock]
 have ha : av Γ.M (Chunk.own none 0 k e [] :: cs) = av Γ.M cs := by funext b; simp [av, hf]
 refine ⟨d.nodefer, d.tmps, by rw [ha]; exact d.env, ?_, by rw [hf]; exact d.nodup, by rw [hf]; exact d.fresh, d.below, d.frame⟩
 intro c hc
 rw [ha]
 rcases List.mem_cons.1 hc with rfl | hc
 ·exact ⟨by simp, [], ⟨by simp, .inl ⟨rfl, rfl⟩⟩, rfl⟩
 ·exact d.chunks c hc
theorem rdc_at {w : World} {A : Nat → Prop} {b off : Nat} {ts : List Tr} (h : Cells w A b off ts) : ∃ vs : List Value, RdC w A ts vs ∧ ∀ j u, vs[j]? = some u → w.cell? ((⟨b, off, none⟩ : Addr).add j) = some u := by
 obtain ⟨hA, c, e, fz, hb, hr⟩ := h
 obtain ⟨vs, hl, h1, h2⟩ := rdc_cells hr
 exact ⟨vs, h1, fun j u hj => by rw [add_plain, cell_at hb]; exact h2 j u hj⟩
theorem ownsRow_base {w : World} {b : Nat} {e : TypeId} {size : Nat} {v : Value} {n : Nat} {xs : List Value} (h : w.ownsRow b e size v n xs) : w.ownsRow 0 e size v n xs := by
 refine ⟨h.1, ?_⟩
 rcases h.2 with h2 | ⟨g, cap, cur, hv, _, r⟩
 ·exact .inl h2
 ·exact .inr ⟨g, cap, cur, hv, Nat.zero_le _, r⟩
theorem append_run {t ty e : TypeId} {i : TypeInfo} {z : Value} {size bytes : Nat} {w : World} (ht : P.underlying t = some (.slice e)) (hi : P.info? e = some i) (hz : i.zero = some z)
  (hsize : i.size = size) (hby : i.bytes = bytes) (hzs : z.cells.size = size) (hsz : 0 < size)
  {v : Value} {n : Nat} {xs : List Value} (hown : w.ownsRow 0 e size v n xs)
  {a : Addr} {m c : Nat} {news : List Value} (hl : news.length = m * size) (hnews : ∀ j u, news[j]? = some u → w.cell? (a.add j) = some u) (h1 : ∀ u ∈ news, u.oneCell' = true)
  (h63 : n + m ≤ maxLen) (hbytes : (n + m) * bytes ≤ 140737488355328) :
  ∃ v' w', (Builtin.append_ #[t, t] ty #[v, .slice (some a) m c]).run P w = .ok v' w' ∧ w'.ownsRow 0 e size v' (n + m) (xs ++ news) ∧ w.grownBy w' v.ownBlock ∧ (∀ b, v'.ownBlock = some b → v.ownBlock = some b ∨ w.heap.size ≤ b) := by
 rcases hown.2 with ⟨rfl, rfl⟩ | ⟨g, cap, cur, rfl, hbg, hg, hnc, hcm, hcs, htake⟩
 ·obtain ⟨v', w', hr, h2, h3, _⟩ := run_append_own (P := P) w w.heap.size t ty e i z size bytes ht hi hz hsize hby hzs hsz (.slice none 0 0) 0 xs ⟨hown.1, .inl ⟨rfl, rfl⟩⟩ a m c news hl hnews h1 h63 hbytes (Nat.le_refl _)
  exact ⟨v', w', hr, ownsRow_base h2, h3, fun b hb => .inr (h2.lt b hb).1⟩
 ·obtain ⟨v', w', hr, h2, h3, _⟩ := run_append_own (P := P) w 0 t ty e i z size bytes ht hi hz hsize hby hzs hsz _ n xs hown a m c news hl hnews h1 h63 hbytes (Nat.zero_le _)
  refine ⟨v', w', hr, h2, h3, ?_⟩
  subst hsize
  by_cases hroom : n + m ≤ cap
  ·have hr2 := run_append_room (P := P) w t ty e i ht hi g n cap cur hg a m c news hl hnews h1 hroom (by rw [hl, hcs, ← Nat.add_mul]; exact Nat.mul_le_mul_right _ hroom)
   rw [hr] at hr2
   simp only [Result.ok.injEq] at hr2
   obtain ⟨rfl, _⟩ := hr2
   intro b hb
   exact .inl (by simpa [Value.ownBlock] using hb)
  ·have hr2 := run_append_grow (P := P) w t ty e i z ht hi hz ⟨g, 0, none⟩ n cap xs hown.1 (hown.cells (g := g) rfl) a m c news hl hnews (by omega) (by simp only [maxLen] at h63; omega) (growslice_fits (by omega) (by rw [hby]; exact hbytes))
   rw [hr] at hr2
   simp only [Result.ok.injEq] at hr2
   obtain ⟨rfl, _⟩ := hr2
   intro b hb
   refine .inr ?_
   simp [Value.ownBlock] at hb
   omega
theorem flat_len {rows : List (List Tr)} {kk : Nat} (h : ∀ r ∈ rows, r.length = kk) : rows.flatten.length = rows.length * kk := by
 induction rows with
 |nil => simp
 |cons s l ih => rw [List.flatten_cons, List.length_append, ih (fun r hr => h r (by simp [hr])), h s (by simp), List.length_cons, Nat.add_mul]; omega
theorem Ops.append {E kk bb z} [hS : TySl P T E kk bb z] {ad : Option Addr} {n cap : Nat} {rows rows2 : List (List Tr)} (hx : ev env x = some (.raw (.slice ad n cap))) (hy : ev env y = some (.sl kk rows2))
  (hp : cs.Perm (Chunk.own ad cap kk E rows :: cf)) (hn : n = rows.length) (hb : (rows.length + rows2.length) * bb ≤ 140737488355328) (hm : rows.length + rows2.length ≤ 9223372036854775807) (hi : Nat.blt i Γ.n = true)
  (kont : ∀ ad' cap', Ops P Γ R rest ((i, .raw (.slice ad' (rows ++ rows2).length cap')) :: env) (Chunk.own ad' cap' kk E (rows ++ rows2) :: cf) Q) :
  Ops P Γ R (⟨some i, .call ⟨.builtin .append, #[x, y], #[T, T]⟩, ty, pos, af, none⟩ :: rest) env cs Q :=
 Ops.of fun a w d => by
  subst hn
  have hv := rd_raw (d.ev hx)
  have d' := d.perm hp
  obtain ⟨hk2, hl2, ad2, cap2, hv2, g1, g2, g3, g4⟩ := d.ev hy
  rw [av_perm hp Γ.M] at g4
  obtain ⟨hk, xs, hown, hrd⟩ := d'.has (List.Perm.refl _)
  obtain ⟨ti, zv, hi1, hi2, hi3, hi4, hi5, hi6⟩ := hS.hE
  have hzs : zv.cells.size = kk := hS.hz _ _ hi1 hi2
  have hm' : rows.length + rows2.length ≤ maxLen := by simp only [maxLen]; omega
  -- what the append's own law gives
  have key : ∃ v' w', (Builtin.append_ #[T, T] ty #[.slice ad rows.length cap, .slice ad2 rows2.length cap2]).run P w = .ok v' w' ∧ ∃ news, RdC w (av Γ.M (Chunk.own ad cap kk E rows :: cf)) rows2.flatten news ∧
    w'.ownsRow 0 E kk v' (rows.length + rows2.length) (xs ++ news) ∧ w.grownBy w' (Value.ownBlock (.slice ad rows.length cap)) ∧ (∀ b, v'.ownBlock = some b → (Value.ownBlock (.slice ad rows.length cap)) = some b ∨ w.heap.size ≤ b) := by
   rcases g4 with g4 | ⟨b, off, rfl, hc⟩
   ·subst g4
    cases ad2 with
    |none =>
     obtain ⟨_, rfl⟩ := g3 rfl
     exact ⟨_, w, run_append_owned_none (P := P) w 0 T ty E ti kk hS.hT hi1 _ _ xs hown, [], rfl, by simpa using hown, ⟨rfl, rfl, rfl, Nat.le_refl _, fun _ _ _ => rfl⟩, fun b hb => .inl hb⟩
    |some a2 =>
     obtain ⟨v', w', h1, h2, h3, h4⟩ := append_run (P := P) (ty := ty) (a := a2) (m := 0) (c := cap2) (news := []) hS.hT hi1 hi2 hi4 hi5 hzs hi6 hown (by simp) (by simp) (by simp) (by simpa using hm') (by simpa using hb)
     exact ⟨v', w', h1, [], rfl, h2, h3, h4⟩
   ·obtain ⟨vs, hvs, hcell⟩ := rdc_at hc
    obtain ⟨v', w', h1, h2, h3, h4⟩ := append_run (P := P) (ty := ty) (a := ⟨b, off, none⟩) (m := rows2.length) (c := cap2) (news := vs) hS.hT hi1 hi2 hi4 hi5 hzs hi6 hown (by rw [hvs.length]; exact flat_len hk2) hcell hvs.one hm' hb
    exact ⟨v', w', h1, vs, hvs, h2, h3, h4⟩
  obtain ⟨v', w', hrun, news, hnews, hown', hgr, hfresh⟩ := key
  have hform : ∃ ad' cap', v' = .slice ad' (rows ++ rows2).length cap' := by
   rcases hown'.2 with ⟨e, h0⟩ | ⟨g, c, cur, e, _⟩
   ·exact ⟨none, 0, by rw [e, List.length_append, h0]⟩
   ·exact ⟨_, c, by rw [e, List.length_append]⟩
  obtain ⟨ad', cap', rfl⟩ := hform
  refine ⟨_, _, .value _, w', by simp [execOp, resolve, invoke, builtin, hv, hv2, hrun] <;> rfl, .inl ⟨_, rfl, Den.put ?_ hi rfl⟩, kont ad' cap'⟩
  refine d'.turnF (c' := Chunk.own ad' cap' kk E (rows ++ rows2)) ?_ ?_ ?_ ?_
  ·intro b hb
   have hb' : Value.ownBlock (.slice ad' (rows ++ rows2).length cap') = some b := by simpa [Chunk.own] using hb
   rcases hfresh b hb' with h | h
   ·exact .inl (by simpa [Chunk.own] using h)
   ·exact .inr ⟨h, (hown'.lt b hb').2⟩
  ·simp only [Chunk.own]
   cases Value.ownBlock (.slice ad' (rows ++ rows2).length cap') <;> simp
  ·exact ⟨hgr.os, hgr.tape, hgr.output, hgr.size, fun b hb hn => hgr.block b hb fun e => hn (by simp [Chunk.own, ← e]), fun _ => run_drawn hrun⟩
  ·intro hs _
   refine ⟨?_, _, by simpa using hown', ?_⟩
   ·intro r hr
    rcases List.mem_append.1 hr with h | h
    ·exact hk r h
    ·exact hk2 r h
   ·rw [List.flatten_append]
    exact (hrd.mono hs).app (hnews.mono hs)
end mem3
section build
variable {P : Program} {Γ : Ctx} {env env' : Env} {cs cs' cf : List Chunk} {Q : Post} {R : Array Oper}
variable {i : Tmp} {ty : TypeId} {pos : String} {af : Array Edge} {rest : List Oper}
variable {x y z : Operand} {T T2 : TypeId} {k : IntKind} {p q : Int}
def splice (ts : List Tr) (off : Nat) (row : List Tr) : List Tr := ts.take off ++ row ++ ts.drop (off + row.length)
def Parts (place : Nat → Option (Nat × Nat)) (env : Env) : List (Nat × Operand) → List Tr → List Tr → Prop
 |[], ts, ts' => ts' = ts
 |(n, x) :: l, ts, ts' => ∃ t row off, ev env x = some t ∧ Nonempty (RowT t row) ∧ place n = some (off, row.length) ∧ off + row.length ≤ ts.length ∧ Parts place env l (splice ts off row) ts'
theorem Parts.nil {place : Nat → Option (Nat × Nat)} {ts : List Tr} : Parts place env [] ts ts := rfl
theorem Parts.cons {place : Nat → Option (Nat × Nat)} {n : Nat} {x : Operand} {l : List (Nat × Operand)} {ts ts' : List Tr} {t : Tr} {row : List Tr} {off : Nat} (h : ev env x = some t) [r : RowT t row] (hp : place n = some (off, row.length)) (hl : Nat.ble (off + row.length) ts.length = true) (k : Parts place env l (splice ts off row) ts') :
  Parts place env ((n, x) :: l) ts ts' := ⟨t, row, off, h, ⟨r⟩, hp, Nat.le_of_ble_eq_true hl, k⟩
theorem fold_set (vs : List Value) (off : Nat) : ∀ (j : Nat) (cs : Array Value), off + j + vs.length ≤ cs.size →
  ((vs.zipIdx j).foldl (fun (cs : Array Value) (c : Value × Nat) => cs.setIfInBounds (off + c.2) c.1) cs).toList = cs.toList.take (off + j) ++ vs ++ cs.toList.drop (off + j + vs.length) := by
 induction vs with
 |nil => intro j cs h; simp
 |cons v vs ih =>
  intro j cs h
  simp only [List.zipIdx_cons, List.foldl_cons]
  simp only [List.length_cons] at h
  rw [ih (j + 1) _ (by simp; omega)]
  apply List.ext_getElem?
  intro q
  simp only [Array.toList_setIfInBounds, List.getElem?_append, List.getElem?_take, List.getElem?_drop, List.length_take, List.length_append, List.length_set, Array.length_toList, List.length_cons, List.getElem?_set]
  by_cases h1 : q < off + j
  ·simp [h1, show q < off + (j + 1) by omega, show min (off + (j + 1)) cs.size = off + (j + 1) by omega, show min (off + j) cs.size = off + j by omega, show off + j ≠ q by omega, show q < off + (j + 1) + vs.length by omega, show q < off + j + (vs.length + 1) by omega]
  ·by_cases h2 : q = off + j
   ·subst h2
    simp [show off + j < off + (j + 1) by omega, show min (off + (j + 1)) cs.size = off + (j + 1) by omega, show min (off + j) cs.size = off + j by omega, show off + j < off + (j + 1) + vs.length by omega, show off + j < cs.size by omega]
   ·simp only [show min (off + (j + 1)) cs.size = off + (j + 1) by omega, show min (off + j) cs.size = off + j by omega]
    by_cases h3 : q < off + (j + 1) + vs.length
    ·simp [h1, h3, show ¬ q < off + (j + 1) by omega, show q < off + j + (vs.length + 1) by omega]
     rw [show q - (off + j) = (q - (off + (j + 1))) + 1 by omega, List.getElem?_cons_succ]
    ·simp [h3, show ¬ q < off + j + (vs.length + 1) by omega]
     rw [if_neg (by omega)]
     congr 1
     omega
theorem fill_rd {place : Nat → Option (Nat × Nat)} {a : Act} {w : World} (d : Den Γ env cs a w) : ∀ {l : List (Nat × Operand)} {ts ts' : List Tr} {c : Array Value}, Parts place env l ts ts' → RdC w (av Γ.M cs) ts c.toList →
  ∃ c', Instr.fill place c (l.map fun (i, x) => (i, a.eval x)) = some c' ∧ RdC w (av Γ.M cs) ts' c'.toList
 |[], ts, ts', c, h, hc => ⟨c, rfl, by cases h; exact hc⟩
 |(n, x) :: l, ts, ts', c, ⟨t, row, off, he, ⟨hr⟩, hp, hl, hk⟩, hc => by
  have hv := hr.h _ _ _ (d.ev he)
  have hlen := hv.length
  have hcl := hc.length
  rw [Array.length_toList] at hlen hcl
  have hfs := fold_set (a.eval x).cells.toList off 0 c (by rw [Array.length_toList]; omega)
  simp only [Nat.add_zero, Array.length_toList] at hfs
  have hc' : RdC w (av Γ.M cs) (splice ts off row) ((a.eval x).cells.zipIdx.foldl (fun (cs : Array Value) (c : Value × Nat) => cs.setIfInBounds (off + c.2) c.1) c).toList := by
   rw [← Array.foldl_toList]
   have : (a.eval x).cells.zipIdx.toList = (a.eval x).cells.toList.zipIdx := by simp
   rw [this, hfs]
   unfold splice
   rw [hlen]
   exact ((hc.take off).app hv).app (hc.drop (off + row.length))
  obtain ⟨c', h1, h2⟩ := fill_rd d hk hc'
  refine ⟨c', ?_, h2⟩
  simp only [List.map_cons, Instr.fill, hp]
  rw [if_neg (by simp [hlen]; omega)]
  exact h1
theorem OpV.build {pl : List (Nat × Nat)} {zs : List Value} [h : TyStr P T pl zs] {parts : List (Nat × Operand)} {ts : List Tr} (hp : Parts (fun n : Nat => pl[n]?) env parts (zs.map Tr.raw) ts) : OpV P Γ (.build T parts.toArray) ty env cs (.agg ts) :=
 (fun a w d => by
  obtain ⟨ti, zv, h1, h2, h3, fs, h4, h5⟩ := h.h
  obtain ⟨c', hf, hr⟩ := fill_rd d (c := zv.cells) hp (by rw [h3]; exact rdc_raw h.one)
  have hb : P.built T (parts.map fun (i, x) => (i, a.eval x)) = some c' := by
   unfold Program.built
   simp only [h1, h4, h2, h5]
   have e : (fun n : Nat => (pl.toArray)[n]?) = (fun n : Nat => pl[n]?) := by funext n; simp
   rw [e]
   exact hf
  have hrun := run_build (P := P) w T ((parts.map fun (i, x) => (i, a.eval x)).toArray) c' (by simpa using hb)
  refine ⟨.agg c', ?_, c'.toList, by simp, hr⟩
  simp [execOp, hrun])
def rowsOf (k : Nat) (n : Nat) (ts : List Tr) : List (List Tr) := (List.range n).map fun i => (ts.drop (i * k)).take k
theorem rowsOf_flat {k n : Nat} : ∀ {ts : List Tr}, ts.length = n * k → (rowsOf k n ts).flatten = ts ∧ (∀ r ∈ rowsOf k n ts, r.length = k) ∧ (rowsOf k n ts).length = n := by
 induction n with
 |zero => intro ts h; simp at h; simp [rowsOf, h]
 |succ n ih =>
  intro ts h
  have h' : (ts.drop k).length = n * k := by rw [List.length_drop, h, Nat.add_mul]; omega
  obtain ⟨i1, i2, i3⟩ := ih h'
  have hk : k ≤ ts.length := by rw [h, Nat.add_mul]; omega
  have e : rowsOf k (n + 1) ts = ts.take k :: rowsOf k n (ts.drop k) := by
   simp only [rowsOf, List.range_succ_eq_map, List.map_cons, List.map_map, Nat.zero_mul, List.drop_zero]
   congr 1
   apply List.map_congr_left
   intro j _
   simp only [Function.comp, List.drop_drop]
   congr 2
   rw [Nat.succ_mul]
   omega
  rw [e]
  refine ⟨by rw [List.flatten_cons, i1, List.take_append_drop], ?_, by simp [i3]⟩
  intro r hr
  rcases List.mem_cons.1 hr with rfl | hr
  ·simp; omega
  ·exact i2 r hr
def zeroRow (zs : List Value) : Nat → List Tr
 |0 => []
 |n + 1 => zs.map Tr.raw ++ zeroRow zs n
theorem zeroRow_flat (zs : List Value) (n : Nat) : (List.replicate n (zs.map Tr.raw)).flatten = zeroRow zs n := by
 induction n with
 |zero => rfl
 |succ n ih => rw [List.replicate_succ, List.flatten_cons, ih]; rfl
theorem zeroRow_len (zs : List Value) (n : Nat) : (zeroRow zs n).length = n * zs.length := by
 induction n with
 |zero => simp [zeroRow]
 |succ n ih => simp [zeroRow, ih, Nat.add_mul]; omega
theorem madeCells_rd {w : World} {A : Nat → Prop} {zs : Array Value} (h1 : ∀ v ∈ zs.toList, v.oneCell' = true) (n : Nat) : RdC w A (zeroRow zs.toList n) (madeCells zs (n * zs.size)).toList := by
 have : (madeCells zs (n * zs.size)).toList = (List.replicate n zs.toList).flatten := by
  induction n with
  |zero => simp [madeCells]
  |succ n ih =>
   rw [List.replicate_succ, List.flatten_cons, ← ih]
   apply List.ext_getElem?
   intro q
   simp only [madeCells, Array.toList_map, Array.toList_range, List.getElem?_map, List.getElem?_append, Array.length_toList]
   by_cases hq : q < zs.size
   ·have : q < (n + 1) * zs.size := by rw [Nat.add_mul]; omega
    rw [if_pos hq, List.getElem?_range this]
    simp [Nat.mod_eq_of_lt hq, hq]
   ·rw [if_neg hq]
    by_cases hq2 : q < (n + 1) * zs.size
    ·have : q - zs.size < n * zs.size := by rw [Nat.add_mul] at hq2; omega
     rw [List.getElem?_range hq2, List.getElem?_range this]
     have e : q % zs.size = (q - zs.size) % zs.size := by rw [Nat.mod_eq_sub_mod (by omega)]
     simp [e]
    ·have : ¬ q - zs.size < n * zs.size := by rw [Nat.add_mul] at hq2; omega
     rw [List.getElem?_eq_none (by simpa using hq2), List.getElem?_eq_none (by simpa using this)]
 rw [this]
 clear this
 induction n with
 |zero => rfl
 |succ n ih => rw [List.replicate_succ, List.flatten_cons]; exact (rdc_raw h1).app ih
theorem run_buildSlice {E kk bb : Nat} {zs : List Value} [hS : TySl P T E kk bb zs] {n : Nat} (hn : n * kk ≤ 16777216) {parts : List (Nat × Operand)} {ts : List Tr} {a : Act} {w : World} (d : Den Γ env cs a w)
  (hp : Parts (fun i => some (i * kk, kk)) env parts (zeroRow zs n) ts) :
  ∃ c : Array Value, (Instr.buildSlice T n ((parts.map fun (i, x) => (i, a.eval x)).toArray)).run P w = .ok (.slice (some ⟨w.heap.size, 0, none⟩) n n) (w.alloc (.cells c E)) ∧ RdC w (av Γ.M cs) ts c.toList ∧ c.size = n * kk := by
 obtain ⟨ti, zv, h1, h2, h3, h4, h5, h6⟩ := hS.hE
 have hzs : zv.cells.size = kk := hS.hz _ _ h1 h2
 have hone : ∀ v ∈ zv.cells.toList, v.oneCell' = true := by rw [h3]; exact hS.one
 have hz0 := madeCells_rd (w := w) (A := av Γ.M cs) (zs := zv.cells) hone n
 rw [h3] at hz0
 obtain ⟨c, hf, hr⟩ := fill_rd d (c := madeCells zv.cells (n * zv.cells.size)) hp hz0
 have hsz : c.size = n * kk := by
  have hlen : ∀ {l : List (Nat × Operand)} {ts ts' : List Tr}, Parts (fun i => some (i * kk, kk)) env l ts ts' → ts'.length = ts.length := by
   intro l
   induction l with
   |nil => intro ts ts' h; cases h; rfl
   |cons q l ih =>
    intro ts ts' ⟨t, row, off, _, _, _, hl, hk⟩
    rw [ih hk]
    simp [splice]
    omega
  have := hr.length
  rw [Array.length_toList] at this
  rw [this, hlen hp, zeroRow_len, hS.hk]
 refine ⟨c, ?_, hr, hsz⟩
 by_cases h0 : n * kk = 0
 ·have hn0 : n = 0 := by
   rcases Nat.mul_eq_zero.1 h0 with h | h
   ·exact h
   ·omega
  subst hn0
  simp only [Nat.zero_mul] at hf
  have e : madeCells zv.cells 0 = #[] := by simp [madeCells]
  rw [e] at hf
  simp [Instr.buildSlice, run_underlying hS.hT, Go.sizeOf, typeInfo, h1, h4, hf, newRow, Array.range_zero']
 ·have h0' : ¬ (n * ti.size = 0) := by rw [h4]; exact h0
  have hbig : ¬ (16777216 < n * kk) := by omega
  rw [hzs] at hf
  unfold madeCells at hf
  have hf' : Instr.fill (fun i => some (i * kk, kk)) (Array.map (fun x => zv.cells[x % kk]!) (Array.range (n * kk))) (parts.map fun (i, x) => (i, a.eval x)) = some c := by rw [hzs] at hf; exact hf
  simp [Instr.buildSlice, run_underlying hS.hT, Go.sizeOf, typeInfo, zeroValue, h1, h2, h4, h0, hbig, hzs, hf', newRow]
theorem Ops.buildSlice {E kk bb : Nat} {zs : List Value} [hS : TySl P T E kk bb zs] {n : Nat} {parts : List (Nat × Operand)} {ts : List Tr} {rows : List (List Tr)} (hp : Parts (fun i => some (i * kk, kk)) env parts (zeroRow zs n) ts) (hrows : rowsOf kk n ts = rows) (hn : Nat.ble (n * kk) 16777216 = true) (hi : Nat.blt i Γ.n = true)
  (kont : Ops P Γ R rest ((i, .sl kk rows) :: env) cs Q) : Ops P Γ R (⟨some i, .buildSlice T n parts.toArray, ty, pos, af, none⟩ :: rest) env cs Q :=
 Ops.of fun a w d => by
  have hn' : n * kk ≤ 16777216 := Nat.le_of_ble_eq_true hn
  obtain ⟨c, hrun, hr, hsz⟩ := run_buildSlice (P := P) (T := T) hn' d hp
  have hl : ts.length = n * kk := by rw [← hr.length, Array.length_toList, hsz]
  obtain ⟨r1, r2, r3⟩ := rowsOf_flat hl
  obtain ⟨_, _, _, _, _, _, _, hk0⟩ := hS.hE
  have hmax : n ≤ maxLen := by
   have : n ≤ n * kk := Nat.le_mul_of_pos_right n hk0
   simp only [maxLen]
   omega
  have d2 := d.newblock c E hr
  refine ⟨_, _, .value _, _, by simp [execOp, hrun] <;> rfl, .inl ⟨_, rfl, Den.put (d2.dropc) hi ?_⟩, kont⟩
  have hnb := d2.chunks (Chunk.box w.heap.size E ts) (by simp)
  obtain ⟨c', hc', hr'⟩ := hnb
  have hav : SameOn (w.alloc (.cells c E)) (w.alloc (.cells c E)) (av Γ.M (Chunk.box w.heap.size E ts :: cs)) (av Γ.M cs) := fun b _ ⟨h1, h2⟩ => ⟨⟨h1, fun hm => h2 (by simp [fps] at hm ⊢; exact .inr hm)⟩, rfl⟩
  have hfr := d2.fresh w.heap.size (by simp [fps, Chunk.box])
  have hnotin : w.heap.size ∉ fps cs := by
   have := d2.nodup
   simp only [fps, List.flatMap_cons, Chunk.box] at this
   exact fun hm => (List.nodup_append.1 this).2.2 _ (by simp) _ hm rfl
  rw [← hrows]
  refine ⟨r2, by omega, some ⟨w.heap.size, 0, none⟩, n, by rw [r3], by omega, hmax, fun h => absurd h (by simp), .inr ⟨_, 0, rfl, ⟨hfr.2.1, hnotin⟩, c', E, _, hc', ?_⟩⟩
  rw [r1]
  have := hr'.mono hav
  rw [List.drop_zero, List.take_of_length_le (by rw [this.length]; exact Nat.le_refl _)]
  exact this
theorem Ops.buildSlice_own {E kk bb : Nat} {zs : List Value} [hS : TySl P T E kk bb zs] {n : Nat} {parts : List (Nat × Operand)} {ts : List Tr} {rows : List (List Tr)} (hp : Parts (fun i => some (i * kk, kk)) env parts (zeroRow zs n) ts) (hrows : rowsOf kk n ts = rows) (hn : Nat.ble (n * kk) 16777216 = true) (hi : Nat.blt i Γ.n = true)
  (kont : ∀ ad cap, Ops P Γ R rest ((i, .raw (.slice ad rows.length cap)) :: env) (Chunk.own ad cap kk E rows :: cs) Q) : Ops P Γ R (⟨some i, .buildSlice T n parts.toArray, ty, pos, af, none⟩ :: rest) env cs Q :=
 Ops.of fun a w d => by
  have hn' : n * kk ≤ 16777216 := Nat.le_of_ble_eq_true hn
  obtain ⟨c, hrun, hr, hsz⟩ := run_buildSlice (P := P) (T := T) hn' d hp
  have hl : ts.length = n * kk := by rw [← hr.length, Array.length_toList, hsz]
  obtain ⟨r1, r2, r3⟩ := rowsOf_flat hl
  obtain ⟨_, _, _, _, _, _, _, hk0⟩ := hS.hE
  have hmax : n ≤ maxLen := by
   have : n ≤ n * kk := Nat.le_mul_of_pos_right n hk0
   simp only [maxLen]
   omega
  subst hrows
  refine ⟨_, _, .value (.slice (some ⟨w.heap.size, 0, none⟩) n n), _, by simp [execOp, hrun] <;> rfl, .inl ⟨_, rfl, Den.put ?_ hi (by rw [r3]; rfl)⟩, kont (some ⟨w.heap.size, 0, none⟩) n⟩
  refine d.push _ (by simp) (by simp [Chunk.own, Value.ownBlock]) (by simp [Chunk.own, Value.ownBlock]) (fun b hb => heap_alloc_old w _ b hb) rfl rfl rfl ?_
  intro hs
  refine ⟨r2, c.toList, ?_, ?_⟩
  ·rw [r3]
   exact World.ownsRow_lit w c n (Nat.zero_le _) hmax hsz
  ·rw [r1]
   exact hr.mono hs
theorem Ops.makeSlice {E kk bb : Nat} {zs : List Value} [hS : TySl P T E kk bb zs] (hx : ev env x = some (.int p)) (hy : ev env y = some (.int p)) (h0 : 0 ≤ p) (hb : bb * p.toNat ≤ 281474976710656) (hmx : p ≤ 9223372036854775807) (hi : Nat.blt i Γ.n = true)
  (kont : ∀ ad cap, Ops P Γ R rest ((i, .raw (.slice ad p.toNat cap)) :: env) (Chunk.own ad cap kk E (List.replicate p.toNat (zs.map Tr.raw)) :: cs) Q) : Ops P Γ R (⟨some i, .makeSlice T x y, ty, pos, af, none⟩ :: rest) env cs Q :=
 Ops.of fun a w d => by
  have hv := rd_raw (d.ev hx)
  have hv2 := rd_raw (d.ev hy)
  obtain ⟨ti, zv, h1, h2, h3, h4, h5, h6⟩ := hS.hE
  obtain ⟨n, rfl⟩ := Int.eq_ofNat_of_zero_le h0
  simp only [Int.toNat_natCast] at hb kont ⊢
  have hr := run_make (P := P) w T E ti zv hS.hT h1 h2 .i64 .i64 n n (by omega) (Int.le_refl _) (by rw [h5]; have : ((bb * n : Nat) : Int) ≤ 281474976710656 := by omega
                                                                                                    rwa [Int.natCast_mul] at this) hmx
  have hzs : zv.cells.size = kk := hS.hz _ _ h1 h2
  simp only [Int.toNat_natCast, h4] at hr
  refine ⟨_, _, .value (.slice (some ⟨w.heap.size, 0, none⟩) n n), _, by simp [execOp, hv, hv2, hr] <;> rfl, .inl ⟨_, rfl, Den.put ?_ hi rfl⟩, kont (some ⟨w.heap.size, 0, none⟩) n⟩
  refine d.push _ (by simp) (by simp [Chunk.own, Value.ownBlock]) (by simp [Chunk.own, Value.ownBlock]) (fun b hb => heap_alloc_old w _ b hb) rfl rfl rfl ?_
  intro hs
  have hmd := madeCells_rd (w := w) (A := av Γ.M cs) (zs := zv.cells) (by rw [h3]; exact hS.one) n
  rw [hzs, h3] at hmd
  refine ⟨fun r hr => by rw [List.eq_of_mem_replicate hr]; simp [hS.hk], (madeCells zv.cells (n * kk)).toList, ?_, ?_⟩
  ·simp only [List.length_replicate]
   exact World.ownsRow_lit w (madeCells zv.cells (n * kk)) n (Nat.zero_le _) (by simp only [maxLen]; omega) (size_madeCells _ _)
  ·have e := zeroRow_flat zs n
   rw [e]
   exact hmd.mono hs
end build
section calls
variable {P : Program} {Γ : Ctx} {env env' : Env} {cs cs' cf : List Chunk} {Q : Post} {R : Array Oper}
variable {i : Tmp} {ty : TypeId} {pos : String} {af : Array Edge} {rest : List Oper}
variable {x y z : Operand} {T T2 : TypeId} {k : IntKind} {p q : Int}
theorem run_slice_parts {t E : TypeId} {kk bb : Nat} {zs : List Value} [hS : TySl P t E kk bb zs] {a : Option Addr} {len cap : Nat} {lo hi : Option Value} {l h : Nat} {w : World}
  (hb : (Instr.sliceBounds true len cap lo hi none).run P w = .ok (l, h, cap) w) :
  (Instr.sliceAt t (.slice a len cap) lo hi none).run P w = .ok (.slice (if cap = l then a else a.map (·.add (l * kk))) (h - l) (cap - l)) w := by
 obtain ⟨ti, zv, h1, h2, h3, h4, _⟩ := hS.hE
 simp [Instr.sliceAt, Instr.slice, run_underlying hS.hT, hb, Go.sizeOf, typeInfo, h1, h4]
theorem bounds_lh {len cap : Nat} {l h : Int} {w : World} (h0 : 0 ≤ l) (h1 : l ≤ h) (h2 : h ≤ cap) :
  (Instr.sliceBounds true len cap (some (.int k l)) (some (.int k h)) none).run P w = .ok (l.toNat, h.toNat, cap) w := by
 have e : l ≤ (h.toNat : Int) := by omega
 simp [Instr.sliceBounds, run_sliceBound (P := P) w k h cap .sliceAcap (by omega) h2, run_sliceBound (P := P) w k l h.toNat .sliceB h0 e]
theorem bounds_l {len cap : Nat} {l : Int} {w : World} (h0 : 0 ≤ l) (h1 : l ≤ len) :
  (Instr.sliceBounds true len cap (some (.int k l)) none none).run P w = .ok (l.toNat, len, cap) w := by
 simp [Instr.sliceBounds, run_sliceBound (P := P) w k l len .sliceB h0 h1]
theorem bounds_h {len cap : Nat} {h : Int} {w : World} (h0 : 0 ≤ h) (h2 : h ≤ cap) :
  (Instr.sliceBounds true len cap none (some (.int k h)) none).run P w = .ok (0, h.toNat, cap) w := by
 simp [Instr.sliceBounds, run_sliceBound (P := P) w k h cap .sliceAcap h0 h2]
theorem flatten_take {rows : List (List Tr)} {kk : Nat} (h : ∀ r ∈ rows, r.length = kk) (n : Nat) : (rows.take n).flatten = rows.flatten.take (n * kk) := by
 induction rows generalizing n with
 |nil => simp
 |cons s l ih =>
  cases n with
  |zero => simp
  |succ n =>
   rw [List.take_succ_cons, List.flatten_cons, ih (fun r hr => h r (by simp [hr])), List.flatten_cons, List.take_append, h s (by simp)]
   have e : (n + 1) * kk = n * kk + kk := by rw [Nat.add_mul]; omega
   rw [List.take_of_length_le (l := s) (by rw [h s (by simp)]; omega), e, Nat.add_sub_cancel]
theorem flatten_drop {rows : List (List Tr)} {kk : Nat} (h : ∀ r ∈ rows, r.length = kk) (n : Nat) : (rows.drop n).flatten = rows.flatten.drop (n * kk) := by
 induction rows generalizing n with
 |nil => simp
 |cons s l ih =>
  cases n with
  |zero => simp
  |succ n =>
   rw [List.drop_succ_cons, ih (fun r hr => h r (by simp [hr])), List.flatten_cons, List.drop_append, h s (by simp)]
   have e : (n + 1) * kk = n * kk + kk := by rw [Nat.add_mul]; omega
   rw [List.drop_of_length_le (l := s) (by rw [h s (by simp)]; omega), e, Nat.add_sub_cancel, List.nil_append]
theorem sl_sub {w : World} {A : Nat → Prop} {kk : Nat} {rows : List (List Tr)} {ad : Option Addr} {cap l h : Nat} (hv : (Tr.sl kk rows).rd w A (.slice ad rows.length cap)) (hl : l ≤ h) (hh : h ≤ rows.length) :
  (Tr.sl kk ((rows.take h).drop l)).rd w A (.slice (if cap = l then ad else ad.map (·.add (l * kk))) (h - l) (cap - l)) := by
 obtain ⟨hk, hm, ad', cap', he, h1, h2, h3, h4⟩ := hv
 simp only [Value.slice.injEq] at he
 obtain ⟨rfl, _, rfl⟩ := he
 have hlen : ((rows.take h).drop l).length = h - l := by simp [Nat.min_eq_left hh]
 refine ⟨fun r hr => hk r (List.mem_of_mem_take (List.mem_of_mem_drop hr)), by omega, _, cap - l, by rw [hlen], by omega, by omega, ?_, ?_⟩
 ·intro hn
  have : ad = none := by
   split at hn
   ·exact hn
   ·simpa using hn
  obtain ⟨e, e2⟩ := h3 this
  subst e
  subst e2
  simp
 ·by_cases hz : h = l
  ·exact .inl (List.eq_nil_of_length_eq_zero (by omega))
  ·right
   rcases h4 with h4 | ⟨b, off, rfl, hc⟩
   ·subst h4; simp at hh; omega
   ·have hcl : ¬ cap = l := by omega
    refine ⟨b, off + l * kk, by simp [hcl, add_plain], ?_⟩
    obtain ⟨hA, c, e, fz, hb, hr⟩ := hc.drop (l * kk)
    refine ⟨hA, c, e, fz, hb, ?_⟩
    have ht : ((rows.take h).drop l).flatten = (rows.flatten.drop (l * kk)).take ((h - l) * kk) := by
     rw [flatten_drop (fun r hr => hk r (List.mem_of_mem_take hr)), flatten_take hk, List.drop_take, Nat.sub_mul]
    have := hr.take ((h - l) * kk)
    rw [← ht] at this
    rw [List.take_take] at this
    rwa [show ((rows.take h).drop l).flatten.length = min ((h - l) * kk) (rows.flatten.drop (l * kk)).length from by rw [ht, List.length_take]]
theorem OpV.slice_lh {E kk bb zs} [hS : TySl P T E kk bb zs] {rows : List (List Tr)} (hx : ev env x = some (.sl kk rows)) (hy : ev env y = some (.raw (.int k p))) (hz : ev env z = some (.raw (.int k q))) (h0 : 0 ≤ p ∧ p ≤ q ∧ q ≤ rows.length) : OpV P Γ (.slice T x (some y) (some z) none) ty env cs (.sl kk ((rows.take q.toNat).drop p.toNat)) :=
 (fun a w d => by
  have hv := d.ev hx
  obtain ⟨hk, hm, ad, cap, he, h1, _⟩ := hv
  have hp := rd_raw (d.ev hy)
  have hq := rd_raw (d.ev hz)
  have hv := d.ev hx
  rw [he] at hv
  exact ⟨_, by simp [execOp, he, hp, hq, run_slice_parts (P := P) (t := T) (kk := kk) (bounds_lh (P := P) (k := k) (len := rows.length) (cap := cap) h0.1 h0.2.1 (by omega))] <;> rfl, sl_sub hv (by omega) (by omega)⟩)
theorem Ops.slice_lh {E kk bb zs} [hS : TySl P T E kk bb zs] {rows : List (List Tr)} (hx : ev env x = some (.sl kk rows)) (hy : ev env y = some (.raw (.int k p))) (hz : ev env z = some (.raw (.int k q))) (h0 : 0 ≤ p ∧ p ≤ q ∧ q ≤ rows.length) (hi : Nat.blt i Γ.n = true)
  (kont : Ops P Γ R rest ((i, .sl kk ((rows.take q.toNat).drop p.toNat)) :: env) cs Q) : Ops P Γ R (⟨some i, .slice T x (some y) (some z) none, ty, pos, af, none⟩ :: rest) env cs Q :=
 Ops.val' hi (OpV.slice_lh hx hy hz h0) kont
theorem OpV.slice_l {E kk bb zs} [hS : TySl P T E kk bb zs] {rows : List (List Tr)} (hx : ev env x = some (.sl kk rows)) (hy : ev env y = some (.raw (.int k p))) (h0 : 0 ≤ p ∧ p ≤ rows.length) : OpV P Γ (.slice T x (some y) none none) ty env cs (.sl kk (rows.drop p.toNat)) :=
 (fun a w d => by
  have hv := d.ev hx
  obtain ⟨hk, hm, ad, cap, he, h1, _⟩ := hv
  have hp := rd_raw (d.ev hy)
  have hv := d.ev hx
  rw [he] at hv
  have := sl_sub (l := p.toNat) (h := rows.length) hv (by omega) (Nat.le_refl _)
  rw [List.take_length] at this
  exact ⟨_, by simp [execOp, he, hp, run_slice_parts (P := P) (t := T) (kk := kk) (bounds_l (P := P) (k := k) (len := rows.length) (cap := cap) h0.1 h0.2)] <;> rfl, this⟩)
theorem Ops.slice_l {E kk bb zs} [hS : TySl P T E kk bb zs] {rows : List (List Tr)} (hx : ev env x = some (.sl kk rows)) (hy : ev env y = some (.raw (.int k p))) (h0 : 0 ≤ p ∧ p ≤ rows.length) (hi : Nat.blt i Γ.n = true)
  (kont : Ops P Γ R rest ((i, .sl kk (rows.drop p.toNat)) :: env) cs Q) : Ops P Γ R (⟨some i, .slice T x (some y) none none, ty, pos, af, none⟩ :: rest) env cs Q :=
 Ops.val' hi (OpV.slice_l hx hy h0) kont
theorem OpV.slice_h {E kk bb zs} [hS : TySl P T E kk bb zs] {rows : List (List Tr)} (hx : ev env x = some (.sl kk rows)) (hz : ev env z = some (.raw (.int k q))) (h0 : 0 ≤ q ∧ q ≤ rows.length) : OpV P Γ (.slice T x none (some z) none) ty env cs (.sl kk (rows.take q.toNat)) :=
 (fun a w d => by
  have hv := d.ev hx
  obtain ⟨hk, hm, ad, cap, he, h1, _⟩ := hv
  have hq := rd_raw (d.ev hz)
  have hv := d.ev hx
  rw [he] at hv
  have := sl_sub (l := 0) (h := q.toNat) hv (by omega) (by omega)
  rw [List.drop_zero] at this
  exact ⟨_, by simp [execOp, he, hq, run_slice_parts (P := P) (t := T) (kk := kk) (bounds_h (P := P) (k := k) (len := rows.length) (cap := cap) h0.1 (by omega))] <;> rfl, this⟩)
theorem Ops.slice_h {E kk bb zs} [hS : TySl P T E kk bb zs] {rows : List (List Tr)} (hx : ev env x = some (.sl kk rows)) (hz : ev env z = some (.raw (.int k q))) (h0 : 0 ≤ q ∧ q ≤ rows.length) (hi : Nat.blt i Γ.n = true)
  (kont : Ops P Γ R rest ((i, .sl kk (rows.take q.toNat)) :: env) cs Q) : Ops P Γ R (⟨some i, .slice T x none (some z) none, ty, pos, af, none⟩ :: rest) env cs Q :=
 Ops.val' hi (OpV.slice_h hx hz h0) kont
theorem own_head {w : World} {A : Nat → Prop} {ad : Option Addr} {cap kk : Nat} {e : TypeId} {rows : List (List Tr)} (n : Nat) (hn : n ≤ rows.length) (h : (Chunk.own ad cap kk e rows).holds w A) : (Chunk.own ad cap kk e (rows.take n)).holds w A := by
 obtain ⟨hk, xs, ho, hr⟩ := h
 have hl : (rows.take n).length = n := by simp [Nat.min_eq_left hn]
 refine ⟨fun r hr => hk r (List.mem_of_mem_take hr), xs.take (n * kk), ?_, ?_⟩
 ·have hx := ho.1
  have hle : n * kk ≤ rows.length * kk := Nat.mul_le_mul_right _ hn
  refine ⟨by rw [List.length_take, hl]; omega, ?_⟩
  rcases ho.2 with ⟨e1, e2⟩ | ⟨g, cp, cur, hv, hg, hb, h1, h2, h3, h4⟩
  ·left
   simp only [Value.slice.injEq] at e1
   obtain ⟨rfl, _, rfl⟩ := e1
   have : n = 0 := by omega
   subst this
   exact ⟨by simp, by simp⟩
  ·right
   simp only [Value.slice.injEq] at hv
   obtain ⟨rfl, _, rfl⟩ := hv
   refine ⟨g, cap, cur, rfl, hg, hb, by omega, h2, h3, ?_⟩
   rw [hl, ← h4, List.take_take, Nat.min_eq_left hle]
 ·rw [flatten_take hk]
  exact hr.take _
theorem Ops.slice_own_h {E kk bb zs} [hS : TySl P T E kk bb zs] {ad : Option Addr} {n cap : Nat} {e : TypeId} {rows : List (List Tr)} (hx : ev env x = some (.raw (.slice ad n cap))) (hz : ev env z = some (.raw (.int k q))) (hp : cs.Perm (Chunk.own ad cap kk e rows :: cf)) (hn : n = rows.length) (h0 : 0 ≤ q ∧ q ≤ rows.length) (hi : Nat.blt i Γ.n = true)
  (kont : Ops P Γ R rest ((i, .raw (.slice ad (rows.take q.toNat).length cap)) :: env) (Chunk.own ad cap kk e (rows.take q.toNat) :: cf) Q) : Ops P Γ R (⟨some i, .slice T x none (some z) none, ty, pos, af, none⟩ :: rest) env cs Q :=
 Ops.of fun a w d => by
  subst hn
  have hv := rd_raw (d.ev hx)
  have hq := rd_raw (d.ev hz)
  have d' := d.perm hp
  have hch := d'.has (List.Perm.refl _)
  have hcap : rows.length ≤ cap := by
   obtain ⟨_, xs, ho, _⟩ := hch
   rcases ho.2 with ⟨e1, e2⟩ | ⟨g, cp, cur, hv, hg, hb, h1, _⟩
   ·omega
   ·simp only [Value.slice.injEq] at hv
    omega
  have hrun := run_slice_parts (P := P) (t := T) (kk := kk) (a := ad) (bounds_h (P := P) (k := k) (w := w) (len := rows.length) (cap := cap) h0.1 (by omega))
  have hl : (rows.take q.toNat).length = q.toNat := by simp; omega
  have hval : (if cap = 0 then ad else ad.map (·.add (0 * kk))) = ad := by
   split
   ·rfl
   ·cases ad <;> simp [Addr.add]
  rw [hval] at hrun
  refine ⟨_, _, .value (.slice ad (rows.take q.toNat).length cap), w, by simp [execOp, hv, hq, hrun, hl], .inl ⟨_, rfl, Den.put ?_ hi rfl⟩, kont⟩
  refine d'.turnF (fun b hb => .inl (by cases ad <;> simpa [Chunk.own, Value.ownBlock] using hb)) (by cases ad <;> simp [Chunk.own, Value.ownBlock]) (Frm.refl _ _) ?_
  intro hs h
  obtain ⟨hk, xs, ho, hr⟩ := own_head q.toNat (by omega) h
  exact ⟨hk, xs, ho, hr.mono hs⟩
theorem Ent.settle {ad : Option Addr} {n cap kk : Nat} {e : TypeId} {rows : List (List Tr)} {s : Nat} (hl : look env s = some (.raw (.slice ad n cap))) (hp : cs.Perm (Chunk.own ad cap kk e rows :: cf)) (hn : n = rows.length) :
  Ent Γ env cs ((s, .sl kk rows) :: env) cf := by
 intro a w d
 subst hn
 have d' := d.perm hp
 have d2 := d'.dropc
 refine ⟨d2.nodefer, d2.tmps, ?_, d2.chunks, d2.nodup, d2.fresh, d2.below, d2.frame⟩
 intro j u hj
 by_cases es : s = j
 ·subst es
  rw [look_cons_same] at hj
  cases hj
  rw [rd_raw (d.env s _ hl)]
  obtain ⟨hk, xs, ho, hr⟩ := d'.has (List.Perm.refl _)
  have hs : SameOn w w (av Γ.M (Chunk.own ad cap kk e rows :: cf)) (av Γ.M cf) := fun b _ ⟨h1, h2⟩ => ⟨⟨h1, fun hm => h2 (by simp [fps] at hm ⊢; exact .inr hm)⟩, rfl⟩
  rcases ho.2 with ⟨e1, e2⟩ | ⟨g, cp, cur, hv, hg, hb, h1, h2, h3, h4⟩
  ·simp only [Value.slice.injEq] at e1
   obtain ⟨rfl, _, rfl⟩ := e1
   exact ⟨hk, by simp [e2], none, 0, rfl, by omega, by simp, fun _ => ⟨List.eq_nil_of_length_eq_zero e2, rfl⟩, .inl (List.eq_nil_of_length_eq_zero e2)⟩
  ·simp only [Value.slice.injEq] at hv
   obtain ⟨rfl, _, rfl⟩ := hv
   have hfr := d'.fresh g (by simp [fps, Chunk.own, Value.ownBlock])
   have hnot : g ∉ fps cf := by
    have := d'.nodup
    simp only [fps, List.flatMap_cons] at this
    exact fun hm => (List.nodup_append.1 this).2.2 g (by simp [Chunk.own, Value.ownBlock]) g hm rfl
   refine ⟨hk, by omega, _, cap, rfl, h1, h2, fun h => absurd h (by simp), .inr ⟨g, 0, rfl, ⟨hfr.2.1, hnot⟩, cur, e, _, hb, ?_⟩⟩
   rw [List.drop_zero, flat_len hk, h4]
   exact hr.mono hs
 ·rw [look_cons_ne _ _ es] at hj
  exact d2.env j u hj
def Spec (P : Program) (f : FuncId) (args : List Tr) (cin : List Chunk) (post : Tr → List Chunk → Prop) : Prop :=
 (∀ (vs : Array Value) (w : World), (callFunc f vs).run P w = .ok (.enter f vs) w) ∧
 ∀ (M : Nat → Prop) (w : World) (vs : List Value), RdL w (av M cin) args vs → (∀ c ∈ cin, c.holds w (av M cin)) → (fps cin).Nodup → (∀ b ∈ fps cin, b < w.heap.size ∧ ¬ M b) → (∀ b, M b → b < w.heap.size) →
  Calls P f vs.toArray w fun e w' => ∃ v r cs', e = .returned v ∧ post r cs' ∧ r.rd w' (av M cs') v ∧ (∀ c ∈ cs', c.holds w' (av M cs')) ∧ (fps cs').Nodup ∧
   (∀ b ∈ fps cs', b < w'.heap.size ∧ ¬ M b ∧ (b ∈ fps cin ∨ w.heap.size ≤ b)) ∧ Frm (fps cin) w w'
theorem Spec.mono {f : FuncId} {args : List Tr} {cin : List Chunk} {post post' : Tr → List Chunk → Prop} (h : Spec P f args cin post) (hp : ∀ r cs, post r cs → post' r cs) : Spec P f args cin post' :=
 ⟨h.1, fun M w vs a b c d e => (h.2 M w vs a b c d e).mono fun _ _ ⟨v, r, cs', h1, h2, h3⟩ => ⟨v, r, cs', h1, hp _ _ h2, h3⟩⟩
def Evs (env : Env) : List Operand → List Tr → Prop
 |[], ts => ts = []
 |x :: xs, ts => ∃ t rest, ts = t :: rest ∧ ev env x = some t ∧ Evs env xs rest
theorem Evs.nil : Evs env [] [] := rfl
theorem Evs.cons {x : Operand} {xs : List Operand} {t : Tr} {ts : List Tr} (h : ev env x = some t) (k : Evs env xs ts) : Evs env (x :: xs) (t :: ts) := ⟨t, ts, rfl, h, k⟩
theorem Evs.rd {a : Act} {w : World} (d : Den Γ env cs a w) : ∀ {xs : List Operand} {ts : List Tr}, Evs env xs ts → RdL w (av Γ.M cs) ts (xs.map a.eval)
 |[], _, h => by cases h; rfl
 |x :: xs, _, ⟨t, rest, e, h, k⟩ => by subst e; exact ⟨_, _, rfl, d.ev h, Evs.rd d k⟩
theorem call_core {f : FuncId} {args : List Tr} {cin : List Chunk} {post : Tr → List Chunk → Prop} (hs : Spec P f args cin post) {a : Act} {w : World} (d : Den Γ env cs a w) (hp : cs.Perm (cin ++ cf)) {vs : List Value} (hr : RdL w (av Γ.M cs) args vs) :
  Calls P f vs.toArray w fun e w' => ∃ v r cs', e = .returned v ∧ post r cs' ∧ r.rd w' (av Γ.M (cs' ++ cf)) v ∧ Den Γ env (cs' ++ cf) a w' := by
 have hfps : ∀ b, b ∈ fps cs ↔ b ∈ fps cin ∨ b ∈ fps cf := fun b => by rw [(fps_perm hp).mem_iff]; simp [fps]
 have hav : ∀ c1 : List Chunk, av (fun b => Γ.M b ∨ b ∈ fps cf) c1 = av Γ.M (c1 ++ cf) := by
  intro c1
  funext b
  simp only [av, fps, List.flatMap_append, List.mem_append]
  apply propext
  constructor
  ·rintro ⟨h1, h2⟩; exact ⟨fun h => h1 (.inl h), fun h => h.elim h2 fun h => h1 (.inr h)⟩
  ·rintro ⟨h1, h2⟩; exact ⟨fun h => h.elim h1 fun h => h2 (.inr h), fun h => h2 (.inl h)⟩
 have d' := d.perm hp
 have hnd := d'.nodup
 have hfa : fps (cin ++ cf) = fps cin ++ fps cf := by simp [fps]
 rw [hfa] at hnd
 obtain ⟨n1, n2, n3⟩ := List.nodup_append.1 hnd
 refine (hs.2 (fun b => Γ.M b ∨ b ∈ fps cf) w vs (by rw [hav, ← av_perm hp]; exact hr) (fun c hc => by rw [hav]; exact d'.chunks c (by simp [hc])) n1 ?_ ?_).mono ?_
 ·intro b hb
  obtain ⟨h1, h2, h3⟩ := d'.fresh b (by rw [hfa]; simp [hb])
  exact ⟨h1, fun h => h.elim h2 fun h => n3 b hb b h rfl⟩
 ·intro b hb
  rcases hb with hb | hb
  ·exact Nat.lt_of_lt_of_le (d.below b hb) d.frame.size
  ·exact (d'.fresh b (by rw [hfa]; simp [hb])).1
 ·rintro e w' ⟨v, r, cs', rfl, hpost, hrd, hch, hndc, hfr, hfm⟩
  rw [hav] at hrd hch
  have hold : ∀ b ∈ fps cf, b < w.heap.size → w'.heap[b]? = w.heap[b]? := fun b hb hlt => hfm.block b hlt fun hm => n3 b hm b hb rfl
  have hsame : SameOn w w' (av Γ.M (cin ++ cf)) (av Γ.M (cs' ++ cf)) := by
   intro b hb ⟨h1, h2⟩
   rw [hfa] at h2
   simp only [List.mem_append, not_or] at h2
   refine ⟨⟨h1, ?_⟩, hfm.block b hb h2.1⟩
   simp only [fps, List.flatMap_append, List.mem_append, not_or]
   refine ⟨fun hm => ?_, h2.2⟩
   obtain ⟨_, _, h5⟩ := hfr b hm
   rcases h5 with h5 | h5
   ·exact h2.1 h5
   ·omega
  refine ⟨v, r, cs', rfl, hpost, hrd, d'.world hsame ?_ ?_ ?_ ⟨hfm.os, hfm.tape, hfm.output, hfm.size, fun b hb hn => hfm.block b hb fun hm => hn (by rw [hfa]; simp [hm]), hfm.drawn⟩⟩
  ·intro c hc
   rcases List.mem_append.1 hc with h | h
   ·exact hch c h
   ·exact c.mono (fun b hb hlt => hold b (List.mem_flatMap.2 ⟨c, h, hb⟩) hlt) hsame (d'.chunks c (by simp [h]))
  ·have : fps (cs' ++ cf) = fps cs' ++ fps cf := by simp [fps]
   rw [this]
   refine List.nodup_append.2 ⟨hndc, n2, ?_⟩
   intro x hx y hy e
   subst e
   obtain ⟨_, h4, h5⟩ := hfr x hx
   exact h4 (.inr hy)
  ·intro b hb
   simp only [fps, List.flatMap_append, List.mem_append] at hb
   rcases hb with hb | hb
   ·obtain ⟨h3, h4, h5⟩ := hfr b hb
    refine ⟨h3, fun h => h4 (.inl h), ?_⟩
    rcases h5 with h5 | h5
    ·exact (d'.fresh b (by rw [hfa]; simp [h5])).2.2
    ·have := d.frame.size
     exact .inr (by omega)
   ·obtain ⟨h3, h4, h5⟩ := d'.fresh b (by rw [hfa]; simp; exact .inr hb)
    exact ⟨Nat.lt_of_lt_of_le h3 hfm.size, h4, h5⟩
theorem Ops.call {f : FuncId} {xs : List Operand} {ts : Array TypeId} {args : List Tr} {cin : List Chunk} {post : Tr → List Chunk → Prop} (hs : Spec P f args cin post) (ha : Evs env xs args) (hp : cs.Perm (cin ++ cf)) (hi : Nat.blt i Γ.n = true)
  (kont : ∀ r cs', post r cs' → Ops P Γ R rest ((i, r) :: env) (cs' ++ cf) Q) : Ops P Γ R (⟨some i, .call ⟨.value (.func f), xs.toArray, ts⟩, ty, pos, af, none⟩ :: rest) env cs Q := by
 intro a w d
 refine wpListIn_plain rfl fun K hK => ?_
 have hc := call_core hs d hp (ha.rd d)
 have hrun : (execOp a.eval ⟨some i, .call ⟨.value (.func f), xs.toArray, ts⟩, ty, pos, af, none⟩).run P w = .ok (.enter f (xs.map a.eval).toArray) w := by
  have := hs.1 (xs.map a.eval).toArray w
  simp [execOp, resolve, invoke, Deferred.ofValue, Act.eval, this]
 refine opIn_of_run hrun ⟨(by intro d h; cases h), (by intro x y h; cases h)⟩ ?_
 refine hc.mono ?_
 rintro e w' ⟨v, r, cs', rfl, hpost, hrd, hd⟩
 exact hK _ _ (kont r cs' hpost _ _ (hd.put hi hrd))
theorem Ops.call_fn {f : FuncId} {g : Operand} {xs : List Operand} {ts : Array TypeId} {caps : List Value} {args : List Tr} {cin : List Chunk} {post : Tr → List Chunk → Prop} (hg : ev env g = some (.raw (.func (.func f) #[] caps.toArray))) (hs : Spec P f (args ++ caps.map Tr.raw) cin post) (ha : Evs env xs args) (hp : cs.Perm (cin ++ cf)) (hi : Nat.blt i Γ.n = true)
  (kont : ∀ r cs', post r cs' → Ops P Γ R rest ((i, r) :: env) (cs' ++ cf) Q) : Ops P Γ R (⟨some i, .call ⟨.value g, xs.toArray, ts⟩, ty, pos, af, none⟩ :: rest) env cs Q := by
 intro a w d
 refine wpListIn_plain rfl fun K hK => ?_
 have hgv := rd_raw (d.ev hg)
 have hrd0 : RdL w (av Γ.M cs) (args ++ caps.map Tr.raw) (xs.map a.eval ++ caps) := by
  have h1 := ha.rd d
  clear hs
  generalize xs.map a.eval = vs at h1
  induction args generalizing vs with
  |nil =>
   simp [RdL] at h1
   subst h1
   simp only [List.nil_append]
   clear hg hgv
   induction caps with
   |nil => rfl
   |cons c caps ih => exact ⟨c, caps, rfl, rfl, ih⟩
  |cons t args ih =>
   obtain ⟨v, rest, rfl, ht, hr⟩ := h1
   exact ⟨v, rest ++ caps, rfl, ht, by
    clear ha ih
    induction args generalizing rest with
    |nil =>
     simp [RdL] at hr
     subst hr
     simp only [List.nil_append]
     clear hg hgv
     induction caps with
     |nil => rfl
     |cons c caps ih => exact ⟨c, caps, rfl, rfl, ih⟩
    |cons t2 args ih2 =>
     obtain ⟨v2, rest2, rfl, ht2, hr2⟩ := hr
     exact ⟨v2, rest2 ++ caps, rfl, ht2, ih2 rest2 hr2⟩⟩
 have hc := call_core hs d hp hrd0
 have hrun : (execOp a.eval ⟨some i, .call ⟨.value g, xs.toArray, ts⟩, ty, pos, af, none⟩).run P w = .ok (.enter f (xs.map a.eval ++ caps).toArray) w := by
  have := hs.1 (xs.map a.eval ++ caps).toArray w
  simp [execOp, resolve, invoke, Deferred.ofValue, hgv] at this ⊢
  exact this
 refine opIn_of_run hrun ⟨(by intro d h; cases h), (by intro x y h; cases h)⟩ ?_
 refine hc.mono ?_
 rintro e w' ⟨v, r, cs', rfl, hpost, hrd, hd⟩
 exact hK _ _ (kont r cs' hpost _ _ (hd.put hi hrd))
def argEnv : Nat → List Tr → Env
 |_, [] => []
 |n, t :: ts => (n, t) :: argEnv (n + 1) ts
def Outs (P : Program) (fn : Func) (Γ : Ctx) (env : Env) (cs : List Chunk) (r : Tr) : Prop := ∀ w0 own0 a w, Den ⟨w0, own0, Γ.M, Γ.n, Γ.rd, Γ.df⟩ env cs a w → ∃ v, (results fn a.tmps).run P w = .ok v w ∧ r.rd w (av Γ.M cs) v
def Fin (P : Program) (fn : Func) (Γ : Ctx) (post : Tr → List Chunk → Prop) : Post := fun e env cs => (e = .ret ∨ e = .normal) ∧ ∃ env' cs' r, Ent Γ env cs env' cs' ∧ Outs P fn Γ env' cs' r ∧ post r cs'
theorem argEnv_rd {w : World} {A : Nat → Prop} : ∀ {ts : List Tr} {n : Nat} {vs pre : List Value} {suf : Array Value}, RdL w A ts vs → pre.length = n → ∀ j t, look (argEnv n ts) j = some t → t.rd w A (((pre ++ vs).toArray ++ suf).getD j undef)
 |[], n, vs, pre, suf, _, _, j, t, h => by simp [argEnv, look] at h
 |u :: ts, n, _, pre, suf, ⟨v, rest, e, hu, hr⟩, hn, j, t, h => by
  subst e
  by_cases ej : n = j
  ·subst ej
   rw [argEnv, look_cons_same] at h
   cases h
   have hlt : n < ((pre ++ v :: rest).toArray ++ suf).size := by simp; omega
   have : ((pre ++ v :: rest).toArray ++ suf).getD n undef = v := by
    rw [Array.getD_eq_getD_getElem?, Array.getElem?_append_left (by simp; omega)]
    simp [← hn]
   rw [this]
   exact hu
  ·rw [argEnv, look_cons_ne _ _ ej] at h
   have := argEnv_rd (pre := pre ++ [v]) (suf := suf) hr (by simp [hn]) j t h
   simpa using this
theorem Spec.of_body {f : FuncId} {fn : Func} {c : Code} {args : List Tr} {cin : List Chunk} {post : Tr → List Chunk → Prop} (hf : P.funcs[f]? = some fn) (hb : fn.body = some c) (hname : (fn.name == "runtime.NumGoroutine") = false) (hn : Nat.ble args.length fn.ntmps = true)
  (h : ∀ Γ : Ctx, Γ.n = fn.ntmps → Γ.rd = none → Γ.df = [] → Cw P Γ c (argEnv 0 args) cin (Fin P fn Γ post)) : Spec P f args cin post := by
 refine ⟨fun vs w => by simp only [callFunc, Sem.run_bind, run_program, Result.andThen_ok, hf]; simp [hname, hb], ?_⟩
 intro M w vs hr hch hnd hlt hM
 have hl := hr.length
 have hn' : args.length ≤ fn.ntmps := Nat.le_of_ble_eq_true hn
 let Γ : Ctx := ⟨w, fps cin, M, fn.ntmps, none, []⟩
 refine calls_of_wp hf hb ?_
 have d : Den Γ (argEnv 0 args) cin { tmps := vs.toArray ++ Array.replicate (fn.ntmps - vs.toArray.size) undef, defers := [] } w :=
  ⟨rfl, by simp [Γ]; omega, fun j t hj => argEnv_rd (pre := []) hr rfl j t hj, hch, hnd, fun b hb => ⟨(hlt b hb).1, (hlt b hb).2, .inl hb⟩, hM, Frm.refl _ _⟩
 refine wp_mono (wpIn_wide.1 (h Γ rfl rfl rfl _ w d)) ?_
 rintro e a w' ⟨env, cs, ⟨he, env', cs', r, hent, hout, hpost⟩, hd⟩
 have hd' := hent _ _ hd
 obtain ⟨v, hres, hrd⟩ := hout _ _ _ _ hd'
 have key : a.defers = [] ∧ ∃ v, (results fn a.tmps).run P w' = .ok v w' ∧ ∃ v2 r cs', Ending.returned v = .returned v2 ∧ post r cs' ∧ r.rd w' (av M cs') v2 ∧ (∀ c ∈ cs', c.holds w' (av M cs')) ∧ (fps cs').Nodup ∧ (∀ b ∈ fps cs', b < w'.heap.size ∧ ¬ M b ∧ (b ∈ fps cin ∨ w.heap.size ≤ b)) ∧ Frm (fps cin) w w' :=
  ⟨hd.nodefer, v, hres, v, r, cs', rfl, hpost, hrd, hd'.chunks, hd'.nodup, hd'.fresh, hd'.frame⟩
 rcases he with rfl | rfl
 ·exact key
 ·exact key
theorem Outs.one {fn : Func} {t : Tmp} {r : Tr} (h : fn.results = #[.tmp t]) (hl : look env t = some r) : Outs P fn Γ env cs r := by
 intro w0 own0 a w d
 refine ⟨a.tmps.getD t undef, ?_, d.env t r hl⟩
 simp [results, h]
theorem Outs.zero {fn : Func} (h : fn.results = #[]) : Outs P fn Γ env cs (.tup []) := by
 intro w0 own0 a w d
 exact ⟨.tuple #[], by simp [results, h], [], rfl, rfl⟩
theorem Outs.two {fn : Func} {t u : Tmp} {r s : Tr} (h : fn.results = #[.tmp t, .tmp u]) (hl : look env t = some r) (hu : look env u = some s) : Outs P fn Γ env cs (.tup [r, s]) := by
 intro w0 own0 a w d
 refine ⟨.tuple #[a.tmps.getD t undef, a.tmps.getD u undef], ?_, [_, _], rfl, _, _, rfl, d.env t r hl, _, _, rfl, d.env u s hu, rfl⟩
 simp [results, h]
theorem Outs.three {fn : Func} {t u v : Tmp} {r s q : Tr} (h : fn.results = #[.tmp t, .tmp u, .tmp v]) (hl : look env t = some r) (hu : look env u = some s) (hv : look env v = some q) : Outs P fn Γ env cs (.tup [r, s, q]) := by
 intro w0 own0 a w d
 refine ⟨.tuple #[a.tmps.getD t undef, a.tmps.getD u undef, a.tmps.getD v undef], ?_, [_, _, _], rfl, _, _, rfl, d.env t r hl, _, _, rfl, d.env u s hu, _, _, rfl, d.env v q hv, rfl⟩
 simp [results, h]
end calls
section fns
variable {P : Program} {Γ : Ctx} {env env' : Env} {cs cs' cf : List Chunk} {Q : Post} {R : Array Oper}
variable {i : Tmp} {ty : TypeId} {pos : String} {af : Array Edge} {rest : List Oper}
variable {x y z : Operand} {T T2 : TypeId} {k : IntKind} {p q : Int}
def PFn (P : Program) (f : FuncId) (args : List Tr) (post : Tr → Prop) : Prop := Spec P f args [] fun r cs => cs = [] ∧ post r
theorem PFn.mk {f : FuncId} {args : List Tr} {post : Tr → Prop} (h : Spec P f args [] fun r cs => cs = [] ∧ post r) : PFn P f args post := h
theorem PFn.spec {f : FuncId} {args : List Tr} {post : Tr → Prop} (h : PFn P f args post) : Spec P f args [] fun r cs => cs = [] ∧ post r := h
theorem Ops.callF {f : FuncId} {xs : List Operand} {ts : Array TypeId} {args : List Tr} {post : Tr → Prop} (hs : PFn P f args post) (ha : Evs env xs args) (hi : Nat.blt i Γ.n = true)
  (kont : ∀ r, post r → Ops P Γ R rest ((i, r) :: env) cs Q) : Ops P Γ R (⟨some i, .call ⟨.value (.func f), xs.toArray, ts⟩, ty, pos, af, none⟩ :: rest) env cs Q :=
 Ops.call hs ha (List.Perm.refl _) hi fun r cs' h => by obtain ⟨rfl, h⟩ := h; exact kont r h
theorem Ops.callV {f : FuncId} {xs : List Operand} {ts : Array TypeId} {args : List Tr} {r : Tr} (hs : PFn P f args (· = r)) (ha : Evs env xs args) (hi : Nat.blt i Γ.n = true)
  (kont : Ops P Γ R rest ((i, r) :: env) cs Q) : Ops P Γ R (⟨some i, .call ⟨.value (.func f), xs.toArray, ts⟩, ty, pos, af, none⟩ :: rest) env cs Q :=
 Ops.callF hs ha hi fun r h => by subst h; exact kont
theorem Spec.body {f n : Nat} {fn : Func} {c : Code} {args : List Tr} {cin : List Chunk} {post : Tr → List Chunk → Prop} (hf : P.funcs[f]? = some fn) (hb : fn.body = some c) (hname : (fn.name == "runtime.NumGoroutine") = false) (hnt : fn.ntmps = n) (hn : Nat.ble args.length n = true)
  (h : ∀ w0 own0 M, Cw P ⟨w0, own0, M, n, none, []⟩ c (argEnv 0 args) cin (Fin P fn ⟨w0, own0, M, n, none, []⟩ post)) : Spec P f args cin post := by
 subst hnt
 exact Spec.of_body hf hb hname hn fun Γ e e2 e3 => by
  obtain ⟨w0, own0, M, n, rd, df⟩ := Γ
  simp only at e e2 e3
  subst e
  subst e2
  subst e3
  exact h w0 own0 M
theorem Fin.ret {fn : Func} {post : Tr → List Chunk → Prop} {r : Tr} (he : Ent Γ env cs env' cs') (ho : Outs P fn Γ env' cs' r) (h : post r cs') : Fin P fn Γ post .ret env cs := ⟨.inl rfl, env', cs', r, he, ho, h⟩
theorem Fin.norm {fn : Func} {post : Tr → List Chunk → Prop} {r : Tr} (he : Ent Γ env cs env' cs') (ho : Outs P fn Γ env' cs' r) (h : post r cs') : Fin P fn Γ post .normal env cs := ⟨.inr rfl, env', cs', r, he, ho, h⟩
end fns
section strm
variable {P : Program} {Γ : Ctx} {env env' : Env} {cs cs' cf : List Chunk} {Q : Post} {R : Array Oper}
def Chunk.strm (ty b : Nat) (rows : List (List Tr)) (n : Nat) : Chunk :=
 ⟨[b], fun w A => ∃ m : Nat, m ≤ n ∧ (Chunk.box b ty [Tr.sl 1 rows, Tr.int m]).holds w A, fun hb h ⟨m, hm, hc⟩ => ⟨m, hm, (Chunk.box b ty [Tr.sl 1 rows, Tr.int m]).mono hb h hc⟩⟩
theorem Cw.open_strm {c : Code} {ty b n : Nat} {rows : List (List Tr)} (h : ∀ m : Nat, m ≤ n → Cw P Γ c env (Chunk.box b ty [Tr.sl 1 rows, Tr.int m] :: cs) Q) : Cw P Γ c env (Chunk.strm ty b rows n :: cs) Q := by
 intro a w d
 obtain ⟨m, hm, hc⟩ := d.has (List.Perm.refl _)
 refine h m hm a w (d.turnF (c' := Chunk.box b ty [Tr.sl 1 rows, Tr.int m]) (fun b hb => .inl hb) (by simp [Chunk.box]) (Frm.refl _ _) ?_)
 intro hs _
 exact (Chunk.box b ty [Tr.sl 1 rows, Tr.int m]).mono (w := w) (w' := w) (fun _ _ _ => rfl) hs hc
theorem Ent.shut_strm {ty b n m : Nat} {rows : List (List Tr)} (hm : m ≤ n) : Ent Γ env (Chunk.box b ty [Tr.sl 1 rows, Tr.int m] :: cs) env (Chunk.strm ty b rows n :: cs) := by
 intro a w d
 refine d.turnF (fun b hb => .inl hb) (by simp [Chunk.strm]) (Frm.refl _ _) ?_
 intro hs h
 exact ⟨m, hm, (Chunk.box b ty [Tr.sl 1 rows, Tr.int m]).mono (w := w) (w' := w) (fun _ _ _ => rfl) hs h⟩
theorem Ent.more_strm {ty b n m : Nat} {rows : List (List Tr)} (hm : m ≤ n) : Ent Γ env (Chunk.strm ty b rows m :: cs) env (Chunk.strm ty b rows n :: cs) := by
 intro a w d
 refine d.turnF (fun b hb => .inl hb) (by simp [Chunk.strm]) (Frm.refl _ _) ?_
 intro hs ⟨j, hj, h⟩
 exact ⟨j, Nat.le_trans hj hm, (Chunk.box b ty [Tr.sl 1 rows, Tr.int j]).mono (w := w) (w' := w) (fun _ _ _ => rfl) hs h⟩
end strm
section draw
variable {P : Program} {Γ : Ctx} {env env' base : Env} {cs cs' cf : List Chunk} {Q : Post}
def erase (env : Env) (l : List Nat) : Env := env.filter fun p => !(l.contains p.1)
structure POp where
 dst : Nat
 op : Op
 ty : TypeId
 pos : String
 af : Array Edge
 g : Option (Nat × Bool)
 t : Tr
def POp.oper (o : POp) : Oper := ⟨some o.dst, o.op, o.ty, o.pos, o.af, o.g⟩
def preds (af : Array Edge) : List Nat := af.toList.filterMap fun e => if Region.binds .any e then some e.on else none
def getP : List (Nat × POp) → Nat → Option POp
 |[], _ => none
 |(j, p) :: l, i => match Nat.beq j i with
  |true => some p
  |false => getP l i
def anyOf : List Nat → Env → Env
 |[], e => e
 |d :: l, e => (d, Tr.any) :: anyOf l e
def predB (done : List (Nat × POp)) : List Edge → Env → Env
 |[], e => e
 |x :: l, e => match Region.binds .any x with
  |false => predB done l e
  |true => match getP done x.on with
   |some o => (o.dst, o.t) :: predB done l e
   |none => predB done l e
def envAt (done : List (Nat × POp)) (af : Array Edge) (ds : List Nat) (env : Env) : Env := predB done af.toList (anyOf ds env)
def GOk (done : List (Nat × POp)) (p : POp) : Prop := match p.g with
 |none => True
 |some (j, b) => j ∈ preds p.af ∧ ∃ q, getP done j = some q ∧ q.t = Tr.bool b
def GNo (done : List (Nat × POp)) (p : POp) : Prop := match p.g with
 |none => False
 |some (j, b) => j ∈ preds p.af ∧ ∃ q, getP done j = some q ∧ (q.t = Tr.bool (!b) ∨ q.t = Tr.raw undef)
def others (i : Nat) : Nat → List Oper → List Nat
 |_, [] => []
 |k, o :: l => match o.dst with
  |none => others i (k + 1) l
  |some d => match (Nat.beq k i || (preds o.after).contains i) with
   |true => others i (k + 1) l
   |false => d :: others i (k + 1) l
theorem call_core2 {f : FuncId} {args : List Tr} {cin : List Chunk} {post : Tr → List Chunk → Prop} (hs : Spec P f args cin post) {a : Act} {w : World} (d : Den Γ env cs a w) (hp : cs.Perm (cin ++ cf)) {vs : List Value} (hr : RdL w (av Γ.M cs) args vs) :
  Calls P f vs.toArray w fun e w' => ∃ v r cs', e = .returned v ∧ post r cs' ∧ r.rd w' (av Γ.M (cs' ++ cf)) v ∧ ∀ env2, Den Γ env2 cs a w → Den Γ env2 (cs' ++ cf) a w' := by
 have hfps : ∀ b, b ∈ fps cs ↔ b ∈ fps cin ∨ b ∈ fps cf := fun b => by rw [(fps_perm hp).mem_iff]; simp [fps]
 have hav : ∀ c1 : List Chunk, av (fun b => Γ.M b ∨ b ∈ fps cf) c1 = av Γ.M (c1 ++ cf) := by
  intro c1
  funext b
  simp only [av, fps, List.flatMap_append, List.mem_append]
  apply propext
  constructor
  ·rintro ⟨h1, h2⟩; exact ⟨fun h => h1 (.inl h), fun h => h.elim h2 fun h => h1 (.inr h)⟩
  ·rintro ⟨h1, h2⟩; exact ⟨fun h => h.elim h1 fun h => h2 (.inr h), fun h => h2 (.inl h)⟩
 have d' := d.perm hp
 have hnd := d'.nodup
 have hfa : fps (cin ++ cf) = fps cin ++ fps cf := by simp [fps]
 rw [hfa] at hnd
 obtain ⟨n1, n2, n3⟩ := List.nodup_append.1 hnd
 refine (hs.2 (fun b => Γ.M b ∨ b ∈ fps cf) w vs (by rw [hav, ← av_perm hp]; exact hr) (fun c hc => by rw [hav]; exact d'.chunks c (by simp [hc])) n1 ?_ ?_).mono ?_
 ·intro b hb
  obtain ⟨h1, h2, h3⟩ := d'.fresh b (by rw [hfa]; simp [hb])
  exact ⟨h1, fun h => h.elim h2 fun h => n3 b hb b h rfl⟩
 ·intro b hb
  rcases hb with hb | hb
  ·exact Nat.lt_of_lt_of_le (d.below b hb) d.frame.size
  ·exact (d'.fresh b (by rw [hfa]; simp [hb])).1
 ·rintro e w' ⟨v, r, cs', rfl, hpost, hrd, hch, hndc, hfr, hfm⟩
  rw [hav] at hrd hch
  have hold : ∀ b ∈ fps cf, b < w.heap.size → w'.heap[b]? = w.heap[b]? := fun b hb hlt => hfm.block b hlt fun hm => n3 b hm b hb rfl
  have hsame : SameOn w w' (av Γ.M (cin ++ cf)) (av Γ.M (cs' ++ cf)) := by
   intro b hb ⟨h1, h2⟩
   rw [hfa] at h2
   simp only [List.mem_append, not_or] at h2
   refine ⟨⟨h1, ?_⟩, hfm.block b hb h2.1⟩
   simp only [fps, List.flatMap_append, List.mem_append, not_or]
   refine ⟨fun hm => ?_, h2.2⟩
   obtain ⟨_, _, h5⟩ := hfr b hm
   rcases h5 with h5 | h5
   ·exact h2.1 h5
   ·omega
  refine ⟨v, r, cs', rfl, hpost, hrd, fun env2 d0 => (d0.perm hp).world hsame ?_ ?_ ?_ ⟨hfm.os, hfm.tape, hfm.output, hfm.size, fun b hb hn => hfm.block b hb fun hm => hn (by rw [hfa]; simp [hm]), hfm.drawn⟩⟩
  ·intro c hc
   rcases List.mem_append.1 hc with h | h
   ·exact hch c h
   ·exact c.mono (fun b hb hlt => hold b (List.mem_flatMap.2 ⟨c, h, hb⟩) hlt) hsame (d'.chunks c (by simp [h]))
  ·have : fps (cs' ++ cf) = fps cs' ++ fps cf := by simp [fps]
   rw [this]
   refine List.nodup_append.2 ⟨hndc, n2, ?_⟩
   intro x hx y hy e
   subst e
   obtain ⟨_, h4, h5⟩ := hfr x hx
   exact h4 (.inr hy)
  ·intro b hb
   simp only [fps, List.flatMap_append, List.mem_append] at hb
   rcases hb with hb | hb
   ·obtain ⟨h3, h4, h5⟩ := hfr b hb
    refine ⟨h3, fun h => h4 (.inl h), ?_⟩
    rcases h5 with h5 | h5
    ·exact (d'.fresh b (by rw [hfa]; simp [h5])).2.2
    ·have := d.frame.size
     exact .inr (by omega)
   ·obtain ⟨h3, h4, h5⟩ := d'.fresh b (by rw [hfa]; simp; exact .inr hb)
    exact ⟨Nat.lt_of_lt_of_le h3 hfm.size, h4, h5⟩
def OpW (P : Program) (Γ : Ctx) (op : Op) (ty : TypeId) (env : Env) (cs : List Chunk) (t : Tr) : Prop :=
 ∀ (a : Act) (w : World), Den Γ env cs a w → ∀ (d : Nat) (pos : String) (af : Array Edge) (g : Option (Nat × Bool)) (next : Act → World → Prop) (F : Exit → Act → World → Prop),
  (∀ v w', t.rd w' (av Γ.M cs) v → (∀ env2, Den Γ env2 cs a w → Den Γ env2 cs a w') → next (a.put (some d) v) w') → Oper.wpIn (fen Γ) 9 P ⟨some d, op, ty, pos, af, g⟩ a w next F
theorem OpV.w {op : Op} {ty : TypeId} {t : Tr} (h : OpV P Γ op ty env cs t) : OpW P Γ op ty env cs t := by
 intro a w dd d pos af g next F hn
 obtain ⟨v, hrun, hrd⟩ := h a w dd
 have hrun' : (execOp a.eval ⟨some d, op, ty, pos, af, g⟩).run P w = .ok (.value v) w := hrun
 refine opIn_of_run hrun' ⟨(by intro d h; cases h), (by intro x y h; cases h)⟩ ?_
 exact hn v w hrd fun _ h => h
theorem OpW.callS {f : FuncId} {xs : List Operand} {ts : Array TypeId} {args : List Tr} {cin : List Chunk} {t : Tr} {ty : TypeId} (hs : Spec P f args cin (fun r cs => r = t ∧ cs = cin)) (ha : Evs env xs args) (hp : cs.Perm (cin ++ cf)) :
  OpW P Γ (.call ⟨.value (.func f), xs.toArray, ts⟩) ty env cs t := by
 intro a w dd d pos af g next F hn
 have hc := call_core2 hs dd hp (ha.rd dd)
 have hrun : (execOp a.eval ⟨some d, .call ⟨.value (.func f), xs.toArray, ts⟩, ty, pos, af, g⟩).run P w = .ok (.enter f (xs.map a.eval).toArray) w := by
  have := hs.1 (xs.map a.eval).toArray w
  simp [execOp, resolve, invoke, Deferred.ofValue, Act.eval, this]
 refine opIn_of_run hrun ⟨(by intro d h; cases h), (by intro x y h; cases h)⟩ ?_
 refine hc.mono ?_
 rintro e w' ⟨v, r, cs', rfl, ⟨rfl, rfl⟩, hrd, hd⟩
 exact hn _ _ (by rw [av_perm hp]; exact hrd) fun env2 h => (hd env2 h).perm hp.symm
theorem OpW.callV {f : FuncId} {xs : List Operand} {ts : Array TypeId} {args : List Tr} {t : Tr} {ty : TypeId} (hs : PFn P f args (· = t)) (ha : Evs env xs args) :
  OpW P Γ (.call ⟨.value (.func f), xs.toArray, ts⟩) ty env cs t :=
 OpW.callS (cin := []) (cf := cs) (hs.mono fun r cs h => ⟨h.2, h.1⟩) ha (List.Perm.refl _)
def PStep (P : Program) (Γ : Ctx) (cs : List Chunk) (ds : List Nat) (env : Env) (done : List (Nat × POp)) (p : POp) : Prop :=
 (GOk done p ∧ OpW P Γ p.op p.ty (envAt done p.af ds env) cs p.t) ∨ (GNo done p ∧ p.t = Tr.raw undef)
def PRun (P : Program) (Γ : Ctx) (cs : List Chunk) (L : List Oper) (env : Env) (K : Env → Prop) : Nat → List (Nat × POp) → Env → List Oper → Prop
 |_, _, acc, [] => K acc
 |n, done, acc, o :: l => ∃ p : POp, p.oper = o ∧ PStep P Γ cs (others n 0 L) env done p ∧ PRun P Γ cs L env K (n + 1) ((n, p) :: done) ((p.dst, p.t) :: acc) l
section prun
variable {L : List Oper} {K : Env → Prop} {n : Nat} {done : List (Nat × POp)} {acc : Env} {d : Nat} {op : Op} {ty : TypeId} {pos : String} {af : Array Edge} {l : List Oper} {t : Tr}
theorem PRun.nil (h : K acc) : PRun P Γ cs L env K n done acc [] := h
theorem PRun.cons (h : OpW P Γ op ty (envAt done af (others n 0 L) env) cs t) (k : PRun P Γ cs L env K (n + 1) ((n, ⟨d, op, ty, pos, af, none, t⟩) :: done) ((d, t) :: acc) l) :
  PRun P Γ cs L env K n done acc (⟨some d, op, ty, pos, af, none⟩ :: l) := ⟨⟨d, op, ty, pos, af, none, t⟩, rfl, .inl ⟨trivial, h⟩, k⟩
theorem PRun.yes {j : Nat} {b : Bool} {q : POp} (hj : (preds af).contains j = true) (hq : getP done j = some q) (hb : q.t = Tr.bool b) (h : OpW P Γ op ty (envAt done af (others n 0 L) env) cs t) (k : PRun P Γ cs L env K (n + 1) ((n, ⟨d, op, ty, pos, af, some (j, b), t⟩) :: done) ((d, t) :: acc) l) :
  PRun P Γ cs L env K n done acc (⟨some d, op, ty, pos, af, some (j, b)⟩ :: l) := ⟨⟨d, op, ty, pos, af, some (j, b), t⟩, rfl, .inl ⟨⟨by simpa using hj, q, hq, hb⟩, h⟩, k⟩
theorem PRun.no {j : Nat} {b : Bool} {q : POp} (hj : (preds af).contains j = true) (hq : getP done j = some q) (hb : q.t = Tr.bool (!b)) (k : PRun P Γ cs L env K (n + 1) ((n, ⟨d, op, ty, pos, af, some (j, b), Tr.raw undef⟩) :: done) ((d, Tr.raw undef) :: acc) l) :
  PRun P Γ cs L env K n done acc (⟨some d, op, ty, pos, af, some (j, b)⟩ :: l) := ⟨⟨d, op, ty, pos, af, some (j, b), Tr.raw undef⟩, rfl, .inr ⟨⟨by simpa using hj, q, hq, .inl hb⟩, rfl⟩, k⟩
end prun
def backFrom : Nat → List Oper → Bool
 |_, [] => true
 |i, o :: l => (o.after.toList.all fun e => !Region.binds .any e || Nat.blt e.on i) && backFrom (i + 1) l
def backOk (l : List Oper) : Bool := backFrom 0 l
theorem backFrom_at : ∀ {l : List Oper} {k i : Nat} {o : Oper}, backFrom k l = true → l[i]? = some o → ∀ e ∈ o.after.toList, Region.binds .any e = true → e.on < k + i
 |[], k, i, o, _, h => by simp at h
 |p :: l, k, i, o, h, hi => by
  simp only [backFrom, Bool.and_eq_true] at h
  intro e he hb
  cases i with
  |zero =>
   simp at hi
   subst hi
   have := List.all_eq_true.1 h.1 e he
   simp only [hb, Bool.not_true, Bool.false_or] at this
   simpa [Nat.blt_eq] using this
  |succ i =>
   simp at hi
   have := backFrom_at h.2 hi e he hb
   omega
def dsts (l : List Oper) : List Nat := l.filterMap (·.dst)
def nodupB : List Nat → Bool
 |[] => true
 |a :: l => !(l.contains a) && nodupB l
theorem nodupB_iff : ∀ {l : List Nat}, nodupB l = true → l.Nodup
 |[], _ => List.nodup_nil
 |a :: l, h => by
  simp [nodupB] at h
  exact List.nodup_cons.2 ⟨by simpa using h.1, nodupB_iff h.2⟩
def Numbered (all : List POp) (n : Nat) (done : List (Nat × POp)) : Prop := ∀ j p, getP done j = some p → j < n ∧ all[j]? = some p
theorem getP_cons {l : List (Nat × POp)} {n j : Nat} {p q : POp} (h : getP ((n, p) :: l) j = some q) : (n = j ∧ p = q) ∨ getP l j = some q := by
 simp only [getP] at h
 split at h
 ·rename_i hb
  simp at h
  exact .inl ⟨Nat.eq_of_beq_eq_true hb, h⟩
 ·exact .inr h
theorem PRun.out {L : List Oper} {K : Env → Prop} : ∀ {l : List Oper} {n : Nat} {done : List (Nat × POp)} {acc : Env} {pre : List POp}, pre.length = n → Numbered pre n done → acc = (pre.map fun o => (o.dst, o.t)).reverse ++ env → PRun P Γ cs L env K n done acc l →
  ∃ all : List POp, pre <+: all ∧ (all.drop n).map POp.oper = l ∧ K ((all.map fun o => (o.dst, o.t)).reverse ++ env) ∧
   ∀ i, n ≤ i → ∀ o, all[i]? = some o → ∃ done, Numbered all i done ∧ PStep P Γ cs (others i 0 L) env done o
 |[], n, done, acc, pre, hn, _, hacc, h => ⟨pre, List.prefix_refl _, by rw [← hn]; simp, by rw [← hacc]; exact h, fun i hi o ho => by rw [List.getElem?_eq_none (by omega)] at ho; cases ho⟩
 |o :: l, n, done, acc, pre, hn, hd, hacc, ⟨p, hp, hv, hk⟩ => by
  have hd' : Numbered (pre ++ [p]) (n + 1) ((n, p) :: done) := by
   intro j q hq
   rcases getP_cons hq with ⟨rfl, rfl⟩ | hq
   ·exact ⟨by omega, by rw [List.getElem?_append_right (by omega)]; simp [hn]⟩
   ·obtain ⟨h1, h2⟩ := hd j q hq
    exact ⟨by omega, by rw [List.getElem?_append_left (by omega)]; exact h2⟩
  obtain ⟨all, h1, h2, h3, h4⟩ := PRun.out (pre := pre ++ [p]) (by simp [hn]) hd' (by rw [hacc]; simp) hk
  have hat : all[n]? = some p := by
   obtain ⟨r, rfl⟩ := h1
   rw [List.getElem?_append_left (by simp; omega), List.getElem?_append_right (by omega)]
   simp [hn]
  have hlt : n < all.length := (List.getElem?_eq_some_iff.1 hat).1
  refine ⟨all, (List.prefix_append pre [p]).trans h1, ?_, h3, ?_⟩
  ·rw [List.drop_eq_getElem_cons hlt, List.map_cons, h2]
   have : all[n] = p := (List.getElem?_eq_some_iff.1 hat).2
   rw [this, hp]
  ·intro i hi q hq
   by_cases e : i = n
   ·subst e
    rw [hat] at hq
    cases hq
    refine ⟨done, ?_, hv⟩
    intro j r hr
    obtain ⟨g1, g2⟩ := hd j r hr
    refine ⟨g1, ?_⟩
    obtain ⟨x, rfl⟩ := (List.prefix_append pre [p]).trans h1
    rw [List.getElem?_append_left (by omega)]
    exact g2
   ·exact h4 i (by omega) q hq
theorem look_app {l1 l2 : Env} {i : Nat} {t : Tr} (h : look (l1 ++ l2) i = some t) : (∃ u, (i, u) ∈ l1 ∧ u = t) ∨ look l2 i = some t := by
 induction l1 with
 |nil => exact .inr h
 |cons p l1 ih =>
  obtain ⟨j, u⟩ := p
  by_cases e : j = i
  ·subst e
   rw [List.cons_append, look_cons_same] at h
   cases h
   exact .inl ⟨_, by simp, rfl⟩
  ·rw [List.cons_append, look_cons_ne _ _ e] at h
   rcases ih h with ⟨v, hv, e2⟩ | h
   ·exact .inl ⟨v, by simp [hv], e2⟩
   ·exact .inr h
theorem look_anyOf : ∀ {ds : List Nat} {env : Env} {i : Nat} {t : Tr}, look (anyOf ds env) i = some t → t = Tr.any ∨ (look env i = some t ∧ i ∉ ds)
 |[], env, i, t, h => .inr ⟨h, by simp⟩
 |d :: ds, env, i, t, h => by
  by_cases e : d = i
  ·subst e
   rw [anyOf, look_cons_same] at h
   cases h
   exact .inl rfl
  ·rw [anyOf, look_cons_ne _ _ e] at h
   rcases look_anyOf h with h | ⟨h1, h2⟩
   ·exact .inl h
   ·exact .inr ⟨h1, by simp only [List.mem_cons, not_or]; exact ⟨fun h => e h.symm, h2⟩⟩
theorem look_predB {done : List (Nat × POp)} : ∀ {l : List Edge} {env : Env} {i : Nat} {t : Tr}, look (predB done l env) i = some t → (∃ x ∈ l, Region.binds .any x = true ∧ ∃ o, getP done x.on = some o ∧ o.dst = i ∧ o.t = t) ∨ look env i = some t
 |[], env, i, t, h => .inr h
 |x :: l, env, i, t, h => by
  have go : ∀ {h : look (predB done l env) i = some t}, (∃ y ∈ x :: l, Region.binds .any y = true ∧ ∃ o, getP done y.on = some o ∧ o.dst = i ∧ o.t = t) ∨ look env i = some t := fun {h} => by
   rcases look_predB h with ⟨y, hy, r⟩ | h
   ·exact .inl ⟨y, List.mem_cons_of_mem _ hy, r⟩
   ·exact .inr h
  cases hb : Region.binds .any x with
  |false =>
   simp only [predB, hb] at h
   exact go (h := h)
  |true =>
   cases hg : getP done x.on with
   |none =>
    simp only [predB, hb, hg] at h
    exact go (h := h)
   |some o =>
    simp only [predB, hb, hg] at h
    by_cases e : o.dst = i
    ·subst e
     rw [look_cons_same] at h
     cases h
     exact .inl ⟨x, by simp, hb, o, hg, rfl, rfl⟩
    ·rw [look_cons_ne _ _ e] at h
     exact go (h := h)
structure Mid (P : Program) (Γ : Ctx) (cs : List Chunk) (env : Env) (all : List POp) (tot : Nat) (listed : Array Bool) (a : Act) (w : World) : Prop where
 den : Den Γ [] cs a w
 size : listed.size = tot
 keep : ∀ s t, look env s = some t → (∀ (k : Nat) o, all[k]? = some o → o.dst = s → listed[k]? ≠ some true) → t.rd w (av Γ.M cs) (a.tmps.getD s undef)
 done : ∀ (i : Nat) o, listed[i]? = some true → all[i]? = some o → o.t.rd w (av Γ.M cs) (a.tmps.getD o.dst undef)
 closed : ∀ (k : Nat) o, listed[k]? = some true → all[k]? = some o → ∀ j ∈ preds o.af, listed[j]? = some true
 tail : ∀ k : Nat, all.length ≤ k → listed[k]? ≠ some true
theorem filter_set (L : List Bool) : ∀ (i : Nat), L[i]? = some false → ((L.set i true).filter (! ·)).length + 1 = (L.filter (! ·)).length := by
 induction L with
 |nil => intro i h; simp at h
 |cons b L ihL =>
  intro i h
  cases i with
  |zero => simp at h; subst h; simp
  |succ i =>
   simp at h
   have := ihL i h
   cases b <;> simp <;> omega
theorem nodup_get {α : Type} : ∀ {l : List α}, l.Nodup → ∀ {i j : Nat} {x : α}, l[i]? = some x → l[j]? = some x → i = j
 |[], _, i, j, x, h, _ => by simp at h
 |a :: l, hn, i, j, x, hi, hj => by
  obtain ⟨h1, h2⟩ := List.nodup_cons.1 hn
  cases i with
  |zero =>
   cases j with
   |zero => rfl
   |succ j =>
    simp at hi hj
    subst hi
    exact absurd (List.mem_of_getElem? hj) h1
  |succ i =>
   cases j with
   |zero =>
    simp at hi hj
    subst hj
    exact absurd (List.mem_of_getElem? hi) h1
   |succ j =>
    simp at hi hj
    rw [nodup_get h2 hi hj]
def isPure (o : Oper) : Bool := match o.op with
 | .move _ | .assign _ | .pick .. | .load .. | .nilCheck _ | .binOp .. | .unOp .. | .convert .. | .fieldAddr .. | .field .. | .indexAddr .. | .index .. | .extract .. | .build .. | .slice .. | .makeFunc .. => o.dst.isSome
 | .call ⟨.builtin b, _, _⟩ => match b with
  | .len | .min | .max => o.dst.isSome
  |_ => false
 |_ => false
def isPureC (o : Oper) : Bool := match o.op with
 | .call ⟨.value _, _, _⟩ => o.dst.isSome
 | .buildSlice .. => o.dst.isSome
 |_ => isPure o
def pureLen : List Oper → Nat
 |[] => 0
 |o :: l => match isPure o with
  |true => pureLen l + 1
  |false => 0
def pureLenC : List Oper → Nat
 |[] => 0
 |o :: l => match isPureC o with
  |true => pureLenC l + 1
  |false => 0
theorem pureLenC_le : ∀ l : List Oper, pureLenC l ≤ l.length
 |[] => Nat.le_refl _
 |o :: l => by
  have := pureLenC_le l
  unfold pureLenC
  split <;> simp <;> omega
def tailFrom : Nat → List Oper → Bool
 |_, [] => true
 |k, o :: l => (match o.guard with | none => true | some _ => false) && (preds o.after).contains (k - 1) && tailFrom (k + 1) l
def cloFrom (l : List Oper) : Nat → List Nat → List Nat
 |0, S => S
 |i + 1, S => cloFrom l i (match S.contains i with | true => S ++ (match l[i]? with | some o => preds o.after | none => []) | false => S)
def tailOk (l : List Oper) (m : Nat) : Bool := match l.drop m with
 |[] => true
 |o :: r => (match o.guard with | none => true | some _ => false) && ((List.range m).all fun i => (cloFrom l m (preds o.after)).contains i) && tailFrom (m + 1) r
theorem cloFrom_listed {l : List Oper} {R : Nat → Prop} : ∀ {n : Nat} {S : List Nat}, (∀ i ∈ S, R i) → (∀ k o, k < n → R k → l[k]? = some o → ∀ j ∈ preds o.after, R j) → ∀ i ∈ cloFrom l n S, R i
 |0, S, h, _ => h
 |n + 1, S, h, hc => by
  unfold cloFrom
  apply cloFrom_listed
  ·split
   ·rename_i hn
    intro i hi
    rcases List.mem_append.1 hi with hi | hi
    ·exact h i hi
    ·split at hi
     ·rename_i o ho
      exact hc n o (by omega) (h n (by simpa using hn)) ho i hi
     ·cases hi
   ·exact h
  ·intro k o hk
   exact hc k o (by omega)
theorem others_spec {i : Nat} : ∀ {l : List Oper} {k j : Nat} {o : Oper} {d : Nat}, l[j]? = some o → o.dst = some d → d ∉ others i k l → k + j = i ∨ i ∈ preds o.after
 |[], k, j, o, d, h, _, _ => by simp at h
 |p :: l, k, j, o, d, h, hd, hn => by
  cases j with
  |zero =>
   simp at h
   subst h
   simp only [others, hd] at hn
   split at hn
   ·rename_i hb
    simp only [Bool.or_eq_true, List.contains_iff_mem] at hb
    rcases hb with hb | hb
    ·exact .inl (by have := Nat.eq_of_beq_eq_true hb; omega)
    ·exact .inr hb
   ·simp at hn
  |succ j =>
   simp at h
   have : d ∉ others i (k + 1) l := by
    intro hm
    apply hn
    simp only [others]
    split
    ·exact hm
    ·split
     ·exact hm
     ·exact List.mem_cons_of_mem _ hm
   rcases others_spec h hd this with h | h
   ·exact .inl (by omega)
   ·exact .inr h
theorem guard_none {o : Oper} (h : (match o.guard with | none => true | some _ => false) = true) : o.guard = none := by
 cases hg : o.guard with
 |none => rfl
 |some g => rw [hg] at h; simp at h
theorem tailFrom_at : ∀ {l : List Oper} {k j : Nat} {o : Oper}, tailFrom k l = true → l[j]? = some o → o.guard = none ∧ k + j - 1 ∈ preds o.after
 |[], k, j, o, _, h => by simp at h
 |p :: l, k, j, o, ht, h => by
  simp only [tailFrom, Bool.and_eq_true] at ht
  obtain ⟨⟨h1, h2⟩, h3⟩ := ht
  cases j with
  |zero =>
   simp at h
   subst h
   exact ⟨guard_none h1, by simpa using h2⟩
  |succ j =>
   simp at h
   obtain ⟨g1, g2⟩ := tailFrom_at h3 h
   exact ⟨g1, by rwa [show k + (j + 1) - 1 = k + 1 + j - 1 by omega]⟩
theorem tailOk_at {l : List Oper} {m j : Nat} {o : Oper} (ht : tailOk l m = true) (h : (l.drop m)[j]? = some o) : o.guard = none ∧ (0 < j → m + j - 1 ∈ preds o.after) ∧ (j = 0 → ∀ i, i < m → i ∈ cloFrom l m (preds o.after)) := by
 unfold tailOk at ht
 cases hl : l.drop m with
 |nil => rw [hl] at h; simp at h
 |cons p r =>
  rw [hl] at ht h
  simp only [Bool.and_eq_true] at ht
  obtain ⟨⟨h1, h2⟩, h3⟩ := ht
  cases j with
  |zero =>
   simp at h
   subst h
   refine ⟨guard_none h1, fun h => absurd h (by omega), fun _ i hi => ?_⟩
   have := List.all_eq_true.1 h2 i (by simp; omega)
   simpa using this
  |succ j =>
   simp at h
   obtain ⟨g1, g2⟩ := tailFrom_at h3 h
   exact ⟨g1, fun _ => by rwa [show m + (j + 1) - 1 = m + 1 + j - 1 by omega], fun h => absurd h (by omega)⟩
theorem mem_ready {l : List Oper} {listed : Array Bool} {i : Nat} : i ∈ Region.ready .any l.toArray listed ↔ ∃ o, l[i]? = some o ∧ listed.getD i true = false ∧ ∀ j ∈ preds o.after, listed.getD j false = true := by
 simp only [Region.ready, List.mem_filter, List.mem_range, Bool.and_eq_true, Bool.not_eq_true', List.size_toArray, List.getElem?_toArray]
 constructor
 ·rintro ⟨h1, h2, h3⟩
  rw [List.getElem?_eq_getElem h1] at h3
  refine ⟨_, List.getElem?_eq_getElem h1, h2, ?_⟩
  intro j hj
  simp only [preds, List.mem_filterMap, Option.ite_none_right_eq_some, Option.some.injEq] at hj
  obtain ⟨e, he, hbd, rfl⟩ := hj
  simp only [Option.map_some, Option.getD_some] at h3
  have := Array.all_eq_true_iff_forall_mem.1 h3 e (by simpa using he)
  simpa [hbd] using this
 ·rintro ⟨o, ho, h2, h3⟩
  have hlt := (List.getElem?_eq_some_iff.1 ho).1
  refine ⟨hlt, h2, ?_⟩
  rw [ho]
  simp only [Option.map_some, Option.getD_some]
  rw [Array.all_eq_true_iff_forall_mem]
  intro e he
  by_cases hbd : Region.binds .any e = true
  ·have := h3 e.on (by simp only [preds, List.mem_filterMap, Option.ite_none_right_eq_some, Option.some.injEq]; exact ⟨e, by simpa using he, hbd, rfl⟩)
   simp [this]
  ·simp [hbd]
theorem tail_any {l : List Oper} {F : Exit → Act → World → Prop} : ∀ (lt : List Oper) (k : Nat) (fuel : Nat) (listed : Array Bool) (a : Act) (w : World), (∀ j, lt[j]? = l[k + j]?) → (∀ j o, lt[j]? = some o → o.guard = none ∧ (0 < j → k + j - 1 ∈ preds o.after) ∧ ∀ i ∈ preds o.after, i < k + j) →
  listed.size = l.length → (∀ i, i < k → listed[i]? = some true) → (∀ i, k ≤ i → i < l.length → listed[i]? = some false) → k + lt.length = l.length → lt.length ≤ fuel → wpListIn (fen Γ) 9 P l.toArray F lt a w → wpAnyIn (fen Γ) 9 P .any l.toArray F fuel listed a w := by
 intro lt
 induction lt with
 |nil =>
  intro k fuel listed a w hl hd hs h1 h2 hk hf hw
  have hr : Region.ready .any l.toArray listed = [] := by
   apply List.eq_nil_iff_forall_not_mem.2
   intro i hi
   obtain ⟨o, ho, hl2, _⟩ := mem_ready.1 hi
   have hlt := (List.getElem?_eq_some_iff.1 ho).1
   have := h1 i (by simp at hk; omega)
   rw [Array.getD_eq_getD_getElem?, this] at hl2
   simp at hl2
  cases fuel with
  |zero => exact ⟨hr, hw⟩
  |succ fuel => exact ⟨fun _ => hw, fun i hi => by rw [hr] at hi; cases hi⟩
 |cons o lt ih =>
  intro k fuel listed a w hl hd hs h1 h2 hk hf hw
  cases fuel with
  |zero => simp at hf
  |succ fuel =>
   have ho : l[k]? = some o := by have := hl 0; simpa using this.symm
   have hkl : k < l.length := (List.getElem?_eq_some_iff.1 ho).1
   obtain ⟨hg, hpre, hpost⟩ := hd 0 o (by simp)
   refine ⟨fun hr => ?_, ?_⟩
   ·exfalso
    have : k ∈ Region.ready .any l.toArray listed := by
     refine mem_ready.2 ⟨o, ho, ?_, ?_⟩
     ·rw [Array.getD_eq_getD_getElem?, h2 k (Nat.le_refl _) hkl]; rfl
     ·intro j hj
      have := hpost j hj
      rw [Array.getD_eq_getD_getElem?, h1 j (by omega)]; rfl
    rw [hr] at this
    cases this
   ·intro i hi
    obtain ⟨o', ho', hl2, hp2⟩ := mem_ready.1 hi
    have hil := (List.getElem?_eq_some_iff.1 ho').1
    have hik : i = k := by
     rcases Nat.lt_trichotomy i k with h | h | h
     ·rw [Array.getD_eq_getD_getElem?, h1 i h] at hl2; simp at hl2
     ·exact h
     ·exfalso
      have hoi : (o :: lt)[i - k]? = some o' := by rw [hl, show k + (i - k) = i by omega]; exact ho'
      have := hp2 (k + (i - k) - 1) ((hd (i - k) o' hoi).2.1 (by omega))
      rw [Array.getD_eq_getD_getElem?, h2 _ (by omega) (by omega)] at this
      simp at this
    subst hik
    unfold wpListIn at hw
    rw [if_pos (by simp [Region.wanted, hg])] at hw
    unfold wpOpIn
    simp only [List.getElem?_toArray, ho]
    rw [if_pos (by simp [Region.wanted, hg])]
    refine Oper.wpIn_mono (fun a' w' hw' => ?_) hw
    refine ih (i + 1) fuel _ a' w' (fun j => by have := hl (j + 1); simpa [Nat.add_assoc, Nat.add_comm 1 j] using this) (fun j o h => by obtain ⟨g1, g2, g3⟩ := hd (j + 1) o (by simpa using h); exact ⟨g1, fun hq => by have := g2 (by omega); rwa [show i + (j + 1) - 1 = i + 1 + j - 1 by omega] at this, fun q hq => by have := g3 q hq; omega⟩) (by simpa using hs) ?_ ?_ (by simp at hk; omega) (by simp at hf; omega) hw'
    ·intro j hj
     by_cases e : i = j
     ·subst e
      rw [Array.getElem?_setIfInBounds_self]
      simp [hs, hkl]
     ·rw [Array.getElem?_setIfInBounds_ne e]
      exact h1 j (by omega)
    ·intro j hj hjl
     rw [Array.getElem?_setIfInBounds_ne (by omega)]
     exact h2 j (by omega) hjl
theorem pureLen_le : ∀ l : List Oper, pureLen l ≤ l.length
 |[] => Nat.le_refl _
 |o :: l => by
  have := pureLen_le l
  unfold pureLen
  split <;> simp <;> omega
theorem mem_preds {af : Array Edge} {j : Nat} : j ∈ preds af ↔ ∃ e ∈ af.toList, Region.binds .any e = true ∧ e.on = j := by
 simp only [preds, List.mem_filterMap, Option.ite_none_right_eq_some, Option.some.injEq]
theorem Cw.region_at {id m : Nat} {l : List Oper} {env : Env} (hml : m ≤ l.length) (hm : P.follows .mixedOrders = true) (hb : backOk l = true) (hnd : nodupB (dsts (l.take m)) = true) (hlt : (dsts (l.take m)).all (Nat.blt · Γ.n) = true) (htl : tailOk l m = true)
  (h : PRun P Γ cs l env (fun acc => Ops P Γ l.toArray (l.drop m) acc cs Q) 0 [] env (l.take m)) : Cw P Γ (.region id l.toArray true) env cs Q := by
 intro a w d
 obtain ⟨all, h1, h2, h3, h4⟩ := PRun.out (pre := []) rfl (fun j p h => by simp [getP] at h) rfl h
 replace h2 : all.map POp.oper = l.take m := by simpa using h2
 replace h4 := fun (i : Nat) => h4 i (Nat.zero_le i)
 have hal : all.length = m := by
  have := congrArg List.length h2
  simp at this
  omega
 have hget : ∀ (i : Nat) o, all[i]? = some o → l[i]? = some o.oper := fun i o ho => by
  have hi := (List.getElem?_eq_some_iff.1 ho).1
  have : (all.map POp.oper)[i]? = some o.oper := by simp [ho]
  rw [h2, List.getElem?_take] at this
  split at this
  ·exact this
  ·cases this
 have hdst : dsts (l.take m) = all.map (·.dst) := by
  rw [← h2]
  simp only [dsts, List.filterMap_map]
  clear h1 h2 h3 h4 hget hal
  induction all with
  |nil => rfl
  |cons o all ih => simp [POp.oper]; exact ih
 have hnodup := nodupB_iff hnd
 rw [hdst] at hnodup
 have hltn : ∀ o ∈ all, o.dst < Γ.n := fun o ho => by
  rw [hdst] at hlt
  have := List.all_eq_true.1 hlt o.dst (List.mem_map_of_mem ho)
  simpa [Nat.blt_eq] using this
 have hback : ∀ (i : Nat) o, l[i]? = some o → ∀ j ∈ preds o.after, j < i := by
  intro i o ho j hj
  obtain ⟨e, he, hbd, rfl⟩ := mem_preds.1 hj
  have := backFrom_at (k := 0) (i := i) (o := o) hb ho e he hbd
  omega
 have htail : ∀ (j : Nat) o, (l.drop m)[j]? = some o → o.guard = none ∧ (0 < j → m + j - 1 ∈ preds o.after) ∧ ∀ i ∈ preds o.after, i < m + j := by
  intro j o ho
  obtain ⟨g1, g2, _⟩ := tailOk_at htl ho
  exact ⟨g1, g2, hback (m + j) o (by simpa using ho)⟩
 -- when all of the first part are done
 have fin : ∀ (fuel : Nat) (listed : Array Bool) (a : Act) (w : World), Mid P Γ cs env all l.length listed a w → (∀ i, i < m → listed[i]? = some true) → l.length - m ≤ fuel → wpAnyIn (fen Γ) 9 P .any l.toArray (Lift Γ Q) fuel listed a w := by
  intro fuel listed a w hmid hall hf
  refine tail_any (l.drop m) m fuel listed a w (fun j => by simp) htail hmid.size hall ?_ (by simp; omega) (by simpa using hf) ?_
  ·intro i hi hil
   have hne := hmid.tail i (by omega)
   have hsz := hmid.size
   cases hc : listed[i]? with
   |none => rw [Array.getElem?_eq_none_iff] at hc; omega
   |some b => cases b with
    |false => rfl
    |true => exact absurd hc hne
  ·refine h3 a w ?_
   have dd := hmid.den
   refine ⟨dd.nodefer, dd.tmps, ?_, dd.chunks, dd.nodup, dd.fresh, dd.below, dd.frame⟩
   intro i t hlk
   by_cases hin : i ∈ all.map (·.dst)
   ·have : ∀ L : List POp, (∀ o ∈ L, ∃ j : Nat, all[j]? = some o) → i ∈ L.map (·.dst) → look ((L.map fun o => (o.dst, o.t)) ++ env) i = some t → ∃ (j : Nat) (o : POp), all[j]? = some o ∧ o.dst = i ∧ o.t = t := by
     intro L
     induction L with
     |nil => intro _ h; simp at h
     |cons o L ihL =>
      intro hL hm hlk
      by_cases e : o.dst = i
      ·rw [List.map_cons, List.cons_append, ← e, look_cons_same] at hlk
       cases hlk
       obtain ⟨j, hj⟩ := hL o (by simp)
       exact ⟨j, o, hj, e, rfl⟩
      ·rw [List.map_cons, List.cons_append, look_cons_ne _ _ e] at hlk
       refine ihL (fun o ho => hL o (by simp [ho])) ?_ hlk
       simp only [List.map_cons, List.mem_cons] at hm
       rcases hm with hm | hm
       ·exact absurd hm.symm e
       ·exact hm
    rw [← List.map_reverse] at hlk
    obtain ⟨j, o, hj, rfl, rfl⟩ := this all.reverse (fun o ho => List.getElem?_of_mem (List.mem_reverse.1 ho)) (by simpa using hin) hlk
    exact hmid.done j o (hall j (by have := (List.getElem?_eq_some_iff.1 hj).1; omega)) hj
   ·rcases look_app hlk with ⟨u, hu, rfl⟩ | hlk
    ·exfalso
     rw [List.mem_reverse, List.mem_map] at hu
     obtain ⟨o, ho, e⟩ := hu
     simp only [Prod.mk.injEq] at e
     exact hin (by rw [← e.1]; exact List.mem_map_of_mem ho)
    ·refine hmid.keep i t hlk ?_
     intro k o ho e
     exact absurd (by rw [← e]; exact List.mem_map_of_mem (List.mem_of_getElem? ho)) hin
 have main : ∀ (fuel : Nat) (listed : Array Bool) (a : Act) (w : World), Mid P Γ cs env all l.length listed a w → (listed.toList.filter (! ·)).length ≤ fuel → l.length - m ≤ (listed.toList.filter (! ·)).length → wpAnyIn (fen Γ) 9 P .any l.toArray (Lift Γ Q) fuel listed a w := by
  intro fuel
  induction fuel with
  |zero =>
   intro listed a w hmid hf hf2
   have hall : ∀ i, i < m → listed[i]? = some true := by
    intro i hi
    have hli : i < listed.size := by rw [hmid.size]; omega
    cases hc : listed[i]'hli with
    |true => rw [Array.getElem?_eq_getElem hli, hc]
    |false =>
     exfalso
     have : false ∈ listed.toList.filter (! ·) := List.mem_filter.2 ⟨by rw [← hc]; simp, rfl⟩
     have := List.length_pos_of_mem this
     omega
   exact fin 0 listed a w hmid hall (by omega)
  |succ fuel ih =>
   intro listed a w hmid hf hf2
   by_cases hall : ∀ i, i < m → listed[i]? = some true
   ·exact fin (fuel + 1) listed a w hmid hall (by omega)
   have hsome : ∃ i, i < m ∧ listed[i]? = some false ∧ ∀ j, j < i → listed[j]? = some true := by
    have : ∀ n, n ≤ m → (∀ j, j < n → listed[j]? = some true) ∨ ∃ i, i < m ∧ listed[i]? = some false ∧ ∀ j, j < i → listed[j]? = some true := by
     intro n
     induction n with
     |zero => intro _; exact .inl (fun j hj => by omega)
     |succ n ihn =>
      intro hn
      rcases ihn (by omega) with h | h
      ·have hli : n < listed.size := by rw [hmid.size]; omega
       cases hc : listed[n]'hli with
       |true =>
        refine .inl fun j hj => ?_
        by_cases e : j = n
        ·subst e; rw [Array.getElem?_eq_getElem hli, hc]
        ·exact h j (by omega)
       |false => exact .inr ⟨n, by omega, by rw [Array.getElem?_eq_getElem hli, hc], h⟩
      ·exact .inr h
    rcases this m (Nat.le_refl _) with h | h
    ·exact absurd h hall
    ·exact h
   obtain ⟨i0, hi0, hl0, hp0⟩ := hsome
   refine ⟨fun hr => ?_, ?_⟩
   ·exfalso
    have : i0 ∈ Region.ready .any l.toArray listed := by
     refine mem_ready.2 ⟨_, List.getElem?_eq_getElem (by omega), ?_, ?_⟩
     ·rw [Array.getD_eq_getD_getElem?, hl0]; rfl
     ·intro j hj
      rw [Array.getD_eq_getD_getElem?, hp0 j (hback i0 _ (List.getElem?_eq_getElem (by omega)) j hj)]; rfl
    rw [hr] at this
    cases this
   intro i hi
   obtain ⟨oi, hoi, hl2, hp2⟩ := mem_ready.1 hi
   have hil := (List.getElem?_eq_some_iff.1 hoi).1
   have hia : i < m := by
    rcases Nat.lt_or_ge i m with h | h
    ·exact h
    ·exfalso
     have hoi' : (l.drop m)[i - m]? = some oi := by rw [List.getElem?_drop, show m + (i - m) = i by omega]; exact hoi
     have hlst : ∀ j ∈ preds oi.after, listed[j]? = some true := by
      intro j hj
      have := hp2 j hj
      rw [Array.getD_eq_getD_getElem?] at this
      cases hl : listed[j]? with
      |none => rw [hl] at this; simp at this
      |some b => rw [hl] at this; simp at this; rw [this]
     obtain ⟨_, g2, g3⟩ := tailOk_at htl hoi'
     by_cases him : i = m
     ·have hcl : ∀ q ∈ cloFrom l m (preds oi.after), listed[q]? = some true := cloFrom_listed (R := fun q => listed[q]? = some true) hlst (fun k o hk hR hlk j hj => by
       have hka : k < all.length := by omega
       have hko : all[k]? = some all[k] := List.getElem?_eq_getElem hka
       have hke := hget k _ hko
       rw [hlk] at hke
       cases hke
       exact hmid.closed k all[k] hR hko j hj)
      have := hcl i0 (g3 (by omega) i0 hi0)
      rw [hl0] at this
      cases this
     ·exact hmid.tail (m + (i - m) - 1) (by omega) (hlst _ (g2 (by omega)))
   have hia' : i < all.length := by omega
   have ho : all[i]? = some all[i] := List.getElem?_eq_getElem hia'
   have hli : i < listed.size := by rw [hmid.size]; omega
   have hc : listed[i]'hli = false := by simpa [hli] using hl2
   have hoe := hget i _ ho
   rw [hoi] at hoe
   cases hoe
   obtain ⟨done, hnum, hov⟩ := h4 i all[i] ho
   have hpred : ∀ j ∈ preds (all[i]).af, listed[j]? = some true := by
    intro j hj
    have := hp2 j hj
    rw [Array.getD_eq_getD_getElem?] at this
    cases hl : listed[j]? with
    |none => rw [hl] at this; simp at this
    |some b => rw [hl] at this; simp at this; rw [this]
   have hden : Den Γ (envAt done (all[i]).af (others i 0 l) env) cs a w := by
    have dd := hmid.den
    refine ⟨dd.nodefer, dd.tmps, ?_, dd.chunks, dd.nodup, dd.fresh, dd.below, dd.frame⟩
    intro q t hlk
    rcases look_predB hlk with ⟨x, hx, hbd, o, hoj, rfl, rfl⟩ | hlk
    ·obtain ⟨_, hoj'⟩ := hnum _ _ hoj
     exact hmid.done x.on o (hpred x.on (mem_preds.2 ⟨x, hx, hbd, rfl⟩)) hoj'
    ·rcases look_anyOf hlk with rfl | ⟨h5, h6⟩
     ·trivial
     ·refine hmid.keep q t h5 ?_
      intro k o hok hd hlk2
      rcases others_spec (hget k o hok) (d := q) (by simp [POp.oper, hd]) h6 with h | h
      ·have : k = i := by omega
       subst this
       rw [Array.getElem?_eq_getElem hli, hc] at hlk2
       simp at hlk2
      ·have := hmid.closed k o hlk2 hok i h
       rw [Array.getElem?_eq_getElem hli, hc] at this
       simp at this
   have hop : l.toArray[i]? = some (all[i]).oper := by simpa using hoi
   have hin : all[i] ∈ all := List.getElem_mem hia'
   have hyield : ∀ (j : Nat) (q : POp) (c : Bool), j ∈ preds (all[i]).af → getP done j = some q → q.t = Tr.bool c → yielded l.toArray a.tmps j = some c := by
    intro j q c hj hq hc
    obtain ⟨_, hqj⟩ := hnum _ _ hq
    have hval := hmid.done j q (hpred j hj) hqj
    rw [hc] at hval
    have hval' : a.tmps.getD q.dst undef = .bool c := hval
    have hs : q.dst < a.tmps.size := by rw [hmid.den.tmps]; exact hltn _ (List.mem_of_getElem? hqj)
    unfold yielded
    rw [List.getElem?_toArray, hget j q hqj]
    rw [Array.getD_eq_getD_getElem?, Array.getElem?_eq_getElem hs] at hval'
    simp only [Option.getD_some] at hval'
    simp [POp.oper, hs, hval']
   have hyieldU : ∀ (j : Nat) (q : POp), j ∈ preds (all[i]).af → getP done j = some q → q.t = Tr.raw undef → yielded l.toArray a.tmps j = none := by
    intro j q hj hq hc
    obtain ⟨_, hqj⟩ := hnum _ _ hq
    have hval := hmid.done j q (hpred j hj) hqj
    rw [hc] at hval
    have hval' : a.tmps.getD q.dst undef = undef := hval
    have hs : q.dst < a.tmps.size := by rw [hmid.den.tmps]; exact hltn _ (List.mem_of_getElem? hqj)
    unfold yielded
    rw [List.getElem?_toArray, hget j q hqj]
    rw [Array.getD_eq_getD_getElem?, Array.getElem?_eq_getElem hs] at hval'
    simp only [Option.getD_some] at hval'
    simp [POp.oper, hs, hval', undef]
   have hgoal : (∀ v w', (all[i]).t.rd w' (av Γ.M cs) v → (∀ env2, Den Γ env2 cs a w → Den Γ env2 cs a w') → wpAnyIn (fen Γ) 9 P .any l.toArray (Lift Γ Q) fuel (listed.setIfInBounds i true) (a.put (all[i]).oper.dst v) w') → wpOpIn (fen Γ) 9 P l.toArray (Lift Γ Q) i (wpAnyIn (fen Γ) 9 P .any l.toArray (Lift Γ Q) fuel (listed.setIfInBounds i true)) a w := by
    intro hk
    unfold wpOpIn
    simp only [hop]
    rcases hov with ⟨hg, hv⟩ | ⟨hg, ht⟩
    ·have hw : Region.wanted (all[i]).oper (yielded l.toArray a.tmps) = true := by
      unfold GOk at hg
      unfold Region.wanted
      cases hgd : (all[i]).g with
      |none => simp [POp.oper, hgd]
      |some jb =>
       obtain ⟨j, b⟩ := jb
       rw [hgd] at hg
       obtain ⟨h1, q, h2, h3⟩ := hg
       simp [POp.oper, hgd, hyield j q b h1 h2 h3]
     rw [if_pos hw]
     exact hv a w hden (all[i]).dst (all[i]).pos (all[i]).af (all[i]).g _ _ hk
    ·have hw : Region.wanted (all[i]).oper (yielded l.toArray a.tmps) = false := by
      unfold GNo at hg
      unfold Region.wanted
      cases hgd : (all[i]).g with
      |none => rw [hgd] at hg; exact hg.elim
      |some jb =>
       obtain ⟨j, b⟩ := jb
       rw [hgd] at hg
       obtain ⟨h1, q, h2, h3⟩ := hg
       rcases h3 with h3 | h3
       ·simp [POp.oper, hgd, hyield j q (!b) h1 h2 h3]
       ·simp [POp.oper, hgd, hyieldU j q h1 h2 h3]
     rw [if_neg (by simp [hw])]
     exact ⟨fun _ _ => trivial, hk undef w (by rw [ht]; rfl) fun _ h => h⟩
   have hfact : ∀ {w' : World}, (∀ env2, Den Γ env2 cs a w → Den Γ env2 cs a w') → ∀ {s : Nat} {t : Tr}, t.rd w (av Γ.M cs) (a.tmps.getD s undef) → t.rd w' (av Γ.M cs) (a.tmps.getD s undef) := by
    intro w' hp s t ht
    have dd := hmid.den
    have d1 : Den Γ [(s, t)] cs a w := ⟨dd.nodefer, dd.tmps, fun i u hl => by
     by_cases e : s = i
     ·subst e; rw [look_cons_same] at hl; cases hl; exact ht
     ·rw [look_cons_ne _ _ e] at hl; simp [look] at hl, dd.chunks, dd.nodup, dd.fresh, dd.below, dd.frame⟩
    exact (hp _ d1).env s t (look_cons_same _ _ _)
   have hset : ∀ j : Nat, (listed.setIfInBounds i true)[j]? = some true → j = i ∨ listed[j]? = some true := by
    intro j hj
    by_cases e : i = j
    ·exact .inl e.symm
    ·rw [Array.getElem?_setIfInBounds_ne e] at hj
     exact .inr hj
   have hset2 : ∀ j : Nat, listed[j]? = some true → (listed.setIfInBounds i true)[j]? = some true := by
    intro j hj
    by_cases e : i = j
    ·subst e
     rw [Array.getElem?_setIfInBounds_self]
     simp [hli]
    ·rw [Array.getElem?_setIfInBounds_ne e]
     exact hj
   have hs : (all[i]).dst < a.tmps.size := by rw [hmid.den.tmps]; exact hltn _ hin
   have hfs := filter_set listed.toList i (by simp [hli, hc])
   have hcnt : l.length - m ≤ ((listed.setIfInBounds i true).toList.filter (! ·)).length := by
    -- those of the second part are not done
    have hm2 : ∀ (L : List Bool) (k : Nat), k ≤ L.length → (∀ j, k ≤ j → L[j]? ≠ some true) → L.length - k ≤ (L.filter (! ·)).length := by
     intro L
     induction L with
     |nil => intro k _ _; simp
     |cons b L ihL =>
      intro k hk hne
      cases k with
      |zero =>
       have hb : b = false := by cases b with | false => rfl | true => exact absurd (by simp) (hne 0 (Nat.le_refl _))
       have := ihL 0 (Nat.zero_le _) (fun j _ => by simpa using hne (j + 1) (Nat.zero_le _))
       subst hb
       simp at this ⊢
       omega
      |succ k =>
       have := ihL k (by simpa using hk) (fun j hj => by simpa using hne (j + 1) (by omega))
       cases b <;> simp <;> omega
    have hsz : (listed.setIfInBounds i true).toList.length = l.length := by simpa using hmid.size
    have := hm2 (listed.setIfInBounds i true).toList m (by omega) (fun j hj hc => by
     rw [Array.getElem?_toList] at hc
     rcases hset j hc with h | h
     ·omega
     ·exact hmid.tail j (by omega) h)
    omega
   refine hgoal fun v w' hrd hpres => ih _ _ _ ⟨?_, by simpa using hmid.size, ?_, ?_, ?_, ?_⟩ ?_ hcnt
   ·have dd := hpres _ hmid.den
    exact ⟨dd.nodefer, by simpa [POp.oper, Act.put] using dd.tmps, fun q t hlk => by simp [look] at hlk, dd.chunks, dd.nodup, dd.fresh, dd.below, dd.frame⟩
   ·intro s t hlk hno
    have hne : (all[i]).dst ≠ s := fun e => hno i _ ho e (by rw [Array.getElem?_setIfInBounds_self]; simp [hli])
    have := hfact hpres (hmid.keep s t hlk (fun k o hok hd hl => hno k o hok hd (hset2 k hl)))
    simpa [POp.oper, Act.put, Array.getElem?_setIfInBounds_ne hne] using this
   ·intro j o hj hoj
    by_cases e : i = j
    ·subst e
     rw [ho] at hoj
     cases hoj
     simpa [POp.oper, Act.put, hs] using hrd
    ·rw [Array.getElem?_setIfInBounds_ne e] at hj
     have hne : (all[i]).dst ≠ o.dst := by
      intro ed
      exact e (nodup_get hnodup (x := o.dst) (by simp [ho, ed]) (by simp [hoj]))
     have := hfact hpres (hmid.done j o hj hoj)
     simpa [POp.oper, Act.put, Array.getElem?_setIfInBounds_ne hne] using this
   ·intro k o hk hok j hj
    refine hset2 j ?_
    rcases hset k hk with rfl | h
    ·rw [ho] at hok
     cases hok
     exact hpred j hj
    ·exact hmid.closed k o h hok j hj
   ·intro k hk h
    rcases hset k h with rfl | h
    ·omega
    ·exact hmid.tail k hk h
   ·rw [Array.toList_setIfInBounds]
    omega
 refine wpIn_region_any hm ?_
 have dd := d.drew
 have hrep : ∀ i : Nat, (Array.replicate l.toArray.size false)[i]? ≠ some true := by
  intro i hi
  rw [Array.getElem?_replicate] at hi
  split at hi <;> simp at hi
 refine main _ _ _ _ ⟨?_, by simp, ?_, ?_, ?_, ?_⟩ ?_ ?_
 ·exact ⟨dd.nodefer, dd.tmps, fun i t hlk => by simp [look] at hlk, dd.chunks, dd.nodup, dd.fresh, dd.below, dd.frame⟩
 ·intro s t hlk _
  exact dd.env s t hlk
 ·intro i o hi _
  exact absurd hi (hrep i)
 ·intro k o hk
  exact absurd hk (hrep k)
 ·intro k _ h
  exact hrep k h
 ·simp
 ·simp
theorem Cw.region_pure {id : Nat} {l : List Oper} {env : Env} (hm : P.follows .mixedOrders = true) (hb : backOk l = true) (hnd : nodupB (dsts (l.take (pureLen l))) = true) (hlt : (dsts (l.take (pureLen l))).all (Nat.blt · Γ.n) = true) (htl : tailOk l (pureLen l) = true)
  (h : PRun P Γ cs l env (fun acc => Ops P Γ l.toArray (l.drop (pureLen l)) acc cs Q) 0 [] env (l.take (pureLen l))) : Cw P Γ (.region id l.toArray true) env cs Q :=
 Cw.region_at (pureLen_le l) hm hb hnd hlt htl h
theorem Cw.region_call {id : Nat} {l : List Oper} {env : Env} (hm : P.follows .mixedOrders = true) (hb : backOk l = true) (hnd : nodupB (dsts (l.take (pureLenC l))) = true) (hlt : (dsts (l.take (pureLenC l))).all (Nat.blt · Γ.n) = true) (htl : tailOk l (pureLenC l) = true)
  (h : PRun P Γ cs l env (fun acc => Ops P Γ l.toArray (l.drop (pureLenC l)) acc cs Q) 0 [] env (l.take (pureLenC l))) : Cw P Γ (.region id l.toArray true) env cs Q :=
 Cw.region_at (pureLenC_le l) hm hb hnd hlt htl h
end draw
section kinds
variable {P : Program} {Γ : Ctx} {env env' : Env} {cs cs' : List Chunk} {Q : Post} {R : Array Oper} {d : Option Tmp} {ty : TypeId} {pos : String} {af : Array Edge} {rest : List Oper} {x y z : Operand} {T T2 : TypeId} {t : Tr}
theorem Ops.k_move  (h : Ops P Γ R (⟨d, Op.move x, ty, pos, af, none⟩ :: rest) env cs Q) : Ops P Γ R (⟨d, Op.move x, ty, pos, af, none⟩ :: rest) env cs Q := h
theorem OpV.k_move  (h : OpV P Γ (Op.move x) ty env cs t) : OpV P Γ (Op.move x) ty env cs t := h
theorem Ops.k_assign  (h : Ops P Γ R (⟨d, Op.assign x, ty, pos, af, none⟩ :: rest) env cs Q) : Ops P Γ R (⟨d, Op.assign x, ty, pos, af, none⟩ :: rest) env cs Q := h
theorem OpV.k_assign  (h : OpV P Γ (Op.assign x) ty env cs t) : OpV P Γ (Op.assign x) ty env cs t := h
theorem Ops.k_pick  (h : Ops P Γ R (⟨d, Op.pick x y z, ty, pos, af, none⟩ :: rest) env cs Q) : Ops P Γ R (⟨d, Op.pick x y z, ty, pos, af, none⟩ :: rest) env cs Q := h
theorem OpV.k_pick  (h : OpV P Γ (Op.pick x y z) ty env cs t) : OpV P Γ (Op.pick x y z) ty env cs t := h
theorem Ops.k_alloc  (h : Ops P Γ R (⟨d, Op.alloc T, ty, pos, af, none⟩ :: rest) env cs Q) : Ops P Γ R (⟨d, Op.alloc T, ty, pos, af, none⟩ :: rest) env cs Q := h
theorem Ops.k_box  (h : Ops P Γ R (⟨d, Op.box T x, ty, pos, af, none⟩ :: rest) env cs Q) : Ops P Γ R (⟨d, Op.box T x, ty, pos, af, none⟩ :: rest) env cs Q := h
theorem Ops.k_build {parts : Array (Nat × Operand)} (h : Ops P Γ R (⟨d, Op.build T parts, ty, pos, af, none⟩ :: rest) env cs Q) : Ops P Γ R (⟨d, Op.build T parts, ty, pos, af, none⟩ :: rest) env cs Q := h
theorem OpV.k_build {parts : Array (Nat × Operand)} (h : OpV P Γ (Op.build T parts) ty env cs t) : OpV P Γ (Op.build T parts) ty env cs t := h
theorem Ops.k_buildSlice {n : Nat} {parts : Array (Nat × Operand)} (h : Ops P Γ R (⟨d, Op.buildSlice T n parts, ty, pos, af, none⟩ :: rest) env cs Q) : Ops P Γ R (⟨d, Op.buildSlice T n parts, ty, pos, af, none⟩ :: rest) env cs Q := h
theorem Ops.k_load  (h : Ops P Γ R (⟨d, Op.load T x, ty, pos, af, none⟩ :: rest) env cs Q) : Ops P Γ R (⟨d, Op.load T x, ty, pos, af, none⟩ :: rest) env cs Q := h
theorem OpV.k_load  (h : OpV P Γ (Op.load T x) ty env cs t) : OpV P Γ (Op.load T x) ty env cs t := h
theorem Ops.k_store  (h : Ops P Γ R (⟨d, Op.store T x y, ty, pos, af, none⟩ :: rest) env cs Q) : Ops P Γ R (⟨d, Op.store T x y, ty, pos, af, none⟩ :: rest) env cs Q := h
theorem Ops.k_nilCheck  (h : Ops P Γ R (⟨d, Op.nilCheck x, ty, pos, af, none⟩ :: rest) env cs Q) : Ops P Γ R (⟨d, Op.nilCheck x, ty, pos, af, none⟩ :: rest) env cs Q := h
theorem OpV.k_nilCheck  (h : OpV P Γ (Op.nilCheck x) ty env cs t) : OpV P Γ (Op.nilCheck x) ty env cs t := h
theorem Ops.k_convert  (h : Ops P Γ R (⟨d, Op.convert T T2 x, ty, pos, af, none⟩ :: rest) env cs Q) : Ops P Γ R (⟨d, Op.convert T T2 x, ty, pos, af, none⟩ :: rest) env cs Q := h
theorem Ops.k_makeFunc {fn : Fn} {p1 p2 : Array Operand} (h : Ops P Γ R (⟨d, Op.makeFunc fn p1 p2, ty, pos, af, none⟩ :: rest) env cs Q) : Ops P Γ R (⟨d, Op.makeFunc fn p1 p2, ty, pos, af, none⟩ :: rest) env cs Q := h
theorem Ops.k_makeMap {r : Option Operand} (h : Ops P Γ R (⟨d, Op.makeMap T r, ty, pos, af, none⟩ :: rest) env cs Q) : Ops P Γ R (⟨d, Op.makeMap T r, ty, pos, af, none⟩ :: rest) env cs Q := h
theorem Ops.k_makeSlice  (h : Ops P Γ R (⟨d, Op.makeSlice T x y, ty, pos, af, none⟩ :: rest) env cs Q) : Ops P Γ R (⟨d, Op.makeSlice T x y, ty, pos, af, none⟩ :: rest) env cs Q := h
theorem Ops.k_slice {l1 l2 l3 : Option Operand} (h : Ops P Γ R (⟨d, Op.slice T x l1 l2 l3, ty, pos, af, none⟩ :: rest) env cs Q) : Ops P Γ R (⟨d, Op.slice T x l1 l2 l3, ty, pos, af, none⟩ :: rest) env cs Q := h
theorem Ops.k_fieldAddr {n : Nat} (h : Ops P Γ R (⟨d, Op.fieldAddr T x n, ty, pos, af, none⟩ :: rest) env cs Q) : Ops P Γ R (⟨d, Op.fieldAddr T x n, ty, pos, af, none⟩ :: rest) env cs Q := h
theorem OpV.k_fieldAddr {n : Nat} (h : OpV P Γ (Op.fieldAddr T x n) ty env cs t) : OpV P Γ (Op.fieldAddr T x n) ty env cs t := h
theorem Ops.k_indexAddr  (h : Ops P Γ R (⟨d, Op.indexAddr T x y, ty, pos, af, none⟩ :: rest) env cs Q) : Ops P Γ R (⟨d, Op.indexAddr T x y, ty, pos, af, none⟩ :: rest) env cs Q := h
theorem OpV.k_indexAddr  (h : OpV P Γ (Op.indexAddr T x y) ty env cs t) : OpV P Γ (Op.indexAddr T x y) ty env cs t := h
theorem Ops.k_index  (h : Ops P Γ R (⟨d, Op.index T x y, ty, pos, af, none⟩ :: rest) env cs Q) : Ops P Γ R (⟨d, Op.index T x y, ty, pos, af, none⟩ :: rest) env cs Q := h
theorem Ops.k_lookup {bb : Bool} (h : Ops P Γ R (⟨d, Op.lookup T x y bb, ty, pos, af, none⟩ :: rest) env cs Q) : Ops P Γ R (⟨d, Op.lookup T x y bb, ty, pos, af, none⟩ :: rest) env cs Q := h
theorem Ops.k_mapUpdate  (h : Ops P Γ R (⟨d, Op.mapUpdate T x y z, ty, pos, af, none⟩ :: rest) env cs Q) : Ops P Γ R (⟨d, Op.mapUpdate T x y z, ty, pos, af, none⟩ :: rest) env cs Q := h
theorem Ops.k_range  (h : Ops P Γ R (⟨d, Op.range T x, ty, pos, af, none⟩ :: rest) env cs Q) : Ops P Γ R (⟨d, Op.range T x, ty, pos, af, none⟩ :: rest) env cs Q := h
theorem Ops.k_next {bb : Bool} (h : Ops P Γ R (⟨d, Op.next x bb, ty, pos, af, none⟩ :: rest) env cs Q) : Ops P Γ R (⟨d, Op.next x bb, ty, pos, af, none⟩ :: rest) env cs Q := h
theorem Ops.k_entry  (h : Ops P Γ R (⟨d, Op.entry x, ty, pos, af, none⟩ :: rest) env cs Q) : Ops P Γ R (⟨d, Op.entry x, ty, pos, af, none⟩ :: rest) env cs Q := h
theorem Ops.k_extract {n : Nat} (h : Ops P Γ R (⟨d, Op.extract x n, ty, pos, af, none⟩ :: rest) env cs Q) : Ops P Γ R (⟨d, Op.extract x n, ty, pos, af, none⟩ :: rest) env cs Q := h
theorem OpV.k_extract {n : Nat} (h : OpV P Γ (Op.extract x n) ty env cs t) : OpV P Γ (Op.extract x n) ty env cs t := h
theorem Ops.k_not  (h : Ops P Γ R (⟨d, Op.unOp .not T x, ty, pos, af, none⟩ :: rest) env cs Q) : Ops P Γ R (⟨d, Op.unOp .not T x, ty, pos, af, none⟩ :: rest) env cs Q := h
theorem Ops.k_neg  (h : Ops P Γ R (⟨d, Op.unOp .neg T x, ty, pos, af, none⟩ :: rest) env cs Q) : Ops P Γ R (⟨d, Op.unOp .neg T x, ty, pos, af, none⟩ :: rest) env cs Q := h
theorem Ops.k_b_add  (h : Ops P Γ R (⟨d, Op.binOp .add T x y T2, ty, pos, af, none⟩ :: rest) env cs Q) : Ops P Γ R (⟨d, Op.binOp .add T x y T2, ty, pos, af, none⟩ :: rest) env cs Q := h
theorem OpV.k_b_add  (h : OpV P Γ (Op.binOp .add T x y T2) ty env cs t) : OpV P Γ (Op.binOp .add T x y T2) ty env cs t := h
theorem Ops.k_b_sub  (h : Ops P Γ R (⟨d, Op.binOp .sub T x y T2, ty, pos, af, none⟩ :: rest) env cs Q) : Ops P Γ R (⟨d, Op.binOp .sub T x y T2, ty, pos, af, none⟩ :: rest) env cs Q := h
theorem OpV.k_b_sub  (h : OpV P Γ (Op.binOp .sub T x y T2) ty env cs t) : OpV P Γ (Op.binOp .sub T x y T2) ty env cs t := h
theorem Ops.k_b_mul  (h : Ops P Γ R (⟨d, Op.binOp .mul T x y T2, ty, pos, af, none⟩ :: rest) env cs Q) : Ops P Γ R (⟨d, Op.binOp .mul T x y T2, ty, pos, af, none⟩ :: rest) env cs Q := h
theorem OpV.k_b_mul  (h : OpV P Γ (Op.binOp .mul T x y T2) ty env cs t) : OpV P Γ (Op.binOp .mul T x y T2) ty env cs t := h
theorem Ops.k_b_quo  (h : Ops P Γ R (⟨d, Op.binOp .quo T x y T2, ty, pos, af, none⟩ :: rest) env cs Q) : Ops P Γ R (⟨d, Op.binOp .quo T x y T2, ty, pos, af, none⟩ :: rest) env cs Q := h
theorem OpV.k_b_quo  (h : OpV P Γ (Op.binOp .quo T x y T2) ty env cs t) : OpV P Γ (Op.binOp .quo T x y T2) ty env cs t := h
theorem Ops.k_b_rem  (h : Ops P Γ R (⟨d, Op.binOp .rem T x y T2, ty, pos, af, none⟩ :: rest) env cs Q) : Ops P Γ R (⟨d, Op.binOp .rem T x y T2, ty, pos, af, none⟩ :: rest) env cs Q := h
theorem OpV.k_b_rem  (h : OpV P Γ (Op.binOp .rem T x y T2) ty env cs t) : OpV P Γ (Op.binOp .rem T x y T2) ty env cs t := h
theorem Ops.k_b_eql  (h : Ops P Γ R (⟨d, Op.binOp .eql T x y T2, ty, pos, af, none⟩ :: rest) env cs Q) : Ops P Γ R (⟨d, Op.binOp .eql T x y T2, ty, pos, af, none⟩ :: rest) env cs Q := h
theorem OpV.k_b_eql  (h : OpV P Γ (Op.binOp .eql T x y T2) ty env cs t) : OpV P Γ (Op.binOp .eql T x y T2) ty env cs t := h
theorem Ops.k_b_neq  (h : Ops P Γ R (⟨d, Op.binOp .neq T x y T2, ty, pos, af, none⟩ :: rest) env cs Q) : Ops P Γ R (⟨d, Op.binOp .neq T x y T2, ty, pos, af, none⟩ :: rest) env cs Q := h
theorem OpV.k_b_neq  (h : OpV P Γ (Op.binOp .neq T x y T2) ty env cs t) : OpV P Γ (Op.binOp .neq T x y T2) ty env cs t := h
theorem Ops.k_b_lss  (h : Ops P Γ R (⟨d, Op.binOp .lss T x y T2, ty, pos, af, none⟩ :: rest) env cs Q) : Ops P Γ R (⟨d, Op.binOp .lss T x y T2, ty, pos, af, none⟩ :: rest) env cs Q := h
theorem OpV.k_b_lss  (h : OpV P Γ (Op.binOp .lss T x y T2) ty env cs t) : OpV P Γ (Op.binOp .lss T x y T2) ty env cs t := h
theorem Ops.k_b_leq  (h : Ops P Γ R (⟨d, Op.binOp .leq T x y T2, ty, pos, af, none⟩ :: rest) env cs Q) : Ops P Γ R (⟨d, Op.binOp .leq T x y T2, ty, pos, af, none⟩ :: rest) env cs Q := h
theorem OpV.k_b_leq  (h : OpV P Γ (Op.binOp .leq T x y T2) ty env cs t) : OpV P Γ (Op.binOp .leq T x y T2) ty env cs t := h
theorem Ops.k_b_gtr  (h : Ops P Γ R (⟨d, Op.binOp .gtr T x y T2, ty, pos, af, none⟩ :: rest) env cs Q) : Ops P Γ R (⟨d, Op.binOp .gtr T x y T2, ty, pos, af, none⟩ :: rest) env cs Q := h
theorem OpV.k_b_gtr  (h : OpV P Γ (Op.binOp .gtr T x y T2) ty env cs t) : OpV P Γ (Op.binOp .gtr T x y T2) ty env cs t := h
theorem Ops.k_b_geq  (h : Ops P Γ R (⟨d, Op.binOp .geq T x y T2, ty, pos, af, none⟩ :: rest) env cs Q) : Ops P Γ R (⟨d, Op.binOp .geq T x y T2, ty, pos, af, none⟩ :: rest) env cs Q := h
theorem Ops.k_c_append {p1 : Array Operand} {p2 : Array TypeId} (h : Ops P Γ R (⟨d, Op.call ⟨.builtin .append, p1, p2⟩, ty, pos, af, none⟩ :: rest) env cs Q) : Ops P Γ R (⟨d, Op.call ⟨.builtin .append, p1, p2⟩, ty, pos, af, none⟩ :: rest) env cs Q := h
theorem Ops.k_c_clear {p1 : Array Operand} {p2 : Array TypeId} (h : Ops P Γ R (⟨d, Op.call ⟨.builtin .clear, p1, p2⟩, ty, pos, af, none⟩ :: rest) env cs Q) : Ops P Γ R (⟨d, Op.call ⟨.builtin .clear, p1, p2⟩, ty, pos, af, none⟩ :: rest) env cs Q := h
theorem Ops.k_c_copy {p1 : Array Operand} {p2 : Array TypeId} (h : Ops P Γ R (⟨d, Op.call ⟨.builtin .copy, p1, p2⟩, ty, pos, af, none⟩ :: rest) env cs Q) : Ops P Γ R (⟨d, Op.call ⟨.builtin .copy, p1, p2⟩, ty, pos, af, none⟩ :: rest) env cs Q := h
theorem Ops.k_c_len {p1 : Array Operand} {p2 : Array TypeId} (h : Ops P Γ R (⟨d, Op.call ⟨.builtin .len, p1, p2⟩, ty, pos, af, none⟩ :: rest) env cs Q) : Ops P Γ R (⟨d, Op.call ⟨.builtin .len, p1, p2⟩, ty, pos, af, none⟩ :: rest) env cs Q := h
theorem OpV.k_c_len {p1 : Array Operand} {p2 : Array TypeId} (h : OpV P Γ (Op.call ⟨.builtin .len, p1, p2⟩) ty env cs t) : OpV P Γ (Op.call ⟨.builtin .len, p1, p2⟩) ty env cs t := h
theorem Ops.k_c_max {p1 : Array Operand} {p2 : Array TypeId} (h : Ops P Γ R (⟨d, Op.call ⟨.builtin .max, p1, p2⟩, ty, pos, af, none⟩ :: rest) env cs Q) : Ops P Γ R (⟨d, Op.call ⟨.builtin .max, p1, p2⟩, ty, pos, af, none⟩ :: rest) env cs Q := h
theorem OpV.k_c_max {p1 : Array Operand} {p2 : Array TypeId} (h : OpV P Γ (Op.call ⟨.builtin .max, p1, p2⟩) ty env cs t) : OpV P Γ (Op.call ⟨.builtin .max, p1, p2⟩) ty env cs t := h
theorem Ops.k_c_min {p1 : Array Operand} {p2 : Array TypeId} (h : Ops P Γ R (⟨d, Op.call ⟨.builtin .min, p1, p2⟩, ty, pos, af, none⟩ :: rest) env cs Q) : Ops P Γ R (⟨d, Op.call ⟨.builtin .min, p1, p2⟩, ty, pos, af, none⟩ :: rest) env cs Q := h
theorem Ops.k_guard {op : Op} {g : Nat × Bool} (h : Ops P Γ R (⟨d, op, ty, pos, af, some g⟩ :: rest) env cs Q) : Ops P Γ R (⟨d, op, ty, pos, af, some g⟩ :: rest) env cs Q := h
theorem Cw.k_cond {x : Operand} {A B : Code} (h : Cw P Γ (.cond x A B) env cs Q) : Cw P Γ (.cond x A B) env cs Q := h
theorem Cw.k_draw {id : Nat} {ops : Array Oper} (h : Cw P Γ (.region id ops true) env cs Q) : Cw P Γ (.region id ops true) env cs Q := h
theorem OpV.lss_t {k : IntKind} {p q : Int} (hx : ev env x = some (.raw (.int k p))) (hy : ev env y = some (.raw (.int k q))) (h : p < q) : OpV P Γ (.binOp .lss T x y T2) ty env cs (.bool true) := by
 have := OpV.lss (P := P) (Γ := Γ) (ty := ty) (cs := cs) (t := T) (t2 := T2) hx hy
 rwa [decide_eq_true h] at this
theorem OpV.lss_f {k : IntKind} {p q : Int} (hx : ev env x = some (.raw (.int k p))) (hy : ev env y = some (.raw (.int k q))) (h : ¬ (p < q)) : OpV P Γ (.binOp .lss T x y T2) ty env cs (.bool false) := by
 have := OpV.lss (P := P) (Γ := Γ) (ty := ty) (cs := cs) (t := T) (t2 := T2) hx hy
 rwa [decide_eq_false h] at this
theorem OpV.leq_t {k : IntKind} {p q : Int} (hx : ev env x = some (.raw (.int k p))) (hy : ev env y = some (.raw (.int k q))) (h : p ≤ q) : OpV P Γ (.binOp .leq T x y T2) ty env cs (.bool true) := by
 have := OpV.leq (P := P) (Γ := Γ) (ty := ty) (cs := cs) (t := T) (t2 := T2) hx hy
 rwa [decide_eq_true h] at this
theorem OpV.leq_f {k : IntKind} {p q : Int} (hx : ev env x = some (.raw (.int k p))) (hy : ev env y = some (.raw (.int k q))) (h : ¬ (p ≤ q)) : OpV P Γ (.binOp .leq T x y T2) ty env cs (.bool false) := by
 have := OpV.leq (P := P) (Γ := Γ) (ty := ty) (cs := cs) (t := T) (t2 := T2) hx hy
 rwa [decide_eq_false h] at this
theorem OpV.gtr_t {k : IntKind} {p q : Int} (hx : ev env x = some (.raw (.int k p))) (hy : ev env y = some (.raw (.int k q))) (h : q < p) : OpV P Γ (.binOp .gtr T x y T2) ty env cs (.bool true) := by
 have := OpV.gtr (P := P) (Γ := Γ) (ty := ty) (cs := cs) (t := T) (t2 := T2) hx hy
 rwa [decide_eq_true h] at this
theorem OpV.gtr_f {k : IntKind} {p q : Int} (hx : ev env x = some (.raw (.int k p))) (hy : ev env y = some (.raw (.int k q))) (h : ¬ (q < p)) : OpV P Γ (.binOp .gtr T x y T2) ty env cs (.bool false) := by
 have := OpV.gtr (P := P) (Γ := Γ) (ty := ty) (cs := cs) (t := T) (t2 := T2) hx hy
 rwa [decide_eq_false h] at this
theorem OpV.eql_t {k : IntKind} {p q : Int} (hx : ev env x = some (.raw (.int k p))) (hy : ev env y = some (.raw (.int k q))) (h : p = q) : OpV P Γ (.binOp .eql T x y T2) ty env cs (.bool true) := by
 have := OpV.eql (P := P) (Γ := Γ) (ty := ty) (cs := cs) (t := T) (t2 := T2) hx hy
 rwa [decide_eq_true h] at this
theorem OpV.eql_f {k : IntKind} {p q : Int} (hx : ev env x = some (.raw (.int k p))) (hy : ev env y = some (.raw (.int k q))) (h : ¬ (p = q)) : OpV P Γ (.binOp .eql T x y T2) ty env cs (.bool false) := by
 have := OpV.eql (P := P) (Γ := Γ) (ty := ty) (cs := cs) (t := T) (t2 := T2) hx hy
 rwa [decide_eq_false h] at this
theorem OpV.neq_t {k : IntKind} {p q : Int} (hx : ev env x = some (.raw (.int k p))) (hy : ev env y = some (.raw (.int k q))) (h : p ≠ q) : OpV P Γ (.binOp .neq T x y T2) ty env cs (.bool true) := by
 have := OpV.neq (P := P) (Γ := Γ) (ty := ty) (cs := cs) (t := T) (t2 := T2) hx hy
 rwa [decide_eq_true h] at this
theorem OpV.neq_f {k : IntKind} {p q : Int} (hx : ev env x = some (.raw (.int k p))) (hy : ev env y = some (.raw (.int k q))) (h : ¬ (p ≠ q)) : OpV P Γ (.binOp .neq T x y T2) ty env cs (.bool false) := by
 have := OpV.neq (P := P) (Γ := Γ) (ty := ty) (cs := cs) (t := T) (t2 := T2) hx hy
 rwa [decide_eq_false h] at this
end kinds
section gen
variable {P : Program} {Γ : Ctx} {env env' : Env} {cs cs' cf : List Chunk} {Q : Post} {R : Array Oper}
variable {i : Tmp} {ty : TypeId} {pos : String} {af : Array Edge} {rest : List Oper}
def intRows (xs : List Int) : List (List Tr) := xs.map fun x => [Tr.int x]
theorem intRows_len (xs : List Int) : (intRows xs).length = xs.length := by simp [intRows]
theorem intRows_at {l : List Int} {j : Nat} {x : Int} (h : l[j]? = some x) : (intRows l)[j]? = some [Tr.int x] := by
 unfold intRows
 rw [List.getElem?_map, h]
 rfl
abbrev Tr.ints (xs : List Int) : Tr := Tr.sl 1 (intRows xs)
abbrev Tr.ptr (b : Nat) : Tr := Tr.raw (.pointer (some ⟨b, 0, none⟩))
theorem Ent.look (h : ∀ j t, Lg.look env' j = some t → Lg.look env j = some t) : Ent Γ env cs env' cs := fun a w d =>
 ⟨d.nodefer, d.tmps, fun i t hl => d.env i t (h i t hl), d.chunks, d.nodup, d.fresh, d.below, d.frame⟩
def Gen (P : Program) (st : TypeId) (f : FuncId) (args : List Tr) (c : Nat) (post : Tr → Prop) : Prop :=
 ∀ b xs N, N + c ≤ 1000000000000 → Spec P f (Tr.ptr b :: args) [Chunk.strm st b (intRows xs) N] fun r cs => cs = [Chunk.strm st b (intRows xs) (N + c)] ∧ post r
def GenO (P : Program) (st : TypeId) (f : FuncId) (args : List Tr) (c k : Nat) (E : TypeId) (post : List (List Tr) → Prop) : Prop :=
 ∀ b xs N, N + c ≤ 1000000000000 → Spec P f (Tr.ptr b :: args) [Chunk.strm st b (intRows xs) N] fun r cs => ∃ ad cap rows, r = Tr.raw (.slice ad rows.length cap) ∧ cs = [Chunk.own ad cap k E rows, Chunk.strm st b (intRows xs) (N + c)] ∧ post rows
theorem Ops.callG {st f c b N : Nat} {l : List Operand} {ts : Array TypeId} {args : List Tr} {post : Tr → Prop} {xs : List Int} (hg : Gen P st f args c post) (ha : Evs env l (Tr.ptr b :: args)) (hp : cs.Perm (Chunk.strm st b (intRows xs) N :: cf)) (hN : N + c ≤ 1000000000000) (hi : Nat.blt i Γ.n = true)
  (kont : ∀ r, post r → Ops P Γ R rest ((i, r) :: env) (Chunk.strm st b (intRows xs) (N + c) :: cf) Q) : Ops P Γ R (⟨some i, .call ⟨.value (.func f), l.toArray, ts⟩, ty, pos, af, none⟩ :: rest) env cs Q :=
 Ops.call (hg b xs N hN) ha (by simpa using hp) hi fun r cs' h => by obtain ⟨rfl, h⟩ := h; exact kont r h
theorem Ops.callGO {st f c b N k E : Nat} {l : List Operand} {ts : Array TypeId} {args : List Tr} {post : List (List Tr) → Prop} {xs : List Int} (hg : GenO P st f args c k E post) (ha : Evs env l (Tr.ptr b :: args)) (hp : cs.Perm (Chunk.strm st b (intRows xs) N :: cf)) (hN : N + c ≤ 1000000000000) (hi : Nat.blt i Γ.n = true)
  (kont : ∀ ad cap rows, post rows → Ops P Γ R rest ((i, Tr.raw (.slice ad rows.length cap)) :: env) (Chunk.own ad cap k E rows :: Chunk.strm st b (intRows xs) (N + c) :: cf) Q) : Ops P Γ R (⟨some i, .call ⟨.value (.func f), l.toArray, ts⟩, ty, pos, af, none⟩ :: rest) env cs Q :=
 Ops.call (hg b xs N hN) ha (by simpa using hp) hi fun r cs' h => by obtain ⟨ad, cap, rows, rfl, rfl, h⟩ := h; exact kont ad cap rows h
def PFnO (P : Program) (f : FuncId) (args : List Tr) (k : Nat) (E : TypeId) (post : List (List Tr) → Prop) : Prop :=
 Spec P f args [] fun r cs => ∃ ad cap rows, r = Tr.raw (.slice ad rows.length cap) ∧ cs = [Chunk.own ad cap k E rows] ∧ post rows
end gen
section outs
variable {P : Program} {Γ : Ctx} {env env' : Env} {cs cs' cf : List Chunk} {a : Act} {w : World}
theorem Ent.setbox {b : Nat} {e : TypeId} {ts : List Tr} {s : Nat} (hl : Lg.look env s = some (.raw (.pointer (some ⟨b, 0, none⟩)))) (hp : cs.Perm (Chunk.box b e ts :: cf)) :
  Ent Γ env cs ((s, .ref ts) :: env) cf := by
 intro a w d
 have d' := d.perm hp
 have d2 := d'.dropc
 refine ⟨d2.nodefer, d2.tmps, ?_, d2.chunks, d2.nodup, d2.fresh, d2.below, d2.frame⟩
 intro j u hj
 by_cases es : s = j
 ·subst es
  rw [look_cons_same] at hj
  cases hj
  rw [rd_raw (d.env s _ hl)]
  obtain ⟨c, hb, hr⟩ := d'.has (List.Perm.refl _)
  have hs : SameOn w w (av Γ.M (Chunk.box b e ts :: cf)) (av Γ.M cf) := fun b _ ⟨h1, h2⟩ => ⟨⟨h1, fun hm => h2 (by simp [fps] at hm ⊢; exact .inr hm)⟩, rfl⟩
  have hfr := d'.fresh b (by simp [fps, Chunk.box])
  have hnot : b ∉ fps cf := by
   have := d'.nodup
   simp only [fps, List.flatMap_cons] at this
   exact fun hm => (List.nodup_append.1 this).2.2 b (by simp [Chunk.box]) b hm rfl
  refine ⟨b, 0, rfl, ⟨hfr.2.1, hnot⟩, c, e, _, hb, ?_⟩
  rw [List.drop_zero, ← hr.length, List.take_length]
  exact hr.mono hs
 ·rw [look_cons_ne _ _ es] at hj
  exact d2.env j u hj
theorem Ent.nilsl (k : Nat) {s : Nat} (hl : Lg.look env s = some (.raw (.slice none 0 0))) : Ent Γ env cs ((s, .sl k []) :: env) cs :=
 Ent.trans (Ent.nil k 0) (Ent.settle hl (List.Perm.refl _) rfl)
inductive OutE (P : Program) (env : Env) : ResultVar → Tr → Prop
 |tmp {t : Tmp} {r : Tr} (h : look env t = some r) : OutE P env (.tmp t) r
 |agg {p : Tmp} {ty : TypeId} {n : Nat} {ts : List Tr} (hT : TyAgg P ty n) (h : look env p = some (.ref ts)) (hn : ts.length = n) : OutE P env (.cell p ty) (.agg ts)
 |one {p : Tmp} {ty : TypeId} {t : Tr} {ts : List Tr} (hT : TyOne P ty) (h : look env p = some (.ref (t :: ts))) : OutE P env (.cell p ty) t
def OutL (P : Program) (env : Env) : List ResultVar → List Tr → Prop
 |[], rs => rs = []
 |x :: l, rs => ∃ r rest, rs = r :: rest ∧ OutE P env x r ∧ OutL P env l rest
theorem OutL.nil : OutL P env [] [] := rfl
theorem OutL.cons {x : ResultVar} {l : List ResultVar} {r : Tr} {rs : List Tr} (h : OutE P env x r) (k : OutL P env l rs) : OutL P env (x :: l) (r :: rs) := ⟨r, rs, rfl, h, k⟩
def outOf (tmps : Array Value) (x : ResultVar) : Sem Value := match x with
 | .tmp t => pure (tmps.getD t undef)
 | .cell p ty => do loadVar ty (← asAddr (tmps.getD p undef))
theorem OutE.run {x : ResultVar} {r : Tr} (h : OutE P env x r) (d : Den Γ env cs a w) : ∃ v, (outOf a.tmps x).run P w = .ok v w ∧ r.rd w (av Γ.M cs) v := by
 cases h with
 |tmp h => exact ⟨_, rfl, d.env _ _ h⟩
 |agg hT h hn =>
  rename_i p ty n ts
  obtain ⟨b, o, hv, hA, c, e, fz, hb, hr⟩ := d.env _ _ h
  obtain ⟨vs, hl, hr', hcv⟩ := rdc_cells hr
  have := run_loadAgg (P := P) (T := ty) (w := w) (b := b) (o := o) (vs := vs) (by omega) (fun j v hj => by rw [cell_at hb]; exact hcv j v hj)
  have hv' : a.tmps[p]?.getD undef = .pointer (some ⟨b, o, none⟩) := by simpa using hv
  exact ⟨_, by simp [outOf, hv', asAddr, this] <;> rfl, vs, rfl, hr'⟩
 |one hT h =>
  rename_i p ty ts
  obtain ⟨b, o, hv, hA, c, e, fz, hb, hr⟩ := d.env _ _ h
  obtain ⟨vs, hl, hr', hcv⟩ := rdc_cells hr
  obtain ⟨v, rest, rfl, hrd, _, _⟩ := hr'
  have hcell : w.cell? ⟨b, o, none⟩ = some v := by
   have := hcv 0 v (by simp)
   rw [cell_at hb]; simpa using this
  have hv' : a.tmps[p]?.getD undef = .pointer (some ⟨b, o, none⟩) := by simpa using hv
  exact ⟨v, by simp [outOf, hv', asAddr, run_loadOne (T := ty) hcell], hrd⟩
theorem OutL.run : ∀ {l : List ResultVar} {rs : List Tr}, OutL P env l rs → Den Γ env cs a w → ∃ vs, (l.mapM (outOf a.tmps)).run P w = .ok vs w ∧ RdL w (av Γ.M cs) rs vs
 |[], rs, h, d => by
  simp only [OutL] at h
  subst h
  exact ⟨[], by simp, rfl⟩
 |x :: l, _, ⟨r, rest, rfl, hx, hl⟩, d => by
  obtain ⟨v, h1, h2⟩ := hx.run d
  obtain ⟨vs, h3, h4⟩ := OutL.run hl d
  exact ⟨v :: vs, by simp [List.mapM_cons, h1, h3], _, _, rfl, h2, h4⟩
theorem results_eq {fn : Func} {l : List ResultVar} (h : fn.results = l.toArray) (tmps : Array Value) : results fn tmps = (do let vs ← (List.toArray <$> l.mapM (outOf tmps)); pure (if h : vs.size = 1 then vs[0] else Value.tuple vs)) := by
 have : results fn tmps = (do let vs ← Array.mapM (outOf tmps) fn.results; pure (if h : vs.size = 1 then vs[0] else Value.tuple vs)) := by
  unfold results
  congr 1
 rw [this, h, Array.mapM_eq_mapM_toList]
theorem Outs.sole {fn : Func} {x : ResultVar} {r : Tr} (h : fn.results = #[x]) (hx : OutE P env x r) : Outs P fn Γ env cs r := by
 intro w0 own0 a w d
 obtain ⟨v, h1, h2⟩ := hx.run d
 refine ⟨v, ?_, h2⟩
 rw [results_eq (l := [x]) h]
 simp [List.mapM_cons, h1]
theorem Outs.many {fn : Func} {l : List ResultVar} {rs : List Tr} (h : fn.results = l.toArray) (hx : OutL P env l rs) (hn : Nat.beq l.length 1 = false) : Outs P fn Γ env cs (.tup rs) := by
 intro w0 own0 a w d
 obtain ⟨vs, h1, h2⟩ := hx.run d
 refine ⟨.tuple vs.toArray, ?_, vs, rfl, h2⟩
 have hlen : vs.length ≠ 1 := by
  rw [h2.length]
  have : ∀ {l : List ResultVar} {rs : List Tr}, OutL P env l rs → rs.length = l.length := by
   intro l
   induction l with
   |nil => intro rs h; simp only [OutL] at h; subst h; rfl
   |cons x l ih => intro rs ⟨r, rest, e, _, hl⟩; subst e; simp [ih hl]
  rw [this hx]
  intro e
  rw [e] at hn
  cases hn
 rw [results_eq h]
 simp [h1, hlen]
variable {R : Array Oper} {Q : Post} {i : Tmp} {ty : TypeId} {pos : String} {af : Array Edge} {rest : List Oper}
theorem Ops.callS {f : FuncId} {xs : List Operand} {ts : Array TypeId} {args : List Tr} {cin : List Chunk} {t : Tr} (hs : Spec P f args cin (fun r cs => r = t ∧ cs = cin)) (ha : Evs env xs args) (hp : cs.Perm (cin ++ cf)) (hi : Nat.blt i Γ.n = true)
  (kont : Ops P Γ R rest ((i, t) :: env) cs Q) : Ops P Γ R (⟨some i, .call ⟨.value (.func f), xs.toArray, ts⟩, ty, pos, af, none⟩ :: rest) env cs Q :=
 Ops.call hs ha hp hi fun r cs' h => by obtain ⟨rfl, rfl⟩ := h; exact Ops.ent (Ent.perm hp.symm) kont
theorem Ops.callS_fn {f : FuncId} {g : Operand} {xs : List Operand} {ts : Array TypeId} {caps : List Value} {args : List Tr} {cin : List Chunk} {t : Tr} (hg : ev env g = some (.raw (.func (.func f) #[] caps.toArray))) (hs : Spec P f (args ++ caps.map Tr.raw) cin (fun r cs => r = t ∧ cs = cin)) (ha : Evs env xs args) (hp : cs.Perm (cin ++ cf)) (hi : Nat.blt i Γ.n = true)
  (kont : Ops P Γ R rest ((i, t) :: env) cs Q) : Ops P Γ R (⟨some i, .call ⟨.value g, xs.toArray, ts⟩, ty, pos, af, none⟩ :: rest) env cs Q :=
 Ops.call_fn hg hs ha hp hi fun r cs' h => by obtain ⟨rfl, rfl⟩ := h; exact Ops.ent (Ent.perm hp.symm) kont
theorem PFn.lend {f : FuncId} {args : List Tr} {t : Tr} (h : PFn P f args (· = t)) : Spec P f args [] (fun r cs => r = t ∧ cs = []) := h.spec.mono fun r cs h => ⟨h.2, h.1⟩
theorem OpW.buildSlice {T E kk bb : Nat} {zs : List Value} [hS : TySl P T E kk bb zs] {n : Nat} {parts : List (Nat × Operand)} {ts : List Tr} {rows : List (List Tr)} (hp : Parts (fun i => some (i * kk, kk)) env parts (zeroRow zs n) ts) (hrows : rowsOf kk n ts = rows) (hn : Nat.ble (n * kk) 16777216 = true) :
  OpW P Γ (.buildSlice T n parts.toArray) ty env cs (.sl kk rows) := by
 intro a w d0 dd pos af g next F hk
 have hn' : n * kk ≤ 16777216 := Nat.le_of_ble_eq_true hn
 obtain ⟨c, hrun, hr, hsz⟩ := run_buildSlice (P := P) (T := T) hn' d0 hp
 have hl : ts.length = n * kk := by rw [← hr.length, Array.length_toList, hsz]
 obtain ⟨r1, r2, r3⟩ := rowsOf_flat hl
 obtain ⟨_, _, _, _, _, _, _, hk0⟩ := hS.hE
 have hmax : n ≤ maxLen := by
  have : n ≤ n * kk := Nat.le_mul_of_pos_right n hk0
  simp only [maxLen]
  omega
 have hx : (execOp a.eval ⟨some dd, .buildSlice T n parts.toArray, ty, pos, af, g⟩).run P w = .ok (.value (.slice (some ⟨w.heap.size, 0, none⟩) n n)) (w.alloc (.cells c E)) := by simp [execOp, hrun] <;> rfl
 refine opIn_of_run hx ⟨(by intro d h; cases h), (by intro x y h; cases h)⟩ ?_
 refine hk _ _ ?_ (fun env2 d2 => (d2.newblock c E hr).dropc)
 have d2 := d0.newblock c E hr
 have hnb := d2.chunks (Chunk.box w.heap.size E ts) (by simp)
 obtain ⟨c', hc', hr'⟩ := hnb
 have hav : SameOn (w.alloc (.cells c E)) (w.alloc (.cells c E)) (av Γ.M (Chunk.box w.heap.size E ts :: cs)) (av Γ.M cs) := fun b _ ⟨h1, h2⟩ => ⟨⟨h1, fun hm => h2 (by simp [fps] at hm ⊢; exact .inr hm)⟩, rfl⟩
 have hfr := d2.fresh w.heap.size (by simp [fps, Chunk.box])
 have hnotin : w.heap.size ∉ fps cs := by
  have := d2.nodup
  simp only [fps, List.flatMap_cons, Chunk.box] at this
  exact fun hm => (List.nodup_append.1 this).2.2 _ (by simp) _ hm rfl
 rw [← hrows]
 refine ⟨r2, by omega, some ⟨w.heap.size, 0, none⟩, n, by rw [r3], by omega, hmax, fun h => absurd h (by simp), .inr ⟨_, 0, rfl, ⟨hfr.2.1, hnotin⟩, c', E, _, hc', ?_⟩⟩
 rw [r1]
 have := hr'.mono hav
 rw [List.drop_zero, List.take_of_length_le (by rw [this.length]; exact Nat.le_refl _)]
 exact this
end outs
section que
variable {P : Program} {Γ : Ctx} {env env' : Env} {cs cs' cf : List Chunk} {Q : Post} {R : Array Oper}
variable {i : Tmp} {ty : TypeId} {pos : String} {af : Array Edge} {rest : List Oper}
variable {x y z : Operand} {T T2 : TypeId} {k : IntKind} {p q : Int}
def Chunk.que (ad : Option Addr) (o cap k : Nat) (ty : TypeId) (rows : List (List Tr)) : Chunk :=
 ⟨(ad.map (·.block)).toList, fun w A => (∀ r ∈ rows, r.length = k) ∧ ((ad = none ∧ rows = [] ∧ o = 0 ∧ cap = 0) ∨
   ∃ g cur, ad = some ⟨g, 0, none⟩ ∧ w.heap[g]? = some (.cells cur ty (0, 0)) ∧ rows.length ≤ cap ∧ cap ≤ maxLen ∧ cur.size = (o + cap) * k ∧ RdC w A rows.flatten ((cur.toList.drop (o * k)).take rows.flatten.length)),
  fun {w w' A A'} hb h ⟨hk, hh⟩ => ⟨hk, hh.imp id fun ⟨g, cur, ha, hg, h1, h2, h3, hr⟩ => ⟨g, cur, ha, by
   rw [hb g (by simp [ha]) (Array.getElem?_eq_some_iff.1 hg).1, hg], h1, h2, h3, hr.mono h⟩⟩⟩
def Tr.qsl (ad : Option Addr) (o k n cap : Nat) : Tr := Tr.raw (.slice (ad.map fun a => ⟨a.block, o * k, none⟩) n cap)
theorem OpV.len_q {E kk bb z} [h : TySl P T E kk bb z] {ad : Option Addr} {o k2 n c : Nat} (hx : ev env x = some (.qsl ad o k2 n c)) : OpV P Γ (.call ⟨.builtin .len, #[x], #[T]⟩) ty env cs (.int (n : Int)) := OpV.len_raw hx
theorem Ops.len_q {E kk bb z} [h : TySl P T E kk bb z] {ad : Option Addr} {o k2 n c : Nat} (hx : ev env x = some (.qsl ad o k2 n c)) (hi : Nat.blt i Γ.n = true)
  (r : Ops P Γ R rest ((i, .int (n : Int)) :: env) cs Q) : Ops P Γ R (⟨some i, .call ⟨.builtin .len, #[x], #[T]⟩, ty, pos, af, none⟩ :: rest) env cs Q :=
 Ops.val' hi (OpV.len_q hx) r
end que
section drawD
variable {P : Program} {Γ : Ctx} {env env' base : Env} {cs cs' cf : List Chunk} {Q : Post}
theorem OpW.ent {op : Op} {ty : TypeId} {t : Tr} (h : OpW P Γ op ty env cs t) (he : ∀ a w, Den Γ env' cs a w → Den Γ env cs a w) : OpW P Γ op ty env' cs t :=
 fun a w dd => h a w (he a w dd)
def tmpsOf : List Operand → List Nat
 |[] => []
 | .tmp i :: l => i :: tmpsOf l
 |_ :: l => tmpsOf l
def slotsOf (op : Op) : List Nat := tmpsOf op.operands.toList
def rst : List Nat → Env → Env
 |[], _ => []
 |s :: l, e => match look e s with
  |some t => (s, t) :: rst l e
  |none => rst l e
theorem rst_look : ∀ {l : List Nat} {e : Env} {i : Nat} {t : Tr}, look (rst l e) i = some t → i ∈ l ∧ look e i = some t
 |[], e, i, t, h => by simp [rst, look] at h
 |s :: l, e, i, t, h => by
  simp only [rst] at h
  split at h
  ·rename_i u hu
   by_cases es : s = i
   ·subst es
    rw [look_cons_same] at h
    cases h
    exact ⟨List.mem_cons_self, hu⟩
   ·rw [look_cons_ne _ _ es] at h
    obtain ⟨h1, h2⟩ := rst_look h
    exact ⟨List.mem_cons_of_mem _ h1, h2⟩
  ·obtain ⟨h1, h2⟩ := rst_look h
   exact ⟨List.mem_cons_of_mem _ h1, h2⟩
def isDst (L : List Oper) (s j : Nat) : Bool := match L[j]? with
 |some o => (match o.dst with | some d => Nat.beq d s | none => false)
 |none => false
theorem isDst_iff {L : List Oper} {s j : Nat} (h : isDst L s j = true) : ∃ o, L[j]? = some o ∧ o.dst = some s := by
 unfold isDst at h
 split at h
 ·rename_i o ho
  split at h
  ·rename_i d hd
   exact ⟨o, ho, by rw [hd, Nat.eq_of_beq_eq_true h]⟩
  ·cases h
 ·cases h
def ssaFrom (L : List Oper) : Nat → List Oper → Bool
 |_, [] => true
 |i, o :: l => ((slotsOf o.op).all fun s => !((others i 0 L).contains s) || (preds o.after).any (isDst L s)) && ssaFrom L (i + 1) l
theorem ssaFrom_at {L : List Oper} : ∀ {l : List Oper} {i j : Nat} {o : Oper}, ssaFrom L i l = true → l[j]? = some o → ∀ s ∈ slotsOf o.op, s ∉ others (i + j) 0 L ∨ ∃ k ∈ preds o.after, ∃ p, L[k]? = some p ∧ p.dst = some s
 |[], i, j, o, _, h => by simp at h
 |p :: l, i, j, o, h, hj => by
  simp only [ssaFrom, Bool.and_eq_true] at h
  intro s hs
  cases j with
  |zero =>
   simp at hj
   subst hj
   have := List.all_eq_true.1 h.1 s hs
   simp only [Bool.or_eq_true, Bool.not_eq_true', List.any_eq_true] at this
   rcases this with h1 | ⟨k, hk, h2⟩
   ·left
    intro hm
    rw [Nat.add_zero] at hm
    simp [hm] at h1
   ·exact .inr ⟨k, hk, isDst_iff h2⟩
  |succ j =>
   simp at hj
   have := ssaFrom_at h.2 hj s hs
   rwa [show i + 1 + j = i + (j + 1) by omega] at this
def PSeq (P : Program) (Γ : Ctx) (cs : List Chunk) (K : Env → Prop) : Nat → List (Nat × POp) → Env → List Oper → Prop
 |_, _, acc, [] => K acc
 |n, done, acc, o :: l => ∃ p : POp, p.oper = o ∧ ((GOk done p ∧ OpW P Γ p.op p.ty (rst (slotsOf p.op) acc) cs p.t) ∨ (GNo done p ∧ p.t = Tr.raw undef)) ∧ PSeq P Γ cs K (n + 1) ((n, p) :: done) ((p.dst, p.t) :: acc) l
section pseq
variable {K : Env → Prop} {n : Nat} {done : List (Nat × POp)} {acc : Env} {d : Nat} {op : Op} {ty : TypeId} {pos : String} {af : Array Edge} {l : List Oper} {t : Tr}
theorem PSeq.nil (h : K acc) : PSeq P Γ cs K n done acc [] := h
theorem PSeq.cons (h : OpW P Γ op ty (rst (slotsOf op) acc) cs t) (k : PSeq P Γ cs K (n + 1) ((n, ⟨d, op, ty, pos, af, none, t⟩) :: done) ((d, t) :: acc) l) :
  PSeq P Γ cs K n done acc (⟨some d, op, ty, pos, af, none⟩ :: l) := ⟨⟨d, op, ty, pos, af, none, t⟩, rfl, .inl ⟨trivial, h⟩, k⟩
theorem PSeq.yes {j : Nat} {b : Bool} {q : POp} (hj : (preds af).contains j = true) (hq : getP done j = some q) (hb : q.t = Tr.bool b) (h : OpW P Γ op ty (rst (slotsOf op) acc) cs t) (k : PSeq P Γ cs K (n + 1) ((n, ⟨d, op, ty, pos, af, some (j, b), t⟩) :: done) ((d, t) :: acc) l) :
  PSeq P Γ cs K n done acc (⟨some d, op, ty, pos, af, some (j, b)⟩ :: l) := ⟨⟨d, op, ty, pos, af, some (j, b), t⟩, rfl, .inl ⟨⟨by simpa using hj, q, hq, hb⟩, h⟩, k⟩
theorem PSeq.no {j : Nat} {b : Bool} {q : POp} (hj : (preds af).contains j = true) (hq : getP done j = some q) (hb : q.t = Tr.bool (!b)) (k : PSeq P Γ cs K (n + 1) ((n, ⟨d, op, ty, pos, af, some (j, b), Tr.raw undef⟩) :: done) ((d, Tr.raw undef) :: acc) l) :
  PSeq P Γ cs K n done acc (⟨some d, op, ty, pos, af, some (j, b)⟩ :: l) := ⟨⟨d, op, ty, pos, af, some (j, b), Tr.raw undef⟩, rfl, .inr ⟨⟨by simpa using hj, q, hq, .inl hb⟩, rfl⟩, k⟩
theorem PSeq.pass {j : Nat} {b : Bool} {q : POp} (hj : (preds af).contains j = true) (hq : getP done j = some q) (hb : q.t = Tr.raw undef) (k : PSeq P Γ cs K (n + 1) ((n, ⟨d, op, ty, pos, af, some (j, b), Tr.raw undef⟩) :: done) ((d, Tr.raw undef) :: acc) l) :
  PSeq P Γ cs K n done acc (⟨some d, op, ty, pos, af, some (j, b)⟩ :: l) := ⟨⟨d, op, ty, pos, af, some (j, b), Tr.raw undef⟩, rfl, .inr ⟨⟨by simpa using hj, q, hq, .inr hb⟩, rfl⟩, k⟩
end pseq
structure Seq (L : List Oper) (env : Env) (n : Nat) (done : List (Nat × POp)) (acc : Env) : Prop where
 all : ∀ j, j < n → ∃ p, getP done j = some p
 at_ : ∀ j p, getP done j = some p → j < n ∧ L[j]? = some p.oper
 look : ∀ s t, Lg.look acc s = some t → (∃ j p, getP done j = some p ∧ p.dst = s ∧ p.t = t) ∨ (Lg.look env s = some t ∧ ∀ j (p : POp), getP done j = some p → p.dst ≠ s)
theorem predB_none {done : List (Nat × POp)} {e : Env} {s : Nat} : ∀ {l : List Edge}, (∀ x ∈ l, ∀ p : POp, getP done x.on = some p → p.dst ≠ s) → look (predB done l e) s = look e s
 |[], _ => rfl
 |x :: l, h => by
  have hr := predB_none (done := done) (e := e) (s := s) (l := l) fun y hy => h y (List.mem_cons_of_mem _ hy)
  by_cases hx : Region.binds .any x = true
  ·cases ho : getP done x.on with
   |none => simp only [predB, hx, ho]; exact hr
   |some o =>
    simp only [predB, hx, ho]
    rw [look_cons_ne _ _ (h x List.mem_cons_self o ho)]
    exact hr
  ·have hx : Region.binds .any x = false := by simpa using hx
   simp only [predB, hx]
   exact hr
theorem predB_some {done : List (Nat × POp)} {e : Env} {j : Nat} {p : POp} (hp : getP done j = some p) : ∀ {l : List Edge}, (∃ x ∈ l, Region.binds .any x = true ∧ x.on = j) → (∀ x ∈ l, ∀ q : POp, getP done x.on = some q → q.dst = p.dst → q = p) → look (predB done l e) p.dst = some p.t
 |[], ⟨x, hx, _⟩, _ => by cases hx
 |y :: l, ⟨x, hx, hb, hj⟩, hu => by
  have hu' : ∀ x ∈ l, ∀ q, getP done x.on = some q → q.dst = p.dst → q = p := fun z hz => hu z (List.mem_cons_of_mem _ hz)
  by_cases hy : Region.binds .any y = true
  ·cases ho : getP done y.on with
   |none =>
    simp only [predB, hy, ho]
    rcases List.mem_cons.1 hx with rfl | hx
    ·rw [hj, hp] at ho; cases ho
    ·exact predB_some hp ⟨x, hx, hb, hj⟩ hu'
   |some o =>
    simp only [predB, hy, ho]
    by_cases ed : o.dst = p.dst
    ·have := hu y List.mem_cons_self o ho ed
     subst this
     rw [look_cons_same]
    ·rw [look_cons_ne _ _ ed]
     rcases List.mem_cons.1 hx with rfl | hx
     ·rw [hj, hp] at ho; cases ho; exact absurd rfl ed
     ·exact predB_some hp ⟨x, hx, hb, hj⟩ hu'
  ·have hy' : Region.binds .any y = false := by simpa using hy
   simp only [predB, hy']
   rcases List.mem_cons.1 hx with rfl | hx
   ·exact absurd hb hy
   ·exact predB_some hp ⟨x, hx, hb, hj⟩ hu'
theorem dsts_at {l : List Oper} {i : Nat} {o : Oper} {d : Nat} (h : l[i]? = some o) (hd : o.dst = some d) : d ∈ dsts l := List.mem_filterMap.2 ⟨o, List.mem_of_getElem? h, hd⟩
theorem dsts_inj : ∀ {l : List Oper}, (dsts l).Nodup → ∀ {i j : Nat} {o q : Oper} {d : Nat}, l[i]? = some o → l[j]? = some q → o.dst = some d → q.dst = some d → i = j
 |[], _, i, j, o, q, d, h, _, _, _ => by simp at h
 |x :: l, hn, i, j, o, q, d, hi, hj, ho, hq => by
  have hn2 : (dsts l).Nodup := by
   unfold dsts at hn ⊢
   rw [List.filterMap_cons] at hn
   split at hn
   ·exact hn
   ·exact (List.nodup_cons.1 hn).2
  have hhd : ∀ (k : Nat) (p : Oper), l[k]? = some p → x.dst = some d → p.dst = some d → False := fun k p hk hx hp => by
   unfold dsts at hn
   rw [List.filterMap_cons, hx] at hn
   exact (List.nodup_cons.1 hn).1 (dsts_at hk hp)
  cases i with
  |zero =>
   cases j with
   |zero => rfl
   |succ j =>
    simp at hi hj
    subst hi
    exact (hhd j q hj ho hq).elim
  |succ i =>
   cases j with
   |zero =>
    simp at hi hj
    subst hj
    exact (hhd i o hi hq ho).elim
   |succ j =>
    simp at hi hj
    rw [dsts_inj hn2 hi hj ho hq]
theorem look_anyOf_ne {e : Env} {s : Nat} : ∀ {ds : List Nat}, s ∉ ds → look (anyOf ds e) s = look e s
 |[], _ => rfl
 |d :: ds, h => by
  simp only [List.mem_cons, not_or] at h
  simp only [anyOf]
  rw [look_cons_ne _ _ (fun e => h.1 e.symm)]
  exact look_anyOf_ne h.2
theorem PSeq.run {L : List Oper} {m : Nat} (hb : backOk L = true) (hnd : nodupB (dsts (L.take m)) = true) (hs : ssaFrom L 0 (L.take m) = true) {K : Env → Prop} : ∀ {l : List Oper} {n : Nat} {done : List (Nat × POp)} {acc : Env}, Seq L env n done acc → (∀ j : Nat, l[j]? = (L.take m)[n + j]?) → PSeq P Γ cs K n done acc l → PRun P Γ cs L env K n done acc l
 |[], n, done, acc, _, _, h => h
 |o :: l, n, done, acc, hq, hl, ⟨p, h1, h2, h3⟩ => by
  have hn0 : (L.take m)[n]? = some o := by have := hl 0; simpa using this.symm
  have hnm : n < m := by
   rcases Nat.lt_or_ge n m with h | h
   ·exact h
   ·rw [List.getElem?_eq_none (by rw [List.length_take]; omega)] at hn0; cases hn0
  have hL : L[n]? = some o := by rw [List.getElem?_take, if_pos hnm] at hn0; exact hn0
  have hent : ∀ a w, Den Γ (envAt done p.af (others n 0 L) env) cs a w → Den Γ (rst (slotsOf p.op) acc) cs a w := by
   subst h1
   intro a w d
   refine ⟨d.nodefer, d.tmps, ?_, d.chunks, d.nodup, d.fresh, d.below, d.frame⟩
   intro s t hlk
   obtain ⟨hss, hla⟩ := rst_look hlk
   apply d.env s t
   have hck := ssaFrom_at hs hn0 s hss
   rw [Nat.zero_add] at hck
   have hbk := backFrom_at hb hL
   rw [Nat.zero_add] at hbk
   have hpre : ∀ k ∈ preds p.af, k < n := fun k hk => by
    obtain ⟨e, he, h6, rfl⟩ := mem_preds.1 hk
    exact hbk e he h6
   unfold envAt
   rcases hq.look s t hla with ⟨j, q, hj, rfl, rfl⟩ | ⟨hle, hno⟩
   ·obtain ⟨hjn, hjL⟩ := hq.at_ j q hj
    have hjm : (L.take m)[j]? = some q.oper := by rw [List.getElem?_take, if_pos (by omega)]; exact hjL
    have hjp : j ∈ preds p.af := by
     rcases hck with hck | ⟨k, hk, r, hr, hrd⟩
     ·rcases others_spec hjL (d := q.dst) rfl hck with h6 | h6
      ·omega
      ·exfalso
       obtain ⟨e, he, h7, h8⟩ := mem_preds.1 h6
       have := backFrom_at hb hjL e he h7
       omega
     ·have hkn := hpre k hk
      have hkm : (L.take m)[k]? = some r := by rw [List.getElem?_take, if_pos (by omega)]; exact hr
      have := dsts_inj (nodupB_iff hnd) hjm hkm (d := q.dst) rfl hrd
      rw [this]
      exact hk
    obtain ⟨e, he, h6, h7⟩ := mem_preds.1 hjp
    refine predB_some hj ⟨e, he, h6, h7⟩ ?_
    intro x hx q2 hq2 hd2
    obtain ⟨hxn, hxL⟩ := hq.at_ _ q2 hq2
    have hxm : (L.take m)[x.on]? = some q2.oper := by rw [List.getElem?_take, if_pos (by omega)]; exact hxL
    have := dsts_inj (nodupB_iff hnd) hxm hjm (d := q.dst) (by show some q2.dst = some q.dst; rw [hd2]) rfl
    rw [this, hj] at hq2
    cases hq2
    rfl
   ·rw [predB_none (fun x _ (q : POp) hq' => hno _ q hq')]
    have : s ∉ others n 0 L := by
     rcases hck with hck | ⟨k, hk, r, hr, hrd⟩
     ·exact hck
     ·exfalso
      obtain ⟨q, hqk⟩ := hq.all k (hpre k hk)
      obtain ⟨_, hkL⟩ := hq.at_ k q hqk
      rw [hr] at hkL
      cases hkL
      exact hno k q hqk (by simpa [POp.oper] using hrd)
    rw [look_anyOf_ne this]
    exact hle
  refine ⟨p, h1, h2.imp (fun ⟨h4, h5⟩ => ⟨h4, h5.ent hent⟩) id, PSeq.run hb hnd hs ?_ ?_ h3⟩
  ·subst h1
   refine ⟨?_, ?_, ?_⟩
   ·intro j hj
    by_cases e : j = n
    ·subst e
     exact ⟨p, by simp [getP]⟩
    ·obtain ⟨q, hq'⟩ := hq.all j (by omega)
     refine ⟨q, ?_⟩
     simp only [getP]
     split
     ·rename_i hbq
      exact absurd (Nat.eq_of_beq_eq_true hbq).symm e
     ·exact hq'
   ·intro j q hj
    rcases getP_cons hj with ⟨rfl, rfl⟩ | hj
    ·exact ⟨by omega, hL⟩
    ·obtain ⟨h6, h7⟩ := hq.at_ j q hj
     exact ⟨by omega, h7⟩
   ·intro s t hlk
    have hnew : getP ((n, p) :: done) n = some p := by simp [getP]
    have hold : ∀ j q, getP done j = some q → getP ((n, p) :: done) j = some q := fun j q hj => by
     have := (hq.at_ j q hj).1
     simp only [getP]
     split
     ·rename_i hbq
      have := Nat.eq_of_beq_eq_true hbq
      omega
     ·exact hj
    by_cases e : p.dst = s
    ·subst e
     rw [look_cons_same] at hlk
     cases hlk
     exact .inl ⟨n, p, hnew, rfl, rfl⟩
    ·rw [look_cons_ne _ _ e] at hlk
     rcases hq.look s t hlk with ⟨j, q, hj, h6⟩ | ⟨h6, h7⟩
     ·exact .inl ⟨j, q, hold j q hj, h6⟩
     ·refine .inr ⟨h6, fun j q hj => ?_⟩
      rcases getP_cons hj with ⟨rfl, rfl⟩ | hj
      ·exact e
      ·exact h7 j q hj
  ·intro j
   have := hl (j + 1)
   rw [List.getElem?_cons_succ] at this
   rw [this]
   congr 1
   omega
theorem Seq.start {L : List Oper} {env : Env} : Seq L env 0 [] env := ⟨fun j h => absurd h (by omega), fun j p h => by simp [getP] at h, fun s t h => .inr ⟨h, fun j p hp => by simp [getP] at hp⟩⟩
theorem Cw.region_seq {id : Nat} {l : List Oper} {env : Env} (hm : P.follows .mixedOrders = true) (hb : (backOk l && (nodupB (dsts (l.take (pureLen l))) && (ssaFrom l 0 (l.take (pureLen l)) && tailOk l (pureLen l)))) = true) (hlt : (dsts (l.take (pureLen l))).all (Nat.blt · Γ.n) = true)
  (h : PSeq P Γ cs (fun acc => Ops P Γ l.toArray (l.drop (pureLen l)) acc cs Q) 0 [] env (l.take (pureLen l))) : Cw P Γ (.region id l.toArray true) env cs Q := by
 simp only [Bool.and_eq_true] at hb
 exact Cw.region_pure hm hb.1 hb.2.1 hlt hb.2.2.2 (PSeq.run hb.1 hb.2.1 hb.2.2.1 Seq.start (fun j => by rw [Nat.zero_add]) h)
theorem Cw.region_seqC {id : Nat} {l : List Oper} {env : Env} (hm : P.follows .mixedOrders = true) (hb : (backOk l && (nodupB (dsts (l.take (pureLenC l))) && (ssaFrom l 0 (l.take (pureLenC l)) && tailOk l (pureLenC l)))) = true) (hlt : (dsts (l.take (pureLenC l))).all (Nat.blt · Γ.n) = true)
  (h : PSeq P Γ cs (fun acc => Ops P Γ l.toArray (l.drop (pureLenC l)) acc cs Q) 0 [] env (l.take (pureLenC l))) : Cw P Γ (.region id l.toArray true) env cs Q := by
 simp only [Bool.and_eq_true] at hb
 exact Cw.region_call hm hb.1 hb.2.1 hlt hb.2.2.2 (PSeq.run hb.1 hb.2.1 hb.2.2.1 Seq.start (fun j => by rw [Nat.zero_add]) h)
end drawD
section kinds2
variable {P : Program} {Γ : Ctx} {env env' : Env} {cs cs' cf : List Chunk} {Q : Post} {R : Array Oper}
variable {i : Tmp} {ty : TypeId} {pos : String} {af : Array Edge} {rest : List Oper} {T n : Nat} {t : Tr}
theorem OpW.k_call {c : Call} (h : OpW P Γ (.call c) ty env cs t) : OpW P Γ (.call c) ty env cs t := h
theorem Ops.k_build0 (h : Ops P Γ R (⟨some i, .build T #[], ty, pos, af, none⟩ :: rest) env cs Q) : Ops P Γ R (⟨some i, .build T #[], ty, pos, af, none⟩ :: rest) env cs Q := h
theorem Ops.k_build1 {p0 : Nat × Operand} (h : Ops P Γ R (⟨some i, .build T #[p0], ty, pos, af, none⟩ :: rest) env cs Q) : Ops P Γ R (⟨some i, .build T #[p0], ty, pos, af, none⟩ :: rest) env cs Q := h
theorem Ops.k_buildSlice1 {p0 : Nat × Operand} (h : Ops P Γ R (⟨some i, .buildSlice T n #[p0], ty, pos, af, none⟩ :: rest) env cs Q) : Ops P Γ R (⟨some i, .buildSlice T n #[p0], ty, pos, af, none⟩ :: rest) env cs Q := h
theorem Ops.k_build2 {p0 p1 : Nat × Operand} (h : Ops P Γ R (⟨some i, .build T #[p0, p1], ty, pos, af, none⟩ :: rest) env cs Q) : Ops P Γ R (⟨some i, .build T #[p0, p1], ty, pos, af, none⟩ :: rest) env cs Q := h
theorem Ops.k_buildSlice2 {p0 p1 : Nat × Operand} (h : Ops P Γ R (⟨some i, .buildSlice T n #[p0, p1], ty, pos, af, none⟩ :: rest) env cs Q) : Ops P Γ R (⟨some i, .buildSlice T n #[p0, p1], ty, pos, af, none⟩ :: rest) env cs Q := h
theorem OpV.k_build2 {p0 p1 : Nat × Operand} (h : OpV P Γ (.build T #[p0, p1]) ty env cs t) : OpV P Γ (.build T #[p0, p1]) ty env cs t := h
theorem OpW.k_buildSlice2 {p0 p1 : Nat × Operand} (h : OpW P Γ (.buildSlice T n #[p0, p1]) ty env cs t) : OpW P Γ (.buildSlice T n #[p0, p1]) ty env cs t := h
theorem Ops.k_build3 {p0 p1 p2 : Nat × Operand} (h : Ops P Γ R (⟨some i, .build T #[p0, p1, p2], ty, pos, af, none⟩ :: rest) env cs Q) : Ops P Γ R (⟨some i, .build T #[p0, p1, p2], ty, pos, af, none⟩ :: rest) env cs Q := h
theorem Ops.k_buildSlice3 {p0 p1 p2 : Nat × Operand} (h : Ops P Γ R (⟨some i, .buildSlice T n #[p0, p1, p2], ty, pos, af, none⟩ :: rest) env cs Q) : Ops P Γ R (⟨some i, .buildSlice T n #[p0, p1, p2], ty, pos, af, none⟩ :: rest) env cs Q := h
theorem Ops.k_build4 {p0 p1 p2 p3 : Nat × Operand} (h : Ops P Γ R (⟨some i, .build T #[p0, p1, p2, p3], ty, pos, af, none⟩ :: rest) env cs Q) : Ops P Γ R (⟨some i, .build T #[p0, p1, p2, p3], ty, pos, af, none⟩ :: rest) env cs Q := h
theorem Ops.k_callf (f : Nat) {dd : Option Tmp} {args : Array Operand} {tys : Array TypeId} (h : Ops P Γ R (⟨dd, .call ⟨.value (.func f), args, tys⟩, ty, pos, af, none⟩ :: rest) env cs Q) : Ops P Γ R (⟨dd, .call ⟨.value (.func f), args, tys⟩, ty, pos, af, none⟩ :: rest) env cs Q := h
theorem Ops.k_calla {fo : Operand} {dd : Option Tmp} {args : Array Operand} {tys : Array TypeId} (h : Ops P Γ R (⟨dd, .call ⟨.value fo, args, tys⟩, ty, pos, af, none⟩ :: rest) env cs Q) : Ops P Γ R (⟨dd, .call ⟨.value fo, args, tys⟩, ty, pos, af, none⟩ :: rest) env cs Q := h
theorem OpW.k_callf (f : Nat) {args : Array Operand} {tys : Array TypeId} (h : OpW P Γ (.call ⟨.value (.func f), args, tys⟩) ty env cs t) : OpW P Γ (.call ⟨.value (.func f), args, tys⟩) ty env cs t := h
end kinds2
theorem goPk {p : Prop} (h : p := by (first | exact pick0 | (apply pickS; first | exact pick0 | (apply pickS; first | exact pick0 | (apply pickS; first | exact pick0 | (apply pickS; first | exact pick0 | (apply pickS; first | exact pick0 | (apply pickS; first | exact pick0 | (apply pickS; first | exact pick0 | (apply pickS; first | exact pick0 | (apply pickS; first | exact pick0 | (apply pickS; exact pick0))))))))))); all_goals fail) : p := h
theorem goSub {p : Prop} (h : p := by repeat' (first | exact Sub.nil | refine Sub.cons rfl ?_)) : p := h
theorem goTk {p : Prop} (h : p := by repeat' (first | exact Take.nil | refine Take.cons goPk ?_)) : p := h
theorem goOe {p : Prop} (h : p := by first | exact OutE.tmp rfl | exact OutE.agg inferInstance rfl rfl | exact OutE.one inferInstance rfl) : p := h
attribute [irreducible] Cw Ops Then InB Fin Spec PFn Ent Outs Tr.agg Tr.tup Tr.ref Tr.sl Tr.eptr Tr.qsl Tr.raw Tr.any Chunk.box Chunk.own Chunk.que Chunk.strm Parts OpV OpW PRun PSeq Take Gen GenO PFnO
end Lg
