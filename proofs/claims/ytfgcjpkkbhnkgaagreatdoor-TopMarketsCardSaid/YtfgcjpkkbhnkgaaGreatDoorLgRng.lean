/- A part of the proof of a law of this seat: it adds no condition. By an AI agent. -/
import Derived.RangeFuncIn
import Derived.RangeFuncRecord
import Derived.Test.YtfgcjpkkbhnkgaaGreatDoorLgSub2
section
set_option linter.all false
namespace Lg
open Go

/-! ### a part of an owned slice, empty ones too; slices.Clip -/
section sub3
variable {P : Program} {Γ : Ctx} {env env' : Env} {cs cs' cf : List Chunk} {Q : Post} {R : Array Oper}
variable {i : Tmp} {ty : TypeId} {pos : String} {af : Array Edge} {rest : List Oper}
variable {x y z : Operand} {T : TypeId} {k : IntKind} {p q : Int}

/-- s[p:] of an owned slice, as a value -/
theorem OpV.slice_rawl {E kk bb zs} [hS : TySl P T E kk bb zs] {ad : Option Addr} {n cap : Nat} (hx : ev env x = some (.raw (.slice ad n cap))) (hy : ev env y = some (.raw (.int k p))) (h0 : 0 ≤ p ∧ p ≤ n) : OpV P Γ (.slice T x (some y) none none) ty env cs (.raw (.slice (if cap = p.toNat then ad else ad.map (·.add (p.toNat * kk))) (n - p.toNat) (cap - p.toNat))) := by
 unfold OpV
 intro a w d
 have hv := rd_raw (d.ev hx)
 have hp' := rd_raw (d.ev hy)
 have hrun := run_slice_parts (P := P) (t := T) (kk := kk) (a := ad) (bounds_l (P := P) (k := k) (w := w) (len := n) (cap := cap) h0.1 (by omega))
 exact ⟨_, by simp [execOp, hv, hp', hrun] <;> rfl, raw_self _⟩
end sub3
end Lg
end
section
set_option linter.all false
namespace Lg
open Go

/-! ### a range over a function -/
section rng
variable {P : Program} {Γ : Ctx} {env env' : Env} {cs cs' cf : List Chunk} {Q : Post} {R : Array Oper}
variable {i : Tmp} {ty : TypeId} {pos : String} {af : Array Edge} {rest : List Oper}

theorem roundIn_mono {F : Fence} {n : Nat} {l : Nat} {f : FuncId} {tmps : Array Value} {assign body : Code} {w : World} {R R' : Ending → World → Prop} (h : RoundIn F n P l f tmps assign body w R) (hR : ∀ e w, R e w → R' e w) : RoundIn F n P l f tmps assign body w R' :=
 ⟨h.1, fun c cs hr => let ⟨e, w', r, x⟩ := h.2 c cs hr; ⟨e, w', hR _ _ r, x⟩⟩
theorem wpIn_depth {F : Fence} (hd : F.depth = none) {n m : Nat} {c : Code} {Q : Exit → Act → World → Prop} {a : Act} {w : World} (h : c.wpIn F n P Q a w) : c.wpIn F m P Q a w :=
 fun b k cs hro hb _ => h b k cs hro hb (fun d h => by rw [hd] at h; cases h)

/-- what is known behind a call -/
abbrev After (M : Nat → Prop) (cin : List Chunk) (post : Tr → List Chunk → Prop) (w : World) : Ending → World → Prop := fun e w' =>
 ∃ v r cs', e = .returned v ∧ post r cs' ∧ r.rd w' (av M cs') v ∧ (∀ c ∈ cs', c.holds w' (av M cs')) ∧ (fps cs').Nodup ∧
   (∀ b ∈ fps cs', b < w'.heap.size ∧ ¬ M b ∧ (b ∈ fps cin ∨ w.heap.size ≤ b)) ∧ Frm (fps cin) w w'

/-- a call of yield: one round of loop l -/
def YSpec (P : Program) (l : Nat) (args : List Tr) (cin : List Chunk) (post : Tr → List Chunk → Prop) : Prop :=
 ∀ (M : Nat → Prop) (w : World) (vs : List Value), RdL w (av M cin) args vs → (∀ c ∈ cin, c.holds w (av M cin)) → (fps cin).Nodup → (∀ b ∈ fps cin, b < w.heap.size ∧ ¬ M b) → (∀ b, M b → b < w.heap.size) →
  ∃ fn tmps assign body, (Instr.yield l vs.toArray).run P w = .ok (.round l fn tmps assign body) w ∧ RoundIn Fence.wide 8 P l fn tmps assign body w (After M cin post w)

theorem call_coreG {C : (Ending → World → Prop) → Prop} {args : List Tr} {cin : List Chunk} {post : Tr → List Chunk → Prop} {a : Act} {w : World} (d : Den Γ env cs a w) (hp : cs.Perm (cin ++ cf)) {vs : List Value} (hr : RdL w (av Γ.M cs) args vs)
  (hC : ∀ R R', (∀ e w', R e w' → R' e w') → C R → C R')
  (hs : ∀ (M : Nat → Prop), RdL w (av M cin) args vs → (∀ c ∈ cin, c.holds w (av M cin)) → (fps cin).Nodup → (∀ b ∈ fps cin, b < w.heap.size ∧ ¬ M b) → (∀ b, M b → b < w.heap.size) → C (After M cin post w)) :
  C fun e w' => ∃ v r cs', e = .returned v ∧ post r cs' ∧ r.rd w' (av Γ.M (cs' ++ cf)) v ∧ Den Γ env (cs' ++ cf) a w' := by
 have hfps : ∀ b, b ∈ fps cs ↔ b ∈ fps cin ∨ b ∈ fps cf := fun b => by rw [(fps_perm hp).mem_iff]; simp [fps]
 have hav : ∀ c1 : List Chunk, av (fun b => Γ.M b ∨ b ∈ fps cf) c1 = av Γ.M (c1 ++ cf) := by
  intro c1
  funext b
  simp only [av, fps, List.flatMap_append, List.mem_append]
  apply propext
  constructor
  ·rintro ⟨h1, h2⟩; exact ⟨fun h => h1 (.inl h), fun h => h.elim h2 fun h => h1 (.inr h)⟩
  ·rintro ⟨h1, h2⟩; exact ⟨fun h => h.elim h1 fun h => h2 (.inr h), fun h => h2 (.inl h)⟩
 have d' := d.perm hp
 have hnd := d'.nodup
 have hfa : fps (cin ++ cf) = fps cin ++ fps cf := by simp [fps]
 rw [hfa] at hnd
 obtain ⟨n1, n2, n3⟩ := List.nodup_append.1 hnd
 refine hC _ _ ?_ (hs (fun b => Γ.M b ∨ b ∈ fps cf) (by rw [hav, ← av_perm hp]; exact hr) (fun c hc => by rw [hav]; exact d'.chunks c (by simp [hc])) n1 ?_ ?_)
 ·rintro e w' ⟨v, r, cs', rfl, hpost, hrd, hch, hndc, hfr, hfm⟩
  rw [hav] at hrd hch
  have hold : ∀ b ∈ fps cf, b < w.heap.size → w'.heap[b]? = w.heap[b]? := fun b hb hlt => hfm.block b hlt fun hm => n3 b hm b hb rfl
  have hsame : SameOn w w' (av Γ.M (cin ++ cf)) (av Γ.M (cs' ++ cf)) := by
   intro b hb ⟨h1, h2⟩
   rw [hfa] at h2
   simp only [List.mem_append, not_or] at h2
   refine ⟨⟨h1, ?_⟩, hfm.block b hb h2.1⟩
   simp only [fps, List.flatMap_append, List.mem_append, not_or]
   refine ⟨fun hm => ?_, h2.2⟩
   obtain ⟨_, _, h5⟩ := hfr b hm
   rcases h5 with h5 | h5
   ·exact h2.1 h5
   ·omega
  refine ⟨v, r, cs', rfl, hpost, hrd, d'.world hsame ?_ ?_ ?_ ⟨hfm.os, hfm.tape, hfm.output, hfm.size, fun b hb hn => hfm.block b hb fun hm => hn (by rw [hfa]; simp [hm]), hfm.drawn⟩⟩
  ·intro c hc
   rcases List.mem_append.1 hc with h | h
   ·exact hch c h
   ·exact c.mono (fun b hb hlt => hold b (List.mem_flatMap.2 ⟨c, h, hb⟩) hlt) hsame (d'.chunks c (by simp [h]))
  ·have : fps (cs' ++ cf) = fps cs' ++ fps cf := by simp [fps]
   rw [this]
   refine List.nodup_append.2 ⟨hndc, n2, ?_⟩
   intro x hx y hy e
   subst e
   obtain ⟨_, h4, h5⟩ := hfr x hx
   exact h4 (.inr hy)
  ·intro b hb
   simp only [fps, List.flatMap_append, List.mem_append] at hb
   rcases hb with hb | hb
   ·obtain ⟨h3, h4, h5⟩ := hfr b hb
    refine ⟨h3, fun h => h4 (.inl h), ?_⟩
    rcases h5 with h5 | h5
    ·exact (d'.fresh b (by rw [hfa]; simp [h5])).2.2
    ·have := d.frame.size
     exact .inr (by omega)
   ·obtain ⟨h3, h4, h5⟩ := d'.fresh b (by rw [hfa]; simp; exact .inr hb)
    exact ⟨Nat.lt_of_lt_of_le h3 hfm.size, h4, h5⟩
 ·intro b hb
  obtain ⟨h1, h2, h3⟩ := d'.fresh b (by rw [hfa]; simp [hb])
  exact ⟨h1, fun h => h.elim h2 fun h => n3 b hb b h rfl⟩
 ·intro b hb
  rcases hb with hb | hb
  ·exact Nat.lt_of_lt_of_le (d.below b hb) d.frame.size
  ·exact (d'.fresh b (by rw [hfa]; simp [hb])).1

/-- yield is called -/
theorem Ops.callY {l : Nat} {g : Operand} {xs : List Operand} {ts : Array TypeId} {args : List Tr} {cin : List Chunk} {post : Tr → List Chunk → Prop} (hg : ev env g = some (.raw (.func (.yield l) #[] #[]))) (hs : YSpec P l args cin post) (ha : Evs env xs args) (hp : cs.Perm (cin ++ cf)) (hi : Nat.blt i Γ.n = true)
  (kont : ∀ r cs', post r cs' → Ops P Γ R rest ((i, r) :: env) (cs' ++ cf) Q) : Ops P Γ R (⟨some i, .call ⟨.value g, xs.toArray, ts⟩, ty, pos, af, none⟩ :: rest) env cs Q := by
 unfold Ops at kont ⊢
 intro a w d
 refine wpListIn_plain rfl fun K hK => ?_
 have hgv := rd_raw (d.ev hg)
 obtain ⟨fn, tmps, assign, body, hy, hR⟩ := call_coreG (C := fun R => ∃ fn tmps assign body, (Instr.yield l (xs.map a.eval).toArray).run P w = .ok (.round l fn tmps assign body) w ∧ RoundIn Fence.wide 8 P l fn tmps assign body w R) d hp (ha.rd d)
  (fun R R' hRR ⟨fn, tmps, assign, body, h1, h2⟩ => ⟨fn, tmps, assign, body, h1, roundIn_mono h2 hRR⟩) (fun M h1 h2 h3 h4 h5 => hs M w _ h1 h2 h3 h4 h5)
 have hrun : (execOp a.eval ⟨some i, .call ⟨.value g, xs.toArray, ts⟩, ty, pos, af, none⟩).run P w = .ok (.round l fn tmps assign body) w := by
  simp [execOp, resolve, invoke, Deferred.ofValue, hgv] at hy ⊢
  exact hy
 refine ⟨fun _ _ => trivial, ?_⟩
 rw [Oper.semAt_eq _ _ _ (nd_of_run hrun (by intro d h; cases h)), hrun]
 refine ⟨fun h => by simp [fen, Fence.wide] at h, ?_⟩
 refine roundIn_mono (F := fen Γ) (n := 8) (R := fun e w' => ∃ v r cs', e = .returned v ∧ post r cs' ∧ r.rd w' (av Γ.M (cs' ++ cf)) v ∧ Den Γ env (cs' ++ cf) a w') hR ?_
 rintro e w' ⟨v, r, cs', rfl, hpost, hrd, hd⟩
 exact hK _ _ (kont r cs' hpost _ _ (hd.put hi hrd))

/-- what an iterator does: it hands xs to yield, one after the other, until yield says no -/
def IterSpec (P : Program) (gf : Nat) (caps : List Value) (cin cout : List Chunk) (xs : List (List Tr)) : Prop :=
 ∀ (l : Nat) (J : Nat → Chunk → Prop) (Jx : Chunk → Prop),
  (∀ k args c, xs[k]? = some args → J k c → YSpec P l args [c] (fun r cs => (r = Tr.bool true ∧ ∃ c', J (k + 1) c' ∧ cs = [c']) ∨ (r = Tr.bool false ∧ ∃ c', Jx c' ∧ cs = [c']))) →
  ∀ c0, J 0 c0 → Spec P gf (Tr.raw (.func (.yield l) #[] #[]) :: caps.map Tr.raw) (c0 :: cin) (fun r cs => (∃ c, J xs.length c ∧ cs = c :: cout) ∨ ∃ c, Jx c ∧ cs = c :: cout)

/-! the loop's record; the variables of the frame around; all that a round may turn -/
def Chunk.lrec (l : Nat) (r : Loop) : Chunk := ⟨[l], fun w _ => w.heap[l]? = some (.loop r), fun hb _ h => (hb l (by simp) (Array.getElem?_eq_some_iff.1 h).1).trans h⟩
def Chunk.envc (env : Env) (tmps : Array Value) : Chunk := ⟨[], fun w A => ∀ i t, look env i = some t → t.rd w A (tmps.getD i undef), fun _ h k i t hl => t.mono h (k i t hl)⟩
def Chunk.lp (l : Nat) (r : Loop) (env : Env) (cs : List Chunk) : Chunk := Chunk.bun (Chunk.lrec l r :: Chunk.envc env r.tmps :: cs)
theorem lp_fp (l : Nat) (r : Loop) (env : Env) (cs : List Chunk) : (Chunk.lp l r env cs).fp = l :: fps cs := by
 unfold Chunk.lp Chunk.bun fps Chunk.lrec Chunk.envc
 simp
theorem lp_fps (l : Nat) (r : Loop) (env : Env) (cs : List Chunk) : fps [Chunk.lp l r env cs] = l :: fps cs := by
 simp only [fps, List.flatMap_cons, List.flatMap_nil, List.append_nil]
 exact lp_fp l r env cs
theorem lp_holds {l : Nat} {r : Loop} {env : Env} {cs : List Chunk} {w : World} {A : Nat → Prop} : (Chunk.lp l r env cs).holds w A ↔ w.heap[l]? = some (.loop r) ∧ (∀ i t, look env i = some t → t.rd w A (r.tmps.getD i undef)) ∧ ∀ c ∈ cs, c.holds w A := by
 unfold Chunk.lp Chunk.bun
 simp only [List.mem_cons, forall_eq_or_imp]
 exact Iff.rfl

/-- the parameters of a round -/
def prm : List Nat → List Tr → Env → Env
 |p :: ps, t :: ts, e => prm ps ts ((p, t) :: e)
 |_, _, e => e
theorem foldl_size : ∀ (l : List (Nat × Value)) (t : Array Value), (l.foldl (fun t (p, v) => t.setIfInBounds p v) t).size = t.size
 |[], t => rfl
 |(p, v) :: l, t => by rw [List.foldl_cons, foldl_size l]; simp
theorem prm_rd {w : World} {A : Nat → Prop} : ∀ {ps : List Nat} {ts : List Tr} {vs : List Value} {e : Env} {tm : Array Value}, RdL w A ts vs → (∀ p ∈ ps, p < tm.size) → (∀ i t, look e i = some t → t.rd w A (tm.getD i undef)) →
  ∀ i t, look (prm ps ts e) i = some t → t.rd w A (((ps.zip vs).foldl (fun t (p, v) => t.setIfInBounds p v) tm).getD i undef)
 |[], ts, vs, e, tm, _, _, h, i, t, hl => by
  simp only [prm] at hl
  simpa using h i t hl
 |p :: ps, [], vs, e, tm, hr, _, h, i, t, hl => by
  simp only [prm] at hl
  have : vs = [] := hr
  subst this
  simpa using h i t hl
 |p :: ps, u :: ts, _, e, tm, ⟨v, rest, rfl, hu, hr⟩, hp, h, i, t, hl => by
  simp only [prm] at hl
  rw [List.zip_cons_cons, List.foldl_cons]
  refine prm_rd hr (fun q hq => by simp only [Array.size_setIfInBounds]; exact hp q (List.mem_cons_of_mem _ hq)) ?_ i t hl
  intro j s hj
  have hpt := hp p (by simp)
  by_cases e1 : p = j
  ·subst e1
   rw [look_cons_same] at hj
   cases hj
   rw [Array.getD_eq_getD_getElem?, Array.getElem?_setIfInBounds_self, if_pos hpt]
   exact hu
  ·rw [look_cons_ne _ _ e1] at hj
   have := h j s hj
   rw [Array.getD_eq_getD_getElem?] at this ⊢
   rwa [Array.getElem?_setIfInBounds_ne e1]

/-- how a round may be left -/
def RPost (Γ : Ctx) (I : List Chunk → Prop) (Ix : Code → List Chunk → Prop) : Post
 | .normal, env, cs => ∃ cs2, Ent Γ env cs [] cs2 ∧ I cs2
 | .ret, env, cs => ∃ cs2, Ent Γ env cs [] cs2 ∧ Ix .ret cs2
 | .exit id, env, cs => ∃ cs2, Ent Γ env cs [] cs2 ∧ Ix (.exit id) cs2
 | .goto t, env, cs => ∃ cs2, Ent Γ env cs [] cs2 ∧ Ix (.goto t) cs2
 |_, _, _ => False
def NoX : Post := fun _ _ _ => False

/-- a round, out of the walks of its two codes -/
theorem yspec_of {l : Nat} {r : Loop} {ps : List Nat} {n : Nat} {csk : List Chunk} {args : List Tr} {I : List Chunk → Prop} {Ix : Code → List Chunk → Prop} (hrs : r.state = .ready) (hrp : r.pending = none) (hrn : r.tmps.size = n) (hps : r.params = ps.toArray) (hpn : ∀ p ∈ ps, p < n) (hal : args.length = ps.length)
  (hbody : ∀ w0 own0 M, Cw P ⟨w0, own0, M, n, some l, []⟩ r.assign (prm ps args env) csk (Then (fun env1 cs1 => ∀ w0 own0, Cw P ⟨w0, own0, M, n, some l, []⟩ r.body env1 cs1 (RPost ⟨w0, own0, M, n, some l, []⟩ I Ix)) NoX)) :
  YSpec P l args [Chunk.lp l r env csk] (fun rr cs => (rr = Tr.bool true ∧ ∃ c', (∃ cs2, I cs2 ∧ c' = Chunk.lp l r env cs2) ∧ cs = [c']) ∨ (rr = Tr.bool false ∧ ∃ c', (∃ j cs2, Ix j cs2 ∧ c' = Chunk.lp l { r with state := .done, pending := some j } env cs2) ∧ cs = [c'])) := by
 intro M w vs hr hch hnd hlt hM
 have hfps := lp_fps l r env csk
 rw [hfps] at hnd hlt
 have hc := hch _ (List.mem_singleton.2 rfl)
 rw [lp_holds] at hc
 obtain ⟨hrec, henv, hcs⟩ := hc
 have hav : ∀ c2 : List Chunk, ∀ q : Loop, av M [Chunk.lp l q env c2] = av (fun b => M b ∨ b = l) c2 := by
  intro c2 q
  funext b
  simp only [av, lp_fps, List.mem_cons, not_or]
  apply propext
  constructor
  ·rintro ⟨h1, h2, h3⟩; exact ⟨⟨h1, h2⟩, h3⟩
  ·rintro ⟨⟨h1, h2⟩, h3⟩; exact ⟨h1, h2, h3⟩
 rw [hav] at hr henv hcs
 have hlw : l < w.heap.size := (hlt l (by simp)).1
 have hlM : ¬ M l := (hlt l (by simp)).2
 rw [List.nodup_cons] at hnd
 have hsz : vs.toArray.size = r.params.size := by rw [hps]; simp [hr.length, hal]
 refine ⟨_, _, _, _, run_yield hrec hsz, ?_⟩
 refine roundIn_of_wpIn trivial ?_
 have hb := hbody w (fps csk) (fun b => M b ∨ b = l)
 unfold Cw at hb
 have hzip : (r.params.zip vs.toArray).foldl (fun tmps (t, a) => tmps.setIfInBounds t a) r.tmps = (ps.zip vs).foldl (fun t (p, v) => t.setIfInBounds p v) r.tmps := by
  rw [hps]
  simp [← Array.foldl_toList]
 have d0 : Den ⟨w, fps csk, fun b => M b ∨ b = l, n, some l, []⟩ (prm ps args env) csk { tmps := (r.params.zip vs.toArray).foldl (fun tmps (t, a) => tmps.setIfInBounds t a) r.tmps, defers := [] } w := by
  refine ⟨rfl, by simp only [hzip, foldl_size]; exact hrn, ?_, hcs, hnd.2, ?_, ?_, Frm.refl _ _⟩
  ·intro i t hl
   simp only [hzip]
   exact prm_rd hr (fun p hp => by rw [hrn]; exact hpn p hp) henv i t hl
  ·intro b hb
   have := hlt b (by simp [hb])
   exact ⟨this.1, fun h => h.elim this.2 (fun e => hnd.1 (e ▸ hb)), .inl hb⟩
  ·intro b hb
   rcases hb with hb | rfl
   ·exact hM b hb
   ·exact hlw
 refine wpIn_mono (wpIn_depth (n := 9) (m := 8) rfl (hb _ _ d0)) ?_
 rintro e a1 w1 ⟨env1, cs1, hq, d1⟩
 cases e with
 |normal =>
  unfold Then at hq
  have hl1 : w1.heap[l]? = some (.loop r) := (d1.frame.block l hlw hnd.1).trans hrec
  have hlw1 : l < w1.heap.size := (Array.getElem?_eq_some_iff.1 hl1).1
  refine ⟨_, run_beginRound hl1 hrs, ?_⟩
  obtain ⟨w2, hw2⟩ : ∃ w2, w2 = w1.putObj l (.loop { r with state := .busy }) := ⟨_, rfl⟩
  rw [← hw2]
  have hs12 : SameOn w1 w2 (av (fun b => M b ∨ b = l) cs1) (av (fun b => M b ∨ b = l) cs1) := by
   intro b hb ⟨m1, m2⟩
   exact ⟨⟨m1, m2⟩, by rw [hw2]; exact World.putObj_heap_other (fun e => m1 (.inr e))⟩
  have hsz12 : w2.heap.size = w1.heap.size := by rw [hw2]; simp
  have hln : l ∉ fps cs1 := fun h => (d1.fresh l h).2.1 (.inr rfl)
  have d2 : Den ⟨w2, fps cs1, fun b => M b ∨ b = l, n, some l, []⟩ env1 cs1 a1 w2 := by
   refine ⟨d1.nodefer, d1.tmps, fun i t h => t.mono hs12 (d1.env i t h), ?_, d1.nodup, ?_, ?_, Frm.refl _ _⟩
   ·intro c hc
    refine c.mono (fun b hb _ => ?_) hs12 (d1.chunks c hc)
    rw [hw2]
    exact World.putObj_heap_other (fun e => hln (by rw [← e]; exact List.mem_flatMap.2 ⟨c, hc, hb⟩))
   ·intro b hb
    have := d1.fresh b hb
    exact ⟨by rw [hsz12]; exact this.1, this.2.1, .inl hb⟩
   ·intro b hb
    have h1 := d1.below b hb
    have h2 := d1.frame.size
    simp only at h1 h2 ⊢
    omega
  have hb2 := hq w2 (fps cs1)
  unfold Cw at hb2
  refine wpIn_mono (wpIn_depth (n := 9) (m := 8) rfl (hb2 _ _ d2)) ?_
  rintro e a3 w3 ⟨env3, cs3, hq3, d3⟩
  have hl3 : w3.heap[l]? = some (.loop { r with state := .busy }) := by
   rw [d3.frame.block l (by simp only [hsz12]; exact hlw1) hln]
   simp only [hw2]
   exact World.putObj_heap_same hlw1
  have hlw3 : l < w3.heap.size := (Array.getElem?_eq_some_iff.1 hl3).1
  have fin : ∀ (q : Loop) (b : Bool) (cs2 : List Chunk) (post : Tr → List Chunk → Prop), q.tmps = r.tmps → Ent ⟨w2, fps cs1, fun b => M b ∨ b = l, n, some l, []⟩ env3 cs3 [] cs2 → post (Tr.bool b) [Chunk.lp l q env cs2] →
    After M [Chunk.lp l r env csk] post w (.returned (.bool b)) (w3.putObj l (.loop q)) := by
   intro q b cs2 post hqt hE hpost
   unfold Ent at hE
   have d4 := hE _ _ d3
   have hln2 : l ∉ fps cs2 := fun h => (d4.fresh l h).2.1 (.inr rfl)
   have hfresh2 : ∀ x ∈ fps cs2, x ∈ fps csk ∨ w.heap.size ≤ x := by
    intro x hx
    have h1 := (d4.fresh x hx).2.2
    simp only at h1
    rcases h1 with h1 | h1
    ·exact (d1.fresh x h1).2.2
    ·have := d1.frame.size
     simp only at this
     exact .inr (by omega)
   have hblk : ∀ x, x < w.heap.size → x ∉ fps csk → x ≠ l → (w3.putObj l (.loop q)).heap[x]? = w.heap[x]? := by
    intro x hx hn hne
    rw [World.putObj_heap_other hne]
    have h1 : x ∉ fps cs1 := fun h => by
     rcases (d1.fresh x h).2.2 with h2 | h2
     ·exact hn h2
     ·simp only at h2; omega
    have hx1 : x < w1.heap.size := Nat.lt_of_lt_of_le hx d1.frame.size
    rw [d3.frame.block x (by simp only [hsz12]; exact hx1) h1]
    simp only [hw2]
    rw [World.putObj_heap_other hne]
    exact d1.frame.block x hx hn
   have hs : SameOn w (w3.putObj l (.loop q)) (av (fun b => M b ∨ b = l) csk) (av (fun b => M b ∨ b = l) cs2) := by
    intro x hx ⟨m1, m2⟩
    refine ⟨⟨m1, fun h => ?_⟩, hblk x hx m2 (fun e => m1 (.inr e))⟩
    rcases hfresh2 x h with h2 | h2
    ·exact m2 h2
    ·omega
   have hs3 : SameOn w3 (w3.putObj l (.loop q)) (av (fun b => M b ∨ b = l) cs2) (av (fun b => M b ∨ b = l) cs2) := by
    intro x hx ⟨m1, m2⟩
    exact ⟨⟨m1, m2⟩, World.putObj_heap_other (fun e => m1 (.inr e))⟩
   have hsz3 : w.heap.size ≤ w3.heap.size := by
    have h1 := d1.frame.size
    have h2 := d3.frame.size
    simp only [hsz12] at h1 h2
    omega
   refine ⟨.bool b, Tr.bool b, [Chunk.lp l q env cs2], rfl, hpost, raw_self _, ?_, ?_, ?_, ?_⟩
   ·intro c hc
    rw [List.mem_singleton] at hc
    subst hc
    rw [hav, lp_holds]
    refine ⟨World.putObj_heap_same hlw3, fun i t hl => ?_, fun c hc => ?_⟩
    ·rw [hqt]
     exact t.mono hs (henv i t hl)
    ·refine c.mono (fun b hb _ => World.putObj_heap_other (fun e => hln2 (by rw [← e]; exact List.mem_flatMap.2 ⟨c, hc, hb⟩))) hs3 (d4.chunks c hc)
   ·rw [lp_fps, List.nodup_cons]
    exact ⟨hln2, d4.nodup⟩
   ·intro x hx
    rw [lp_fps] at hx
    rw [hfps]
    rcases List.mem_cons.1 hx with rfl | hx
    ·exact ⟨by simp only [World.putObj_size]; exact hlw3, hlM, .inl (by simp)⟩
    ·refine ⟨by simp only [World.putObj_size]; exact (d4.fresh x hx).1, fun h => (d4.fresh x hx).2.1 (.inl h), ?_⟩
     rcases hfresh2 x hx with h | h
     ·exact .inl (by simp [h])
     ·exact .inr h
   ·rw [hfps]
    refine ⟨?_, ?_, ?_, by simp only [World.putObj_size]; exact hsz3, fun x hx hn => ?_, fun hS => ?_⟩
    ·have h1 := d1.frame.os; have h2 := d3.frame.os; simp only [hw2, World.putObj] at h1 h2 ⊢; exact h2.trans h1
    ·have h1 := d1.frame.tape; have h2 := d3.frame.tape; simp only [hw2, World.putObj] at h1 h2 ⊢; exact h2.trans h1
    ·have h1 := d1.frame.output; have h2 := d3.frame.output; simp only [hw2, World.putObj] at h1 h2 ⊢; exact h2.trans h1
    ·simp only [List.mem_cons, not_or] at hn
     exact hblk x hx hn.2 hn.1
    ·have h1 := d1.frame.drawn hS; have h2 := d3.frame.drawn hS; simp only [hw2, World.putObj] at h1 h2 ⊢; exact Nat.le_trans h1 h2
  cases e with
  |normal =>
   obtain ⟨cs2, hE, hI⟩ := hq3
   refine ⟨_, _, run_endRound none hl3, ?_⟩
   refine fin _ true cs2 _ rfl hE (.inl ⟨rfl, _, ⟨cs2, hI, ?_⟩, rfl⟩)
   congr 1
   cases r
   simp only at hrs hrp ⊢
   subst hrs hrp
   rfl
  |ret =>
   obtain ⟨cs2, hE, hI⟩ := hq3
   exact ⟨_, _, run_endRound (some .ret) hl3, fin _ false cs2 _ rfl hE (.inr ⟨rfl, _, ⟨_, cs2, hI, rfl⟩, rfl⟩)⟩
  |exit id =>
   obtain ⟨cs2, hE, hI⟩ := hq3
   exact ⟨_, _, run_endRound (some (.exit id)) hl3, fin _ false cs2 _ rfl hE (.inr ⟨rfl, _, ⟨_, cs2, hI, rfl⟩, rfl⟩)⟩
  |goto t =>
   obtain ⟨cs2, hE, hI⟩ := hq3
   exact ⟨_, _, run_endRound (some (.goto t)) hl3, fin _ false cs2 _ rfl hE (.inr ⟨rfl, _, ⟨_, cs2, hI, rfl⟩, rfl⟩)⟩
  |panic ch => exact hq3.elim
  |outgrown => exact hq3.elim
 |ret => unfold Then NoX at hq; exact hq.elim
 |exit id => unfold Then NoX at hq; exact hq.elim
 |goto t => unfold Then NoX at hq; exact hq.elim
 |panic ch => unfold Then NoX at hq; exact hq.elim
 |outgrown => unfold Then NoX at hq; exact hq.elim
theorem RPost.norm {I : List Chunk → Prop} {Ix : Code → List Chunk → Prop} {cs2 : List Chunk} (he : Ent Γ env cs [] cs2) (h : I cs2) : RPost Γ I Ix .normal env cs := ⟨cs2, he, h⟩
theorem RPost.ret {I : List Chunk → Prop} {Ix : Code → List Chunk → Prop} {cs2 : List Chunk} (he : Ent Γ env cs [] cs2) (h : Ix .ret cs2) : RPost Γ I Ix .ret env cs := ⟨cs2, he, h⟩
end rng
attribute [irreducible] YSpec RPost NoX Chunk.lp
end Lg
end
