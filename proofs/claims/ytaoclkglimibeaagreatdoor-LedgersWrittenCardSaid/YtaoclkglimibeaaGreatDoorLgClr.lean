/- A part of the proof of a law of this seat: it adds no condition. By an AI agent. -/
import Derived.RangeFuncIn
import Derived.RangeFuncRecord
import Derived.Test.YtaoclkglimibeaaGreatDoorLgOrd
section
set_option linter.all false
namespace Lg
open Go

/-! ### a range over a function -/
section rng
variable {P : Program} {Γ : Ctx} {env env' : Env} {cs cs' cf : List Chunk} {Q : Post} {R : Array Oper}
variable {i : Tmp} {ty : TypeId} {pos : String} {af : Array Edge} {rest : List Oper}

theorem wpIn_depth {F : Fence} (hd : F.depth = none) {n m : Nat} {c : Code} {Q : Exit → Act → World → Prop} {a : Act} {w : World} (h : c.wpIn F n P Q a w) : c.wpIn F m P Q a w :=
  fun b k cs hro hb _ => h b k cs hro hb (fun d h => by rw [hd] at h; cases h)

/-- what is known behind a call -/
abbrev After (M : Nat → Prop) (cin : List Chunk) (post : Tr → List Chunk → Prop) (w : World) : Ending → World → Prop := fun e w' =>
  ∃ v r cs', e = .returned v ∧ post r cs' ∧ r.rd w' (av M cs') v ∧ (∀ c ∈ cs', c.holds w' (av M cs')) ∧ (fps cs').Nodup ∧
      (∀ b ∈ fps cs', b < w'.heap.size ∧ ¬ M b ∧ (b ∈ fps cin ∨ w.heap.size ≤ b)) ∧ Frm (fps cin) w w'

/-- a call of yield: one round of loop l -/
def YSpec (P : Program) (l : Nat) (args : List Tr) (cin : List Chunk) (post : Tr → List Chunk → Prop) : Prop :=
  ∀ (M : Nat → Prop) (w : World) (vs : List Value), RdL w (av M cin) args vs → (∀ c ∈ cin, c.holds w (av M cin)) → (fps cin).Nodup → (∀ b ∈ fps cin, b < w.heap.size ∧ ¬ M b) → (∀ b, M b → b < w.heap.size) →
    ∃ fn tmps assign body, (Instr.yield l vs.toArray).run P w = .ok (.round l fn tmps assign body) w ∧ RoundIn Fence.wide 8 P l fn tmps assign body w (After M cin post w)

/-- what an iterator does: it hands xs to yield, one after the other, until yield says no -/
def IterSpec (P : Program) (gf : Nat) (caps : List Value) (cin cout : List Chunk) (xs : List (List Tr)) : Prop :=
  ∀ (l : Nat) (J : Nat → Chunk → Prop) (Jx : Chunk → Prop),
    (∀ k args c, xs[k]? = some args → J k c → YSpec P l args [c] (fun r cs => (r = Tr.bool true ∧ ∃ c', J (k + 1) c' ∧ cs = [c']) ∨ (r = Tr.bool false ∧ ∃ c', Jx c' ∧ cs = [c']))) →
    ∀ c0, J 0 c0 → Spec P gf (Tr.raw (.func (.yield l) #[] #[]) :: caps.map Tr.raw) (c0 :: cin) (fun r cs => (∃ c, J xs.length c ∧ cs = c :: cout) ∨ ∃ c, Jx c ∧ cs = c :: cout)

/-! the loop's record; the variables of the frame around; all that a round may turn -/
def Chunk.lrec (l : Nat) (r : Loop) : Chunk := ⟨[l], fun w _ => w.heap[l]? = some (.loop r), fun hb _ h => (hb l (by simp) (Array.getElem?_eq_some_iff.1 h).1).trans h⟩
def Chunk.envc (env : Env) (tmps : Array Value) : Chunk := ⟨[], fun w A => ∀ i t, look env i = some t → t.rd w A (tmps.getD i undef), fun _ h k i t hl => t.mono h (k i t hl)⟩
def Chunk.lp (l : Nat) (r : Loop) (env : Env) (cs : List Chunk) : Chunk := Chunk.bun (Chunk.lrec l r :: Chunk.envc env r.tmps :: cs)
theorem lp_fp (l : Nat) (r : Loop) (env : Env) (cs : List Chunk) : (Chunk.lp l r env cs).fp = l :: fps cs := by
  unfold Chunk.lp Chunk.bun fps Chunk.lrec Chunk.envc
  simp
theorem lp_fps (l : Nat) (r : Loop) (env : Env) (cs : List Chunk) : fps [Chunk.lp l r env cs] = l :: fps cs := by
  simp only [fps, List.flatMap_cons, List.flatMap_nil, List.append_nil]
  exact lp_fp l r env cs
theorem lp_holds {l : Nat} {r : Loop} {env : Env} {cs : List Chunk} {w : World} {A : Nat → Prop} : (Chunk.lp l r env cs).holds w A ↔ w.heap[l]? = some (.loop r) ∧ (∀ i t, look env i = some t → t.rd w A (r.tmps.getD i undef)) ∧ ∀ c ∈ cs, c.holds w A := by
  unfold Chunk.lp Chunk.bun
  simp only [List.mem_cons, forall_eq_or_imp]
  exact Iff.rfl

/-- the parameters of a round -/
def prm : List Nat → List Tr → Env → Env
  | p :: ps, t :: ts, e => prm ps ts ((p, t) :: e)
  | _, _, e => e
theorem foldl_size : ∀ (l : List (Nat × Value)) (t : Array Value), (l.foldl (fun t (p, v) => t.setIfInBounds p v) t).size = t.size
  | [], t => rfl
  | (p, v) :: l, t => by rw [List.foldl_cons, foldl_size l]; simp
theorem prm_rd {w : World} {A : Nat → Prop} : ∀ {ps : List Nat} {ts : List Tr} {vs : List Value} {e : Env} {tm : Array Value}, RdL w A ts vs → (∀ p ∈ ps, p < tm.size) → (∀ i t, look e i = some t → t.rd w A (tm.getD i undef)) →
    ∀ i t, look (prm ps ts e) i = some t → t.rd w A (((ps.zip vs).foldl (fun t (p, v) => t.setIfInBounds p v) tm).getD i undef)
  | [], ts, vs, e, tm, _, _, h, i, t, hl => by
    simp only [prm] at hl
    simpa using h i t hl
  | p :: ps, [], vs, e, tm, hr, _, h, i, t, hl => by
    simp only [prm] at hl
    have : vs = [] := hr
    subst this
    simpa using h i t hl
  | p :: ps, u :: ts, _, e, tm, ⟨v, rest, rfl, hu, hr⟩, hp, h, i, t, hl => by
    simp only [prm] at hl
    rw [List.zip_cons_cons, List.foldl_cons]
    refine prm_rd hr (fun q hq => by simp only [Array.size_setIfInBounds]; exact hp q (List.mem_cons_of_mem _ hq)) ?_ i t hl
    intro j s hj
    have hpt := hp p (by simp)
    by_cases e1 : p = j
    · subst e1
      rw [look_cons_same] at hj
      cases hj
      rw [Array.getD_eq_getD_getElem?, Array.getElem?_setIfInBounds_self, if_pos hpt]
      exact hu
    · rw [look_cons_ne _ _ e1] at hj
      have := h j s hj
      rw [Array.getD_eq_getD_getElem?] at this ⊢
      rwa [Array.getElem?_setIfInBounds_ne e1]

/-- how a round may be left -/
def RPost (Γ : Ctx) (I : List Chunk → Prop) (Ix : Code → List Chunk → Prop) : Post
  | .normal, env, cs => ∃ cs2, Ent Γ env cs [] cs2 ∧ I cs2
  | .ret, env, cs => ∃ cs2, Ent Γ env cs [] cs2 ∧ Ix .ret cs2
  | .exit id, env, cs => ∃ cs2, Ent Γ env cs [] cs2 ∧ Ix (.exit id) cs2
  | .goto t, env, cs => ∃ cs2, Ent Γ env cs [] cs2 ∧ Ix (.goto t) cs2
  | _, _, _ => False
def NoX : Post := fun _ _ _ => False

/-- a round, out of the walks of its two codes -/
theorem yspec_of {l : Nat} {r : Loop} {ps : List Nat} {n : Nat} {csk : List Chunk} {args : List Tr} {I : List Chunk → Prop} {Ix : Code → List Chunk → Prop} (hrs : r.state = .ready) (hrp : r.pending = none) (hrn : r.tmps.size = n) (hps : r.params = ps.toArray) (hpn : ∀ p ∈ ps, p < n) (hal : args.length = ps.length)
    (hbody : ∀ w0 own0 M, Cw P ⟨w0, own0, M, n, some l, []⟩ r.assign (prm ps args env) csk (Then (fun env1 cs1 => ∀ w0 own0, Cw P ⟨w0, own0, M, n, some l, []⟩ r.body env1 cs1 (RPost ⟨w0, own0, M, n, some l, []⟩ I Ix)) NoX)) :
    YSpec P l args [Chunk.lp l r env csk] (fun rr cs => (rr = Tr.bool true ∧ ∃ c', (∃ cs2, I cs2 ∧ c' = Chunk.lp l r env cs2) ∧ cs = [c']) ∨ (rr = Tr.bool false ∧ ∃ c', (∃ j cs2, Ix j cs2 ∧ c' = Chunk.lp l { r with state := .done, pending := some j } env cs2) ∧ cs = [c'])) := by
  intro M w vs hr hch hnd hlt hM
  have hfps := lp_fps l r env csk
  rw [hfps] at hnd hlt
  have hc := hch _ (List.mem_singleton.2 rfl)
  rw [lp_holds] at hc
  obtain ⟨hrec, henv, hcs⟩ := hc
  have hav : ∀ c2 : List Chunk, ∀ q : Loop, av M [Chunk.lp l q env c2] = av (fun b => M b ∨ b = l) c2 := by
    intro c2 q
    funext b
    simp only [av, lp_fps, List.mem_cons, not_or]
    apply propext
    constructor
    · rintro ⟨h1, h2, h3⟩; exact ⟨⟨h1, h2⟩, h3⟩
    · rintro ⟨⟨h1, h2⟩, h3⟩; exact ⟨h1, h2, h3⟩
  rw [hav] at hr henv hcs
  have hlw : l < w.heap.size := (hlt l (by simp)).1
  have hlM : ¬ M l := (hlt l (by simp)).2
  rw [List.nodup_cons] at hnd
  have hsz : vs.toArray.size = r.params.size := by rw [hps]; simp [hr.length, hal]
  refine ⟨_, _, _, _, run_yield hrec hsz, ?_⟩
  refine roundIn_of_wpIn trivial ?_
  have hb := hbody w (fps csk) (fun b => M b ∨ b = l)
  unfold Cw at hb
  have hzip : (r.params.zip vs.toArray).foldl (fun tmps (t, a) => tmps.setIfInBounds t a) r.tmps = (ps.zip vs).foldl (fun t (p, v) => t.setIfInBounds p v) r.tmps := by
    rw [hps]
    simp [← Array.foldl_toList]
  have d0 : Den ⟨w, fps csk, fun b => M b ∨ b = l, n, some l, []⟩ (prm ps args env) csk { tmps := (r.params.zip vs.toArray).foldl (fun tmps (t, a) => tmps.setIfInBounds t a) r.tmps, defers := [] } w := by
    refine ⟨rfl, by simp only [hzip, foldl_size]; exact hrn, ?_, hcs, hnd.2, ?_, ?_, Frm.refl _ _⟩
    · intro i t hl
      simp only [hzip]
      exact prm_rd hr (fun p hp => by rw [hrn]; exact hpn p hp) henv i t hl
    · intro b hb
      have := hlt b (by simp [hb])
      exact ⟨this.1, fun h => h.elim this.2 (fun e => hnd.1 (e ▸ hb)), .inl hb⟩
    · intro b hb
      rcases hb with hb | rfl
      · exact hM b hb
      · exact hlw
  refine wpIn_mono (wpIn_depth (n := 9) (m := 8) rfl (hb _ _ d0)) ?_
  rintro e a1 w1 ⟨env1, cs1, hq, d1⟩
  cases e with
  | normal =>
    unfold Then at hq
    have hl1 : w1.heap[l]? = some (.loop r) := (d1.frame.block l hlw hnd.1).trans hrec
    have hlw1 : l < w1.heap.size := (Array.getElem?_eq_some_iff.1 hl1).1
    refine ⟨_, run_beginRound hl1 hrs, ?_⟩
    obtain ⟨w2, hw2⟩ : ∃ w2, w2 = w1.putObj l (.loop { r with state := .busy }) := ⟨_, rfl⟩
    rw [← hw2]
    have hs12 : SameOn w1 w2 (av (fun b => M b ∨ b = l) cs1) (av (fun b => M b ∨ b = l) cs1) := by
      intro b hb ⟨m1, m2⟩
      exact ⟨⟨m1, m2⟩, by rw [hw2]; exact World.putObj_heap_other (fun e => m1 (.inr e))⟩
    have hsz12 : w2.heap.size = w1.heap.size := by rw [hw2]; simp
    have hln : l ∉ fps cs1 := fun h => (d1.fresh l h).2.1 (.inr rfl)
    have d2 : Den ⟨w2, fps cs1, fun b => M b ∨ b = l, n, some l, []⟩ env1 cs1 a1 w2 := by
      refine ⟨d1.nodefer, d1.tmps, fun i t h => t.mono hs12 (d1.env i t h), ?_, d1.nodup, ?_, ?_, Frm.refl _ _⟩
      · intro c hc
        refine c.mono (fun b hb _ => ?_) hs12 (d1.chunks c hc)
        rw [hw2]
        exact World.putObj_heap_other (fun e => hln (by rw [← e]; exact List.mem_flatMap.2 ⟨c, hc, hb⟩))
      · intro b hb
        have := d1.fresh b hb
        exact ⟨by rw [hsz12]; exact this.1, this.2.1, .inl hb⟩
      · intro b hb
        have h1 := d1.below b hb
        have h2 := d1.frame.size
        simp only at h1 h2 ⊢
        omega
    have hb2 := hq w2 (fps cs1)
    unfold Cw at hb2
    refine wpIn_mono (wpIn_depth (n := 9) (m := 8) rfl (hb2 _ _ d2)) ?_
    rintro e a3 w3 ⟨env3, cs3, hq3, d3⟩
    have hl3 : w3.heap[l]? = some (.loop { r with state := .busy }) := by
      rw [d3.frame.block l (by simp only [hsz12]; exact hlw1) hln]
      simp only [hw2]
      exact World.putObj_heap_same hlw1
    have hlw3 : l < w3.heap.size := (Array.getElem?_eq_some_iff.1 hl3).1
    have fin : ∀ (q : Loop) (b : Bool) (cs2 : List Chunk) (post : Tr → List Chunk → Prop), q.tmps = r.tmps → Ent ⟨w2, fps cs1, fun b => M b ∨ b = l, n, some l, []⟩ env3 cs3 [] cs2 → post (Tr.bool b) [Chunk.lp l q env cs2] →
        After M [Chunk.lp l r env csk] post w (.returned (.bool b)) (w3.putObj l (.loop q)) := by
      intro q b cs2 post hqt hE hpost
      unfold Ent at hE
      have d4 := hE _ _ d3
      have hln2 : l ∉ fps cs2 := fun h => (d4.fresh l h).2.1 (.inr rfl)
      have hfresh2 : ∀ x ∈ fps cs2, x ∈ fps csk ∨ w.heap.size ≤ x := by
        intro x hx
        have h1 := (d4.fresh x hx).2.2
        simp only at h1
        rcases h1 with h1 | h1
        · exact (d1.fresh x h1).2.2
        · have := d1.frame.size
          simp only at this
          exact .inr (by omega)
      have hblk : ∀ x, x < w.heap.size → x ∉ fps csk → x ≠ l → (w3.putObj l (.loop q)).heap[x]? = w.heap[x]? := by
        intro x hx hn hne
        rw [World.putObj_heap_other hne]
        have h1 : x ∉ fps cs1 := fun h => by
          rcases (d1.fresh x h).2.2 with h2 | h2
          · exact hn h2
          · simp only at h2; omega
        have hx1 : x < w1.heap.size := Nat.lt_of_lt_of_le hx d1.frame.size
        rw [d3.frame.block x (by simp only [hsz12]; exact hx1) h1]
        simp only [hw2]
        rw [World.putObj_heap_other hne]
        exact d1.frame.block x hx hn
      have hs : SameOn w (w3.putObj l (.loop q)) (av (fun b => M b ∨ b = l) csk) (av (fun b => M b ∨ b = l) cs2) := by
        intro x hx ⟨m1, m2⟩
        refine ⟨⟨m1, fun h => ?_⟩, hblk x hx m2 (fun e => m1 (.inr e))⟩
        rcases hfresh2 x h with h2 | h2
        · exact m2 h2
        · omega
      have hs3 : SameOn w3 (w3.putObj l (.loop q)) (av (fun b => M b ∨ b = l) cs2) (av (fun b => M b ∨ b = l) cs2) := by
        intro x hx ⟨m1, m2⟩
        exact ⟨⟨m1, m2⟩, World.putObj_heap_other (fun e => m1 (.inr e))⟩
      have hsz3 : w.heap.size ≤ w3.heap.size := by
        have h1 := d1.frame.size
        have h2 := d3.frame.size
        simp only [hsz12] at h1 h2
        omega
      refine ⟨.bool b, Tr.bool b, [Chunk.lp l q env cs2], rfl, hpost, raw_self _, ?_, ?_, ?_, ?_⟩
      · intro c hc
        rw [List.mem_singleton] at hc
        subst hc
        rw [hav, lp_holds]
        refine ⟨World.putObj_heap_same hlw3, fun i t hl => ?_, fun c hc => ?_⟩
        · rw [hqt]
          exact t.mono hs (henv i t hl)
        · refine c.mono (fun b hb _ => World.putObj_heap_other (fun e => hln2 (by rw [← e]; exact List.mem_flatMap.2 ⟨c, hc, hb⟩))) hs3 (d4.chunks c hc)
      · rw [lp_fps, List.nodup_cons]
        exact ⟨hln2, d4.nodup⟩
      · intro x hx
        rw [lp_fps] at hx
        rw [hfps]
        rcases List.mem_cons.1 hx with rfl | hx
        · exact ⟨by simp only [World.putObj_size]; exact hlw3, hlM, .inl (by simp)⟩
        · refine ⟨by simp only [World.putObj_size]; exact (d4.fresh x hx).1, fun h => (d4.fresh x hx).2.1 (.inl h), ?_⟩
          rcases hfresh2 x hx with h | h
          · exact .inl (by simp [h])
          · exact .inr h
      · rw [hfps]
        refine ⟨?_, ?_, ?_, by simp only [World.putObj_size]; exact hsz3, fun x hx hn => ?_, fun hS => ?_⟩
        · have h1 := d1.frame.os; have h2 := d3.frame.os; simp only [hw2, World.putObj] at h1 h2 ⊢; exact h2.trans h1
        · have h1 := d1.frame.tape; have h2 := d3.frame.tape; simp only [hw2, World.putObj] at h1 h2 ⊢; exact h2.trans h1
        · have h1 := d1.frame.output; have h2 := d3.frame.output; simp only [hw2, World.putObj] at h1 h2 ⊢; exact h2.trans h1
        · simp only [List.mem_cons, not_or] at hn
          exact hblk x hx hn.2 hn.1
        · have h1 := d1.frame.drawn hS; have h2 := d3.frame.drawn hS; simp only [hw2, World.putObj] at h1 h2 ⊢; exact Nat.le_trans h1 h2
    cases e with
    | normal =>
      obtain ⟨cs2, hE, hI⟩ := hq3
      refine ⟨_, _, run_endRound none hl3, ?_⟩
      refine fin _ true cs2 _ rfl hE (.inl ⟨rfl, _, ⟨cs2, hI, ?_⟩, rfl⟩)
      congr 1
      cases r
      simp only at hrs hrp ⊢
      subst hrs hrp
      rfl
    | ret =>
      obtain ⟨cs2, hE, hI⟩ := hq3
      exact ⟨_, _, run_endRound (some .ret) hl3, fin _ false cs2 _ rfl hE (.inr ⟨rfl, _, ⟨_, cs2, hI, rfl⟩, rfl⟩)⟩
    | exit id =>
      obtain ⟨cs2, hE, hI⟩ := hq3
      exact ⟨_, _, run_endRound (some (.exit id)) hl3, fin _ false cs2 _ rfl hE (.inr ⟨rfl, _, ⟨_, cs2, hI, rfl⟩, rfl⟩)⟩
    | goto t =>
      obtain ⟨cs2, hE, hI⟩ := hq3
      exact ⟨_, _, run_endRound (some (.goto t)) hl3, fin _ false cs2 _ rfl hE (.inr ⟨rfl, _, ⟨_, cs2, hI, rfl⟩, rfl⟩)⟩
    | panic ch => exact hq3.elim
    | outgrown => exact hq3.elim
  | ret => unfold Then NoX at hq; exact hq.elim
  | exit id => unfold Then NoX at hq; exact hq.elim
  | goto t => unfold Then NoX at hq; exact hq.elim
  | panic ch => unfold Then NoX at hq; exact hq.elim
  | outgrown => unfold Then NoX at hq; exact hq.elim
theorem RPost.norm {I : List Chunk → Prop} {Ix : Code → List Chunk → Prop} {cs2 : List Chunk} (he : Ent Γ env cs [] cs2) (h : I cs2) : RPost Γ I Ix .normal env cs := ⟨cs2, he, h⟩
theorem RPost.ret {I : List Chunk → Prop} {Ix : Code → List Chunk → Prop} {cs2 : List Chunk} (he : Ent Γ env cs [] cs2) (h : Ix .ret cs2) : RPost Γ I Ix .ret env cs := ⟨cs2, he, h⟩
end rng
attribute [irreducible] YSpec RPost NoX Chunk.lp
end Lg
end
section
set_option linter.all false
namespace Lg
open Go

/-! ### a function whose body holds a range over a function -/
section rng2
variable {P : Program} {Γ : Ctx} {env env' : Env} {cs cs' cf : List Chunk}
variable {fn : Func} {post : Tr → List Chunk → Prop}

abbrev mark1 (D : Nat) : List Deferred := [{ target := .collected D, args := #[] }]
/-- what is asked where a function is left, its marks and all -/
def FinW (P : Program) (fn : Func) (post : Tr → List Chunk → Prop) (Γ : Ctx) : Exit → Act → World → Prop := fun e a w => (e = .ret ∨ e = .normal) ∧
  LeavesInM Fence.wide 9 P fn a.tmps (fun e w' => ∃ v r cs', e = .returned v ∧ post r cs' ∧ r.rd w' (av Γ.M cs') v ∧ (∀ c ∈ cs', c.holds w' (av Γ.M cs')) ∧ (fps cs').Nodup ∧
      (∀ b ∈ fps cs', b < w'.heap.size ∧ ¬ Γ.M b ∧ (b ∈ Γ.own0 ∨ Γ.w0.heap.size ≤ b)) ∧ Frm Γ.own0 Γ.w0 w') a.defers .returning w
def CwF (P : Program) (fn : Func) (post : Tr → List Chunk → Prop) (Γ : Ctx) (c : Code) (env : Env) (cs : List Chunk) : Prop := ∀ a w, Den Γ env cs a w → c.wpIn (fen Γ) 9 P (FinW P fn post Γ) a w

theorem CwF.seq {x y : Code} (hdf : Γ.df = []) (h : Cw P Γ x env cs (Then (fun env cs => CwF P fn post Γ y env cs) (Fin P fn Γ post))) : CwF P fn post Γ (.seq x y) env cs := by
  unfold Cw at h
  intro a w d
  refine wpIn_seq (wpIn_mono (h a w d) ?_)
  rintro e a2 w2 ⟨env2, cs2, hF, hd⟩
  unfold Then at hF
  have key : e ≠ .normal → Fin P fn Γ post e env2 cs2 → FinW P fn post Γ e a2 w2 := by
    intro _ hF
    unfold Fin at hF
    obtain ⟨he, env', cs', r, hent, hout, hpost⟩ := hF
    unfold Ent at hent
    unfold Outs at hout
    have hd' := hent _ _ hd
    obtain ⟨v, hres, hrd⟩ := hout Γ.w0 Γ.own0 _ _ hd'
    refine ⟨he, ?_⟩
    rw [hd.nodefer, hdf]
    exact ⟨v, hres, v, r, cs', rfl, hpost, hrd, hd'.chunks, hd'.nodup, hd'.fresh, hd'.frame⟩
  cases e with
  | normal => exact hF _ _ hd
  | ret => exact key (by intro h; cases h) hF
  | exit id => exact key (by intro h; cases h) hF
  | goto t => exact key (by intro h; cases h) hF
  | panic ch => exact key (by intro h; cases h) hF
  | outgrown => exact key (by intro h; cases h) hF
theorem CwF.ent {c : Code} (he : Ent Γ env cs env' cs') (h : CwF P fn post Γ c env' cs') : CwF P fn post Γ c env cs := by
  unfold Ent at he
  intro a w d
  exact h a w (he a w d)

/-- the frame behind the loop: its mark is among the deferred calls -/
abbrev behind (Γ : Ctx) (w0 : World) (own0 : List Nat) (M : Nat → Prop) (D : Nat) : Ctx := ⟨w0, own0, M, Γ.n, none, mark1 D⟩

theorem rawL {w : World} {A : Nat → Prop} : ∀ caps : List Value, RdL w A (caps.map Tr.raw) caps
  | [] => rfl
  | c :: caps => ⟨c, caps, rfl, raw_self _, rawL caps⟩
/-- code that holds a range over a function, ahead of `rest` -/
def RngOk (P : Program) (fn : Func) (post : Tr → List Chunk → Prop) (Γ : Ctx) (c rest : Code) (env : Env) (cs : List Chunk) : Prop :=
  ∀ a w, Den Γ env cs a w → ∀ Q : Exit → Act → World → Prop, (∀ a w, rest.wpIn (fen Γ) 9 P (FinW P fn post Γ) a w → Q .normal a w) → (∀ a w, FinW P fn post Γ .ret a w → Q .ret a w) → c.wpIn (fen Γ) 9 P Q a w
theorem CwF.rng {c rest : Code} (h : RngOk P fn post Γ c rest env cs) : CwF P fn post Γ (.seq c rest) env cs := by
  intro a w d
  exact wpIn_seq (h a w d _ (fun _ _ h => h) (fun _ _ h => h))
theorem RngOk.block {id : Nat} {c rest : Code} (h : RngOk P fn post Γ c rest env cs) : RngOk P fn post Γ (.block id c) rest env cs := by
  intro a w d Q h1 h2
  exact wpIn_block (h a w d _ h1 h2)
theorem RngOk.ent {c rest : Code} (he : Ent Γ env cs env' cs') (h : RngOk P fn post Γ c rest env' cs') : RngOk P fn post Γ c rest env cs := by
  unfold Ent at he
  intro a w d
  exact h a w (he a w d)
theorem RngOk.seq {x c rest : Code} (h : Cw P Γ x env cs (Then (fun env cs => RngOk P fn post Γ c rest env cs) NoX)) : RngOk P fn post Γ (.seq x c) rest env cs := by
  unfold Cw at h
  intro a w d Q h1 h2
  refine wpIn_seq (wpIn_mono (h a w d) ?_)
  rintro e a2 w2 ⟨env2, cs2, hF, hd⟩
  unfold Then NoX at hF
  cases e with
  | normal => exact hF _ _ hd Q h1 h2
  | ret => exact hF.elim
  | exit id => exact hF.elim
  | goto t => exact hF.elim
  | panic ch => exact hF.elim
  | outgrown => exact hF.elim
/-- for .. := range g { .. } -/
theorem RngOk.range {g : Operand} {ps : List Nat} {assign body rest : Code} {gf : Nat} {caps : List Value} {cin cout : List Chunk} {xs : List (List Tr)} (hdf : Γ.df = []) (hrd : Γ.rd = none)
    (hg : ev env g = some (Tr.raw (.func (.func gf) #[] caps.toArray))) (hi : IterSpec P gf caps cin cout xs) (hal : ∀ args ∈ xs, args.length = ps.length) (hpn : ∀ p ∈ ps, p < Γ.n)
    (I : Nat → List Chunk → Prop) (Ix : Code → List Chunk → Prop) {c0 : List Chunk} (h0 : I 0 c0) (hp : cs.Perm (c0 ++ (cin ++ cf)))
    (hbody : ∀ l k args csk, xs[k]? = some args → I k csk → ∀ w0 own0 M, Cw P ⟨w0, own0, M, Γ.n, some l, []⟩ assign (prm ps args env) csk (Then (fun env1 cs1 => ∀ w0 own0, Cw P ⟨w0, own0, M, Γ.n, some l, []⟩ body env1 cs1 (RPost ⟨w0, own0, M, Γ.n, some l, []⟩ (I (k + 1)) Ix)) NoX))
    (hdone : ∀ w0 own0 M D csN, I xs.length csN → Cw P (behind Γ w0 own0 M D) rest env (csN ++ (cout ++ cf)) (Fin P fn (behind Γ w0 own0 M D) post))
    (hjump : ∀ c csx, Ix c csx → c = .ret ∧ ∀ w0 own0 M D, Fin P fn (behind Γ w0 own0 M D) post .ret env (csx ++ (cout ++ cf)))
    (hspec : ∀ (vs : Array Value) (w : World), (callFunc gf vs).run P w = .ok (.enter gf vs) w) : RngOk P fn post Γ (.rangeFunc g ps.toArray assign body) rest env cs := by
  intro a w d Q hQn hQr
  have hgv := rd_raw (d.ev hg)
  refine wpIn_rangeFunc fun fnm hfn => ?_
  have hro : (fen Γ).round = none := hrd
  rw [hro]
  obtain ⟨r0, hr0⟩ : ∃ r0 : Loop, r0 = { state := .ready, pending := none, fn := fnm, tmps := a.tmps, params := ps.toArray, assign, body, defers := w.heap.size } := ⟨_, rfl⟩
  obtain ⟨W1, hW1⟩ : ∃ W1, (w.alloc (.deferred (some []))).alloc (.loop r0) = W1 := ⟨_, rfl⟩
  have hsz1 : W1.heap.size = w.heap.size + 2 := by rw [← hW1]; simp
  have hL1 : W1.heap[w.heap.size + 1]? = some (.loop r0) := by
    rw [← hW1]; have := World.alloc_heap_new (w.alloc (.deferred (some []))) (.loop r0); rwa [World.size_alloc] at this
  have hD1 : W1.heap[w.heap.size]? = some (.deferred (some [])) := by
    rw [← hW1]
    show ((w.heap.push _).push _)[w.heap.size]? = _
    rw [Array.getElem?_push, if_neg (by simp), Array.getElem?_push, if_pos rfl]
  have hold1 : ∀ b, b < w.heap.size → W1.heap[b]? = w.heap[b]? := by
    intro b hb
    rw [← hW1]
    show ((w.heap.push _).push _)[b]? = _
    rw [Array.getElem?_push, if_neg (by simp; omega), Array.getElem?_push, if_neg (by omega)]
  refine ⟨w.heap.size + 1, mark1 w.heap.size, W1, { target := .fn (.func gf) caps.toArray, args := #[.func (.yield (w.heap.size + 1)) #[] #[]] }, W1, gf,
    #[.func (.yield (w.heap.size + 1)) #[] #[]] ++ caps.toArray, W1, ?_, ?_, ?_, ?_, (fun h => by simp [fen, Fence.wide] at h), ?_⟩
  · rw [← hW1, hr0]; exact run_enterLoop_outer _ _ _ _ _
  · simp only [resolve, hgv]
    simp [go_sem]
  · intro f' hf'; exact trivial
  · simp [invoke, go_sem, hspec]
  -- the iterator's contract
  have hd1 := d.perm hp
  have hyp : ∀ k args c, xs[k]? = some args → (∃ c2, I k c2 ∧ c = Chunk.lp (w.heap.size + 1) r0 env c2) → YSpec P (w.heap.size + 1) args [c] (fun r cs => (r = Tr.bool true ∧ ∃ c', (∃ c2, I (k + 1) c2 ∧ c' = Chunk.lp (w.heap.size + 1) r0 env c2) ∧ cs = [c']) ∨ (r = Tr.bool false ∧ ∃ c', (∃ j c2, Ix j c2 ∧ c' = Chunk.lp (w.heap.size + 1) { r0 with state := .done, pending := some j } env c2) ∧ cs = [c'])) := by
    rintro k args c hk ⟨c2, hI, rfl⟩
    refine yspec_of (r := r0) (ps := ps) (n := Γ.n) (I := I (k + 1)) (Ix := Ix) (by rw [hr0]) (by rw [hr0]) (by rw [hr0]; exact d.tmps) (by rw [hr0]) hpn (hal args (List.mem_of_getElem? hk)) ?_
    have := hbody (w.heap.size + 1) k args c2 hk hI
    rw [hr0]
    exact this
  have hsp := hi (w.heap.size + 1) (fun k c => ∃ c2, I k c2 ∧ c = Chunk.lp (w.heap.size + 1) r0 env c2) (fun c' => ∃ j c2, Ix j c2 ∧ c' = Chunk.lp (w.heap.size + 1) { r0 with state := .done, pending := some j } env c2) hyp _ ⟨c0, h0, rfl⟩
  unfold Spec at hsp
  have hfa : fps (c0 ++ (cin ++ cf)) = fps c0 ++ (fps cin ++ fps cf) := by simp [fps]
  have hnd := hd1.nodup
  rw [hfa] at hnd
  have hfr : ∀ b ∈ fps c0 ++ (fps cin ++ fps cf), b < w.heap.size ∧ ¬ Γ.M b ∧ (b ∈ Γ.own0 ∨ Γ.w0.heap.size ≤ b) := fun b hb => hd1.fresh b (by rw [hfa]; exact hb)
  have hMlt : ∀ b, Γ.M b → b < w.heap.size := fun b hb => Nat.lt_of_lt_of_le (d.below b hb) d.frame.size
  obtain ⟨M', hM'⟩ : ∃ M' : Nat → Prop, M' = fun b => Γ.M b ∨ b = w.heap.size ∨ b ∈ fps cf := ⟨_, rfl⟩
  have hcin : fps (Chunk.lp (w.heap.size + 1) r0 env c0 :: cin) = (w.heap.size + 1) :: (fps c0 ++ fps cin) := by
    simp only [fps, List.flatMap_cons]
    rw [lp_fp]
    rfl
  have hs1 : SameOn w W1 (av Γ.M (c0 ++ (cin ++ cf))) (av M' (Chunk.lp (w.heap.size + 1) r0 env c0 :: cin)) := by
    intro b hb ⟨m1, m2⟩
    rw [hfa] at m2
    simp only [List.mem_append, not_or] at m2
    refine ⟨⟨?_, ?_⟩, hold1 b hb⟩
    · rw [hM']
      rintro (h | h | h)
      · exact m1 h
      · omega
      · exact m2.2.2 h
    · rw [hcin]
      simp only [List.mem_cons, List.mem_append, not_or]
      exact ⟨by omega, m2.1, m2.2.1⟩
  have hholds : ∀ c ∈ c0 ++ (cin ++ cf), c.holds W1 (av M' (Chunk.lp (w.heap.size + 1) r0 env c0 :: cin)) := fun c hc => c.mono (fun b _ hlt => hold1 b hlt) hs1 (hd1.chunks c hc)
  rw [List.nodup_append] at hnd
  obtain ⟨n1, n2, n3⟩ := hnd
  rw [List.nodup_append] at n2
  obtain ⟨n4, n5, n6⟩ := n2
  have hcall := hsp.2 M' W1 (.func (.yield (w.heap.size + 1)) #[] #[] :: caps) (by
      exact ⟨_, _, rfl, raw_self _, rawL caps⟩) (by
      intro c hc
      rcases List.mem_cons.1 hc with rfl | hc
      · rw [lp_holds]
        refine ⟨hL1, fun i t hl => ?_, fun c hc => hholds c (by simp [hc])⟩
        rw [show r0.tmps = a.tmps by rw [hr0]]
        exact t.mono hs1 (hd1.env i t hl)
      · exact hholds c (by simp [hc])) (by
      rw [hcin, List.nodup_cons, List.nodup_append]
      refine ⟨fun h => ?_, n1, n4, fun x hx y hy => n3 x hx y (by simp [hy])⟩
      have := (hfr _ (by rw [List.mem_append] at h ⊢; rcases h with h | h; exact .inl h; exact .inr (by simp [h]))).1
      omega) (by
      intro b hb
      rw [hcin] at hb
      rcases List.mem_cons.1 hb with rfl | hb
      · refine ⟨by omega, ?_⟩
        rw [hM']
        rintro (h | h | h)
        · have := hMlt _ h; omega
        · omega
        · have := (hfr (w.heap.size + 1) (by simp [h])).1; omega
      · have h1 := hfr b (by rw [List.mem_append] at hb ⊢; rcases hb with h | h; exact .inl h; exact .inr (by simp [h]))
        refine ⟨by omega, ?_⟩
        rw [hM']
        rintro (h | h | h)
        · exact h1.2.1 h
        · omega
        · rcases List.mem_append.1 hb with hb | hb
          · exact n3 b hb b (by simp [h]) rfl
          · exact n6 b hb b h rfl) (by
      intro b hb
      rw [hM'] at hb
      rcases hb with h | h | h
      · have := hMlt b h; omega
      · omega
      · have := (hfr b (by simp [h])).1; omega)
  have hcall2 := (callsIn_wide (n := 8)).2 hcall
  rw [show (Value.func (.yield (w.heap.size + 1)) #[] #[] :: caps).toArray = #[.func (.yield (w.heap.size + 1)) #[] #[]] ++ caps.toArray by simp] at hcall2
  refine CallsIn.mono (F := fen Γ) (n := 9 - 1) hcall2 ?_
  rintro e w2 ⟨v, r, cs2, rfl, hpost, hrd2, hch2, hnd2, hfr2, hfm2⟩
  rw [hcin] at hfm2 hfr2
  -- whichever way the loop has ended: the frame behind it
  have hDw2 : w2.heap[w.heap.size]? = some (.deferred (some [])) := by
    rw [hfm2.block w.heap.size (by omega) (fun h => by
      rcases List.mem_cons.1 h with h | h
      · omega
      · have := (hfr _ (by rw [List.mem_append] at h ⊢; rcases h with h | h; exact .inl h; exact .inr (by simp [h]))).1
        omega)]
    exact hD1
  have ends : ∀ (q : Loop) (c2 : List Chunk) (o : Obj), cs2 = Chunk.lp (w.heap.size + 1) q env c2 :: cout → q.tmps = a.tmps → w2.heap[w.heap.size + 1]? = some (.loop q) ∧
      ∃ M2 : Nat → Prop, M2 = (fun b => Γ.M b ∨ b = w.heap.size) ∧ Den (behind Γ (w2.putObj (w.heap.size + 1) o) (fps (c2 ++ (cout ++ cf))) M2 w.heap.size) env (c2 ++ (cout ++ cf)) { a with defers := mark1 w.heap.size ++ a.defers } (w2.putObj (w.heap.size + 1) o) ∧
        (∀ b ∈ fps (c2 ++ (cout ++ cf)), b ∈ Γ.own0 ∨ Γ.w0.heap.size ≤ b) ∧ Frm Γ.own0 Γ.w0 (w2.putObj (w.heap.size + 1) o) := by
    rintro q c2 o rfl hqt
    have hcs2 : fps (Chunk.lp (w.heap.size + 1) q env c2 :: cout) = (w.heap.size + 1) :: (fps c2 ++ fps cout) := by
      simp only [fps, List.flatMap_cons]
      rw [lp_fp]
      rfl
    have hlp := hch2 _ List.mem_cons_self
    rw [lp_holds] at hlp
    obtain ⟨hq1, hq2, hq3⟩ := hlp
    refine ⟨hq1, _, rfl, ?_⟩
    have hlt2 : w.heap.size + 1 < w2.heap.size := (Array.getElem?_eq_some_iff.1 hq1).1
    have hfe : fps (c2 ++ (cout ++ cf)) = fps c2 ++ (fps cout ++ fps cf) := by simp [fps]
    rw [hcs2] at hnd2 hfr2
    rw [List.nodup_cons, List.nodup_append] at hnd2
    obtain ⟨p1, p2, p3, p4⟩ := hnd2
    have hcf2 : ∀ b ∈ fps cf, b < w.heap.size := fun b hb => (hfr b (by simp [hb])).1
    have hnotown : ∀ b ∈ fps cf, b ∉ (w.heap.size + 1) :: (fps c0 ++ fps cin) := by
      intro b hb h
      rcases List.mem_cons.1 h with h | h
      · have := hcf2 b hb; omega
      · rcases List.mem_append.1 h with h | h
        · exact n3 b h b (by simp [hb]) rfl
        · exact n6 b h b hb rfl
    have hout : ∀ b ∈ fps c2 ++ fps cout, b < w2.heap.size ∧ ¬ M' b ∧ b ≠ w.heap.size + 1 ∧ (b ∈ fps c0 ++ fps cin ∨ W1.heap.size ≤ b) := by
      intro b hb
      obtain ⟨f1, f2, f3⟩ := hfr2 b (by simp only [List.mem_cons]; exact .inr hb)
      have hne : b ≠ w.heap.size + 1 := fun e => p1 (e ▸ hb)
      refine ⟨f1, f2, hne, ?_⟩
      rcases f3 with f3 | f3
      · rcases List.mem_cons.1 f3 with f3 | f3
        · exact absurd f3 hne
        · exact .inl f3
      · exact .inr f3
    -- from w2 under the iterator's view to the new world under ours
    have hs2 : SameOn w2 (w2.putObj (w.heap.size + 1) o) (av M' (Chunk.lp (w.heap.size + 1) q env c2 :: cout)) (av (fun b => Γ.M b ∨ b = w.heap.size) (c2 ++ (cout ++ cf))) := by
      intro b hb ⟨m1, m2⟩
      rw [hcs2] at m2
      simp only [List.mem_cons, List.mem_append, not_or] at m2
      rw [hM'] at m1
      refine ⟨⟨fun h => m1 (h.elim .inl fun h => .inr (.inl h)), ?_⟩, World.putObj_heap_other m2.1⟩
      rw [hfe]
      simp only [List.mem_append, not_or]
      exact ⟨m2.2.1, m2.2.2, fun h => m1 (.inr (.inr h))⟩
    have hs02 : SameOn w (w2.putObj (w.heap.size + 1) o) (av Γ.M (c0 ++ (cin ++ cf))) (av (fun b => Γ.M b ∨ b = w.heap.size) (c2 ++ (cout ++ cf))) := by
      intro b hb hA
      obtain ⟨h1, h2⟩ := hs1 b hb hA
      have hb1 : b < W1.heap.size := by omega
      have hno : b ∉ (w.heap.size + 1) :: (fps c0 ++ fps cin) := by
        have := h1.2
        rwa [hcin] at this
      have h3 : av M' (Chunk.lp (w.heap.size + 1) q env c2 :: cout) b := by
        refine ⟨h1.1, fun h => ?_⟩
        rw [hcs2] at h
        rcases List.mem_cons.1 h with h | h
        · omega
        · rcases (hout b h).2.2.2 with h4 | h4
          · exact hno (List.mem_cons_of_mem _ h4)
          · omega
      obtain ⟨h5, h6⟩ := hs2 b (Nat.lt_of_lt_of_le hb1 hfm2.size) h3
      exact ⟨h5, by rw [h6, hfm2.block b hb1 hno, h2]⟩
    have hmem : ∀ c ∈ c2 ++ (cout ++ cf), c.holds (w2.putObj (w.heap.size + 1) o) (av (fun b => Γ.M b ∨ b = w.heap.size) (c2 ++ (cout ++ cf))) := by
      intro c hc
      rw [List.mem_append, List.mem_append] at hc
      rcases hc with hc | hc | hc
      · exact c.mono (fun b hb _ => World.putObj_heap_other (hout b (List.mem_append.2 (.inl (List.mem_flatMap.2 ⟨c, hc, hb⟩)))).2.2.1) hs2 (hq3 c hc)
      · exact c.mono (fun b hb _ => World.putObj_heap_other (hout b (List.mem_append.2 (.inr (List.mem_flatMap.2 ⟨c, hc, hb⟩)))).2.2.1) hs2 (hch2 c (List.mem_cons_of_mem _ hc))
      · refine c.mono (fun b hb hlt => ?_) hs02 (hd1.chunks c (by simp [hc]))
        have hbf : b ∈ fps cf := List.mem_flatMap.2 ⟨c, hc, hb⟩
        have hno := hnotown b hbf
        rw [World.putObj_heap_other (fun e => hno (by rw [e]; simp)), hfm2.block b (by omega) hno, hold1 b hlt]
    have hfr3 : ∀ b ∈ fps (c2 ++ (cout ++ cf)), b < w2.heap.size ∧ ¬ (Γ.M b ∨ b = w.heap.size) ∧ (b ∈ Γ.own0 ∨ Γ.w0.heap.size ≤ b) := by
      intro b hb
      rw [hfe, ← List.append_assoc] at hb
      rcases List.mem_append.1 hb with hb | hb
      · obtain ⟨f1, f2, f3, f4⟩ := hout b hb
        rw [hM'] at f2
        refine ⟨f1, fun h => f2 (h.elim .inl fun h => .inr (.inl h)), ?_⟩
        rcases f4 with f4 | f4
        · exact (hfr b (by rw [List.mem_append] at f4 ⊢; rcases f4 with h | h; exact .inl h; exact .inr (by simp [h]))).2.2
        · have := d.frame.size
          exact .inr (by omega)
      · have h1 := hfr b (by simp [hb])
        have h2 := hfm2.size
        exact ⟨by omega, fun h => h.elim h1.2.1 (fun h => by omega), h1.2.2⟩
    refine ⟨⟨by simp only [hd1.nodefer, hdf, List.append_nil], d.tmps, fun i t hl => ?_, hmem, ?_, ?_, ?_, Frm.refl _ _⟩, fun b hb => (hfr3 b hb).2.2, ?_⟩
    · exact t.mono hs02 (hd1.env i t hl)
    · rw [hfe, ← List.append_assoc, List.nodup_append, List.nodup_append]
      refine ⟨⟨p2, p3, p4⟩, n5, ?_⟩
      intro x hx y hy e
      subst e
      have := (hout x hx).2.1
      rw [hM'] at this
      exact this (.inr (.inr hy))
    · intro b hb
      have := hfr3 b hb
      exact ⟨by simp only [World.putObj_size]; exact this.1, this.2.1, .inl hb⟩
    · intro b hb
      simp only [World.putObj_size]
      have h2 := hfm2.size
      rcases hb with hb | hb
      · have := hMlt b hb; omega
      · omega
    · have hf1 : Frm Γ.own0 Γ.w0 w := hd1.frame
      refine ⟨?_, ?_, ?_, ?_, ?_, ?_⟩
      · show w2.os = _; rw [hfm2.os, ← hW1]; exact hf1.os
      · show w2.tape = _; rw [hfm2.tape, ← hW1]; exact hf1.tape
      · show w2.output = _; rw [hfm2.output, ← hW1]; exact hf1.output
      · simp only [World.putObj_size]
        have h1 := hf1.size
        have h2 := hfm2.size
        omega
      · intro b hb hn
        have h1 := hf1.size
        rw [World.putObj_heap_other (by omega), hfm2.block b (by omega) (fun h => ?_), hold1 b (by omega), hf1.block b hb hn]
        rcases List.mem_cons.1 h with h | h
        · omega
        · have := (hfr b (by rw [List.mem_append] at h ⊢; rcases h with h | h; exact .inl h; exact .inr (by simp [h]))).2.2
          rcases this with h2 | h2
          · exact hn h2
          · omega
      · intro hS
        have h1 := hf1.drawn hS
        have h2 := hfm2.drawn hS
        rw [← hW1] at h2
        exact Nat.le_trans h1 h2
  -- leaving the function
  have leaves : ∀ (o : Obj) (c3 : List Chunk) (M2 : Nat → Prop) (e : Exit) (a3 : Act) (w3 : World), M2 = (fun b => Γ.M b ∨ b = w.heap.size) → (∀ b ∈ fps c3, b ∈ Γ.own0 ∨ Γ.w0.heap.size ≤ b) → Frm Γ.own0 Γ.w0 (w2.putObj (w.heap.size + 1) o) → w.heap.size ∉ fps c3 →
      Lift (behind Γ (w2.putObj (w.heap.size + 1) o) (fps c3) M2 w.heap.size) (Fin P fn (behind Γ (w2.putObj (w.heap.size + 1) o) (fps c3) M2 w.heap.size) post) e a3 w3 → FinW P fn post Γ e a3 w3 := by
    rintro o c3 M2 e a3 w3 hM2 hown3 hf3 hnD ⟨env3, cs3, hF, hd3⟩
    unfold Fin at hF
    obtain ⟨he, env', cs', r3, hent, hout3, hpost3⟩ := hF
    unfold Ent at hent
    unfold Outs at hout3
    have hd4 := hent _ _ hd3
    have hszw2 : w.heap.size < (w2.putObj (w.heap.size + 1) o).heap.size := by
      simp only [World.putObj_size]
      exact (Array.getElem?_eq_some_iff.1 hDw2).1
    have hD3 : w3.heap[w.heap.size]? = some (.deferred (some [])) := by
      rw [hd3.frame.block w.heap.size hszw2 hnD]
      simp only
      rw [World.putObj_heap_other (by omega)]
      exact hDw2
    have hDlt : w.heap.size < w3.heap.size := (Array.getElem?_eq_some_iff.1 hD3).1
    have hnD4 : w.heap.size ∉ fps cs' := fun h => (hd4.fresh _ h).2.1 (by rw [hM2]; exact .inr rfl)
    have hs4 : SameOn w3 (w3.putObj w.heap.size (.deferred none)) (av M2 cs') (av M2 cs') := by
      intro b hb ⟨m1, m2⟩
      exact ⟨⟨m1, m2⟩, World.putObj_heap_other (fun e => m1 (by rw [hM2]; exact .inr e))⟩
    have hs5 : SameOn (w3.putObj w.heap.size (.deferred none)) (w3.putObj w.heap.size (.deferred none)) (av M2 cs') (av Γ.M cs') := by
      intro b hb ⟨m1, m2⟩
      exact ⟨⟨fun h => m1 (by rw [hM2]; exact .inl h), m2⟩, rfl⟩
    have hch4 : ∀ c ∈ cs', c.holds (w3.putObj w.heap.size (.deferred none)) (av M2 cs') := fun c hc => c.mono (fun b hb _ => World.putObj_heap_other (fun e => hnD4 (by rw [← e]; exact List.mem_flatMap.2 ⟨c, hc, hb⟩))) hs4 (hd4.chunks c hc)
    have hd5 : Den ⟨w3.putObj w.heap.size (.deferred none), fps cs', M2, Γ.n, none, mark1 w.heap.size⟩ env' cs' a3 (w3.putObj w.heap.size (.deferred none)) := by
      refine ⟨hd4.nodefer, hd4.tmps, fun i t h => t.mono hs4 (hd4.env i t h), hch4, hd4.nodup, fun b hb => ⟨by simp only [World.putObj_size]; exact (hd4.fresh b hb).1, (hd4.fresh b hb).2.1, .inl hb⟩, fun b hb => ?_, Frm.refl _ _⟩
      have h1 := hd4.below b hb
      have h2 := hd4.frame.size
      simp only [World.putObj_size] at h1 h2 ⊢
      omega
    obtain ⟨v3, hres, hrd3⟩ := hout3 _ _ _ _ hd5
    refine ⟨he, ?_⟩
    rw [hd4.nodefer]
    refine ⟨by simp, .inl ⟨_, _, rfl, run_takeDeferred hD3, ?_⟩⟩
    refine ⟨v3, hres, v3, r3, cs', rfl, hpost3, r3.mono hs5 hrd3, fun c hc => c.mono (fun _ _ _ => rfl) hs5 (hch4 c hc), hd4.nodup, fun b hb => ?_, ?_⟩
    · obtain ⟨g1, g2, g3⟩ := hd4.fresh b hb
      refine ⟨by simp only [World.putObj_size]; exact g1, fun h => g2 (by rw [hM2]; exact .inl h), ?_⟩
      rcases g3 with g3 | g3
      · exact hown3 b g3
      · have h1 := hf3.size
        simp only at g3
        exact .inr (by omega)
    · have hw0 : Γ.w0.heap.size ≤ w.heap.size := hd1.frame.size
      refine Frm.trans (o1 := w.heap.size :: fps c3) hf3 ?_ (fun x hx => ?_)
      · have hf4 := hd4.frame
        refine ⟨hf4.os, hf4.tape, hf4.output, (by have := hf4.size; simp only [World.putObj_size] at this ⊢; exact this), fun b hb hn => ?_, fun h => hf4.drawn h⟩
        simp only [List.mem_cons, not_or] at hn
        rw [World.putObj_heap_other hn.1]
        exact hf4.block b hb hn.2
      · rcases List.mem_cons.1 hx with rfl | hx
        · exact .inr hw0
        · exact hown3 x hx
  have hfen : ∀ w0 own0 M2 D, fen (behind Γ w0 own0 M2 D) = fen Γ := fun w0 own0 M2 D => by unfold fen; rw [hrd]
  rcases hpost with ⟨c, ⟨c2, hI, rfl⟩, hcs⟩ | ⟨c, ⟨j, c2, hI, rfl⟩, hcs⟩
  · obtain ⟨hl2, M2, hM2, hd2, hown2, hf2⟩ := ends r0 c2 (.loop { r0 with state := .exhausted, pending := none }) hcs (by rw [hr0])
    have hend := run_endLoop (P := P) hl2 (by rw [hr0]; simp)
    rw [show r0.pending = none by rw [hr0]] at hend
    refine ⟨_, _, hend, ?_⟩
    have hk := hdone (w2.putObj (w.heap.size + 1) (.loop { r0 with state := .exhausted, pending := none })) (fps (c2 ++ (cout ++ cf))) M2 w.heap.size c2 hI
    unfold Cw at hk
    have hk2 := hk _ _ hd2
    rw [hfen] at hk2
    exact hQn _ _ (wpIn_mono hk2 fun e a3 w3 h => leaves _ _ M2 e a3 w3 hM2 hown2 hf2 (fun h => (hd2.fresh _ h).2.1 (by rw [hM2]; exact .inr rfl)) h)
  · obtain ⟨hl2, M2, hM2, hd2, hown2, hf2⟩ := ends _ c2 (.loop { ({ r0 with state := .done, pending := some j } : Loop) with state := .exhausted }) hcs (by rw [hr0])
    have hend := run_endLoop (P := P) hl2 (by simp)
    refine ⟨_, _, hend, ?_⟩
    obtain ⟨rfl, hk⟩ := hjump j c2 hI
    refine wpIn_ret (hQr _ _ ?_)
    exact leaves _ _ M2 .ret _ _ hM2 hown2 hf2 (fun h => (hd2.fresh _ h).2.1 (by rw [hM2]; exact .inr rfl)) ⟨env, _, hk _ _ _ _, hd2⟩
end rng2
attribute [irreducible] CwF RngOk FinW
end Lg
end
section
set_option linter.all false
namespace Lg
open Go

/-! ### clear on the tail of an owned slice -/
section clr
variable {P : Program} {Γ : Ctx} {env env' : Env} {cs cs' cf : List Chunk} {Q : Post} {R : Array Oper}
variable {i : Tmp} {ty : TypeId} {pos : String} {af : Array Edge} {rest : List Oper}
variable {x y z : Operand} {T : TypeId} {k : IntKind} {p q : Int}

theorem run_clear_rowK (w : World) (T ty elem : TypeId) (kk n : Nat) (g o c : Nat) (cur : Array Value) (t : TypeId) (zv : Value)
    (hu : P.underlying T = some (.slice elem)) (hs : ∃ i, P.info? elem = some i ∧ i.zero = some zv) (hk : zv.cells.size = kk) (h0 : 0 < n)
    (hg : w.heap[g]? = some (.cells cur t (0, 0))) (hfit : o + n * kk ≤ cur.size) (h1 : ∀ v ∈ (madeCells zv.cells (n * kk)).toList, v.oneCell' = true) :
    (Builtin.clear_ #[T] ty #[.slice (some ⟨g, o, none⟩) n c]).run P w =
      .ok (.tuple #[]) (w.setRow g (cur.toList.take o ++ (madeCells zv.cells (n * kk)).toList ++ cur.toList.drop (o + (madeCells zv.cells (n * kk)).toList.length)).toArray) := by
  obtain ⟨i, hq, hi⟩ := hs
  have hz : (Builtin.zeroCells zv.cells n).toList = (madeCells zv.cells (n * kk)).toList := by
    unfold Builtin.zeroCells madeCells
    rw [hk]
  have hlen : (madeCells zv.cells (n * kk)).toList.length = n * kk := by rw [Array.length_toList, size_madeCells]
  have hst := run_storeCells_at P g o t (madeCells zv.cells (n * kk)).toList 0 cur w hg (by rw [hlen]; simpa using hfit) h1
  obtain ⟨m, rfl⟩ : ∃ m, n = m + 1 := ⟨n - 1, by omega⟩
  simp [Builtin.clear_, run_underlying hu, zeroValue, typeInfo, hq, hi, hz, hst]
theorem Ops.clear_part {E kk bb zs} [hS : TySl P T E kk bb zs] {ad v : Option Addr} {o n cap cap2 : Nat} {rows : List (List Tr)}
    (hx : ev env x = some (.raw (.slice v n cap2))) (hp : cs.Perm (Chunk.own ad cap kk E rows :: cf)) (hv : v = ad.map fun a => ⟨a.block, o * kk, none⟩) (h0 : 0 < n) (hn : o + n = rows.length)
    (kont : Ops P Γ R rest env (Chunk.own ad cap kk E (rows.take o ++ List.replicate n (zs.map Tr.raw)) :: cf) Q) :
    Ops P Γ R (⟨none, .call ⟨.builtin .clear, #[x], #[T]⟩, ty, pos, af, none⟩ :: rest) env cs Q :=
  Ops.of fun a w d => by
    have hvx := rd_raw (d.ev hx)
    have d' := d.perm hp
    have hne : rows ≠ [] := by intro h; rw [h] at hn; simp at hn; omega
    obtain ⟨g, cur0, rfl, _, hcp, _⟩ := own_some (d'.has (List.Perm.refl _)) hne
    subst hv
    obtain ⟨ti, zv, h1, h2, h3, h4, h5, h6⟩ := hS.hE
    have hzs : zv.cells.size = kk := hS.hz _ _ h1 h2
    have hone : ∀ v ∈ zv.cells.toList, v.oneCell' = true := by rw [h3]; exact hS.one
    have hmd := madeCells_rd (w := w) (A := av Γ.M (Chunk.own (some ⟨g, 0, none⟩) cap kk E rows :: cf)) hone n
    rw [hzs, h3, ← zeroRow_flat] at hmd
    obtain ⟨cur, hg, hfit, hvl, hden⟩ := d'.lay (pn := o) (new := List.replicate n (zs.map Tr.raw)) (by omega) (by rw [List.length_replicate]; omega) (fun r hr => by rw [List.eq_of_mem_replicate hr]; simp [hS.hk]) hmd
    rw [List.length_replicate] at hvl hden
    rw [show rows.drop (o + n) = [] from List.drop_of_length_le (by omega), List.append_nil] at hden
    have hrun := run_clear_rowK (P := P) w T ty E kk n g (o * kk) cap2 cur E zv hS.hT ⟨ti, h1, h2⟩ hzs h0 hg (by rw [← hvl]; exact hfit) hmd.one
    simp only [Option.map] at hvx
    exact ⟨_, _, .value _, _, by simp [execOp, resolve, invoke, builtin, hvx, hrun] <;> rfl, .inl ⟨_, rfl, Den.put_none hden _⟩, kont⟩
end clr
end Lg
end
