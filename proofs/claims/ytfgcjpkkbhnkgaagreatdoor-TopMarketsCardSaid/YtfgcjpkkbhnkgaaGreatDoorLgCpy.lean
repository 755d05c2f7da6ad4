/- A part of the proof of a law of this seat: it adds no condition. By an AI agent. -/
import Derived.Test.YtfgcjpkkbhnkgaaGreatDoorLgRng
section
set_option linter.all false
namespace Lg
open Go

/-! ### a function whose body holds a range over a function -/
section rng2
variable {P : Program} {Γ : Ctx} {env env' : Env} {cs cs' cf : List Chunk}
variable {fn : Func} {post : Tr → List Chunk → Prop}

theorem enters_of {f : FuncId} {c : Code} (hf : P.funcs[f]? = some fn) (hb : fn.body = some c) (hname : (fn.name == "runtime.NumGoroutine") = false := by rfl) : ∀ (vs : Array Value) (w : World), (callFunc f vs).run P w = .ok (.enter f vs) w := fun vs w => by
 simp only [callFunc, Sem.run_bind, run_program, Result.andThen_ok, hf]; simp [hname, hb]
abbrev mark1 (D : Nat) : List Deferred := [{ target := .collected D, args := #[] }]
/-- what is asked where a function is left, its marks and all -/
def FinW (P : Program) (fn : Func) (post : Tr → List Chunk → Prop) (Γ : Ctx) : Exit → Act → World → Prop := fun e a w => (e = .ret ∨ e = .normal) ∧
 LeavesInM Fence.wide 9 P fn a.tmps (fun e w' => ∃ v r cs', e = .returned v ∧ post r cs' ∧ r.rd w' (av Γ.M cs') v ∧ (∀ c ∈ cs', c.holds w' (av Γ.M cs')) ∧ (fps cs').Nodup ∧
   (∀ b ∈ fps cs', b < w'.heap.size ∧ ¬ Γ.M b ∧ (b ∈ Γ.own0 ∨ Γ.w0.heap.size ≤ b)) ∧ Frm Γ.own0 Γ.w0 w') a.defers .returning w
def CwF (P : Program) (fn : Func) (post : Tr → List Chunk → Prop) (Γ : Ctx) (c : Code) (env : Env) (cs : List Chunk) : Prop := ∀ a w, Den Γ env cs a w → c.wpIn (fen Γ) 9 P (FinW P fn post Γ) a w

theorem Spec.bodyF {f n : Nat} {c : Code} {args : List Tr} {cin : List Chunk} (hf : P.funcs[f]? = some fn) (hb : fn.body = some c) (hname : (fn.name == "runtime.NumGoroutine") = false) (hnt : fn.ntmps = n) (hn : Nat.ble args.length n = true)
  (h : ∀ w0 own0 M, CwF P fn post ⟨w0, own0, M, n, none, []⟩ c (argEnv 0 args) cin) : Spec P f args cin post := by
 subst hnt
 unfold Spec
 refine ⟨fun vs w => by simp only [callFunc, Sem.run_bind, run_program, Result.andThen_ok, hf]; simp [hname, hb], ?_⟩
 intro M w vs hr hch hnd hlt hM
 have hl := hr.length
 have hn' : args.length ≤ fn.ntmps := Nat.le_of_ble_eq_true hn
 let Γ : Ctx := ⟨w, fps cin, M, fn.ntmps, none, []⟩
 have d : Den Γ (argEnv 0 args) cin { tmps := vs.toArray ++ Array.replicate (fn.ntmps - vs.toArray.size) undef, defers := [] } w :=
  ⟨rfl, by simp [Γ]; omega, fun j t hj => argEnv_rd (pre := []) hr rfl j t hj, hch, hnd, fun b hb => ⟨(hlt b hb).1, (hlt b hb).2, .inl hb⟩, hM, Frm.refl _ _⟩
 have hw := h w (fps cin) M
 unfold CwF at hw
 refine callsIn_wide.1 (callsIn_of_wp_marks (n := 9) hf hb trivial (wpIn_mono (hw _ _ d) ?_))
 rintro e a w' ⟨he, hL⟩
 rcases he with rfl | rfl
 ·exact hL
 ·exact hL
theorem CwF.seq {x y : Code} (hdf : Γ.df = []) (h : Cw P Γ x env cs (Then (fun env cs => CwF P fn post Γ y env cs) (Fin P fn Γ post))) : CwF P fn post Γ (.seq x y) env cs := by
 unfold Cw at h
 intro a w d
 refine wpIn_seq (wpIn_mono (h a w d) ?_)
 rintro e a2 w2 ⟨env2, cs2, hF, hd⟩
 unfold Then at hF
 have key : e ≠ .normal → Fin P fn Γ post e env2 cs2 → FinW P fn post Γ e a2 w2 := by
  intro _ hF
  unfold Fin at hF
  obtain ⟨he, env', cs', r, hent, hout, hpost⟩ := hF
  unfold Ent at hent
  unfold Outs at hout
  have hd' := hent _ _ hd
  obtain ⟨v, hres, hrd⟩ := hout Γ.w0 Γ.own0 _ _ hd'
  refine ⟨he, ?_⟩
  rw [hd.nodefer, hdf]
  exact ⟨v, hres, v, r, cs', rfl, hpost, hrd, hd'.chunks, hd'.nodup, hd'.fresh, hd'.frame⟩
 cases e with
 |normal => exact hF _ _ hd
 |ret => exact key (by intro h; cases h) hF
 |exit id => exact key (by intro h; cases h) hF
 |goto t => exact key (by intro h; cases h) hF
 |panic ch => exact key (by intro h; cases h) hF
 |outgrown => exact key (by intro h; cases h) hF
theorem CwF.ent {c : Code} (he : Ent Γ env cs env' cs') (h : CwF P fn post Γ c env' cs') : CwF P fn post Γ c env cs := by
 unfold Ent at he
 intro a w d
 exact h a w (he a w d)

/-- the frame behind the loop: its mark is among the deferred calls -/
abbrev behind (Γ : Ctx) (w0 : World) (own0 : List Nat) (M : Nat → Prop) (D : Nat) : Ctx := ⟨w0, own0, M, Γ.n, none, mark1 D⟩

theorem rawL {w : World} {A : Nat → Prop} : ∀ caps : List Value, RdL w A (caps.map Tr.raw) caps
 |[] => rfl
 |c :: caps => ⟨c, caps, rfl, raw_self _, rawL caps⟩
/-- code that holds a range over a function, ahead of `rest` -/
def RngOk (P : Program) (fn : Func) (post : Tr → List Chunk → Prop) (Γ : Ctx) (c rest : Code) (env : Env) (cs : List Chunk) : Prop :=
 ∀ a w, Den Γ env cs a w → ∀ Q : Exit → Act → World → Prop, (∀ a w, rest.wpIn (fen Γ) 9 P (FinW P fn post Γ) a w → Q .normal a w) → (∀ a w, FinW P fn post Γ .ret a w → Q .ret a w) → c.wpIn (fen Γ) 9 P Q a w
theorem CwF.rng {c rest : Code} (h : RngOk P fn post Γ c rest env cs) : CwF P fn post Γ (.seq c rest) env cs := by
 intro a w d
 exact wpIn_seq (h a w d _ (fun _ _ h => h) (fun _ _ h => h))
theorem RngOk.block {id : Nat} {c rest : Code} (h : RngOk P fn post Γ c rest env cs) : RngOk P fn post Γ (.block id c) rest env cs := by
 intro a w d Q h1 h2
 exact wpIn_block (h a w d _ h1 h2)
theorem RngOk.ent {c rest : Code} (he : Ent Γ env cs env' cs') (h : RngOk P fn post Γ c rest env' cs') : RngOk P fn post Γ c rest env cs := by
 unfold Ent at he
 intro a w d
 exact h a w (he a w d)
theorem RngOk.seq {x c rest : Code} (h : Cw P Γ x env cs (Then (fun env cs => RngOk P fn post Γ c rest env cs) NoX)) : RngOk P fn post Γ (.seq x c) rest env cs := by
 unfold Cw at h
 intro a w d Q h1 h2
 refine wpIn_seq (wpIn_mono (h a w d) ?_)
 rintro e a2 w2 ⟨env2, cs2, hF, hd⟩
 unfold Then NoX at hF
 cases e with
 |normal => exact hF _ _ hd Q h1 h2
 |ret => exact hF.elim
 |exit id => exact hF.elim
 |goto t => exact hF.elim
 |panic ch => exact hF.elim
 |outgrown => exact hF.elim
/-- for .. := range g { .. } -/
theorem RngOk.range {g : Operand} {ps : List Nat} {assign body rest : Code} {gf : Nat} {caps : List Value} {cin cout : List Chunk} {xs : List (List Tr)} (hdf : Γ.df = []) (hrd : Γ.rd = none)
  (hg : ev env g = some (Tr.raw (.func (.func gf) #[] caps.toArray))) (hi : IterSpec P gf caps cin cout xs) (hal : ∀ args ∈ xs, args.length = ps.length) (hpn : ∀ p ∈ ps, p < Γ.n)
  (I : Nat → List Chunk → Prop) (Ix : Code → List Chunk → Prop) {c0 : List Chunk} (h0 : I 0 c0) (hp : cs.Perm (c0 ++ (cin ++ cf)))
  (hbody : ∀ l k args csk, xs[k]? = some args → I k csk → ∀ w0 own0 M, Cw P ⟨w0, own0, M, Γ.n, some l, []⟩ assign (prm ps args env) csk (Then (fun env1 cs1 => ∀ w0 own0, Cw P ⟨w0, own0, M, Γ.n, some l, []⟩ body env1 cs1 (RPost ⟨w0, own0, M, Γ.n, some l, []⟩ (I (k + 1)) Ix)) NoX))
  (hdone : ∀ w0 own0 M D csN, I xs.length csN → Cw P (behind Γ w0 own0 M D) rest env (csN ++ (cout ++ cf)) (Fin P fn (behind Γ w0 own0 M D) post))
  (hjump : ∀ c csx, Ix c csx → c = .ret ∧ ∀ w0 own0 M D, Fin P fn (behind Γ w0 own0 M D) post .ret env (csx ++ (cout ++ cf)))
  (hspec : ∀ (vs : Array Value) (w : World), (callFunc gf vs).run P w = .ok (.enter gf vs) w) : RngOk P fn post Γ (.rangeFunc g ps.toArray assign body) rest env cs := by
 intro a w d Q hQn hQr
 have hgv := rd_raw (d.ev hg)
 refine wpIn_rangeFunc fun fnm hfn => ?_
 have hro : (fen Γ).round = none := hrd
 rw [hro]
 obtain ⟨r0, hr0⟩ : ∃ r0 : Loop, r0 = { state := .ready, pending := none, fn := fnm, tmps := a.tmps, params := ps.toArray, assign, body, defers := w.heap.size } := ⟨_, rfl⟩
 obtain ⟨W1, hW1⟩ : ∃ W1, (w.alloc (.deferred (some []))).alloc (.loop r0) = W1 := ⟨_, rfl⟩
 have hsz1 : W1.heap.size = w.heap.size + 2 := by rw [← hW1]; simp
 have hL1 : W1.heap[w.heap.size + 1]? = some (.loop r0) := by
  rw [← hW1]; have := World.alloc_heap_new (w.alloc (.deferred (some []))) (.loop r0); rwa [World.size_alloc] at this
 have hD1 : W1.heap[w.heap.size]? = some (.deferred (some [])) := by
  rw [← hW1]
  show ((w.heap.push _).push _)[w.heap.size]? = _
  rw [Array.getElem?_push, if_neg (by simp), Array.getElem?_push, if_pos rfl]
 have hold1 : ∀ b, b < w.heap.size → W1.heap[b]? = w.heap[b]? := by
  intro b hb
  rw [← hW1]
  show ((w.heap.push _).push _)[b]? = _
  rw [Array.getElem?_push, if_neg (by simp; omega), Array.getElem?_push, if_neg (by omega)]
 refine ⟨w.heap.size + 1, mark1 w.heap.size, W1, { target := .fn (.func gf) caps.toArray, args := #[.func (.yield (w.heap.size + 1)) #[] #[]] }, W1, gf,
  #[.func (.yield (w.heap.size + 1)) #[] #[]] ++ caps.toArray, W1, ?_, ?_, ?_, ?_, (fun h => by simp [fen, Fence.wide] at h), ?_⟩
 ·rw [← hW1, hr0]; exact run_enterLoop_outer _ _ _ _ _
 ·simp only [resolve, hgv]
  simp [go_sem]
 ·intro f' hf'; exact trivial
 ·simp [invoke, go_sem, hspec]
 -- the iterator's contract
 have hd1 := d.perm hp
 have hyp : ∀ k args c, xs[k]? = some args → (∃ c2, I k c2 ∧ c = Chunk.lp (w.heap.size + 1) r0 env c2) → YSpec P (w.heap.size + 1) args [c] (fun r cs => (r = Tr.bool true ∧ ∃ c', (∃ c2, I (k + 1) c2 ∧ c' = Chunk.lp (w.heap.size + 1) r0 env c2) ∧ cs = [c']) ∨ (r = Tr.bool false ∧ ∃ c', (∃ j c2, Ix j c2 ∧ c' = Chunk.lp (w.heap.size + 1) { r0 with state := .done, pending := some j } env c2) ∧ cs = [c'])) := by
  rintro k args c hk ⟨c2, hI, rfl⟩
  refine yspec_of (r := r0) (ps := ps) (n := Γ.n) (I := I (k + 1)) (Ix := Ix) (by rw [hr0]) (by rw [hr0]) (by rw [hr0]; exact d.tmps) (by rw [hr0]) hpn (hal args (List.mem_of_getElem? hk)) ?_
  have := hbody (w.heap.size + 1) k args c2 hk hI
  rw [hr0]
  exact this
 have hsp := hi (w.heap.size + 1) (fun k c => ∃ c2, I k c2 ∧ c = Chunk.lp (w.heap.size + 1) r0 env c2) (fun c' => ∃ j c2, Ix j c2 ∧ c' = Chunk.lp (w.heap.size + 1) { r0 with state := .done, pending := some j } env c2) hyp _ ⟨c0, h0, rfl⟩
 unfold Spec at hsp
 have hfa : fps (c0 ++ (cin ++ cf)) = fps c0 ++ (fps cin ++ fps cf) := by simp [fps]
 have hnd := hd1.nodup
 rw [hfa] at hnd
 have hfr : ∀ b ∈ fps c0 ++ (fps cin ++ fps cf), b < w.heap.size ∧ ¬ Γ.M b ∧ (b ∈ Γ.own0 ∨ Γ.w0.heap.size ≤ b) := fun b hb => hd1.fresh b (by rw [hfa]; exact hb)
 have hMlt : ∀ b, Γ.M b → b < w.heap.size := fun b hb => Nat.lt_of_lt_of_le (d.below b hb) d.frame.size
 obtain ⟨M', hM'⟩ : ∃ M' : Nat → Prop, M' = fun b => Γ.M b ∨ b = w.heap.size ∨ b ∈ fps cf := ⟨_, rfl⟩
 have hcin : fps (Chunk.lp (w.heap.size + 1) r0 env c0 :: cin) = (w.heap.size + 1) :: (fps c0 ++ fps cin) := by
  simp only [fps, List.flatMap_cons]
  rw [lp_fp]
  rfl
 have hs1 : SameOn w W1 (av Γ.M (c0 ++ (cin ++ cf))) (av M' (Chunk.lp (w.heap.size + 1) r0 env c0 :: cin)) := by
  intro b hb ⟨m1, m2⟩
  rw [hfa] at m2
  simp only [List.mem_append, not_or] at m2
  refine ⟨⟨?_, ?_⟩, hold1 b hb⟩
  ·rw [hM']
   rintro (h | h | h)
   ·exact m1 h
   ·omega
   ·exact m2.2.2 h
  ·rw [hcin]
   simp only [List.mem_cons, List.mem_append, not_or]
   exact ⟨by omega, m2.1, m2.2.1⟩
 have hholds : ∀ c ∈ c0 ++ (cin ++ cf), c.holds W1 (av M' (Chunk.lp (w.heap.size + 1) r0 env c0 :: cin)) := fun c hc => c.mono (fun b _ hlt => hold1 b hlt) hs1 (hd1.chunks c hc)
 rw [List.nodup_append] at hnd
 obtain ⟨n1, n2, n3⟩ := hnd
 rw [List.nodup_append] at n2
 obtain ⟨n4, n5, n6⟩ := n2
 have hcall := hsp.2 M' W1 (.func (.yield (w.heap.size + 1)) #[] #[] :: caps) (by
   exact ⟨_, _, rfl, raw_self _, rawL caps⟩) (by
   intro c hc
   rcases List.mem_cons.1 hc with rfl | hc
   ·rw [lp_holds]
    refine ⟨hL1, fun i t hl => ?_, fun c hc => hholds c (by simp [hc])⟩
    rw [show r0.tmps = a.tmps by rw [hr0]]
    exact t.mono hs1 (hd1.env i t hl)
   ·exact hholds c (by simp [hc])) (by
   rw [hcin, List.nodup_cons, List.nodup_append]
   refine ⟨fun h => ?_, n1, n4, fun x hx y hy => n3 x hx y (by simp [hy])⟩
   have := (hfr _ (by rw [List.mem_append] at h ⊢; rcases h with h | h; exact .inl h; exact .inr (by simp [h]))).1
   omega) (by
   intro b hb
   rw [hcin] at hb
   rcases List.mem_cons.1 hb with rfl | hb
   ·refine ⟨by omega, ?_⟩
    rw [hM']
    rintro (h | h | h)
    ·have := hMlt _ h; omega
    ·omega
    ·have := (hfr (w.heap.size + 1) (by simp [h])).1; omega
   ·have h1 := hfr b (by rw [List.mem_append] at hb ⊢; rcases hb with h | h; exact .inl h; exact .inr (by simp [h]))
    refine ⟨by omega, ?_⟩
    rw [hM']
    rintro (h | h | h)
    ·exact h1.2.1 h
    ·omega
    ·rcases List.mem_append.1 hb with hb | hb
     ·exact n3 b hb b (by simp [h]) rfl
     ·exact n6 b hb b h rfl) (by
   intro b hb
   rw [hM'] at hb
   rcases hb with h | h | h
   ·have := hMlt b h; omega
   ·omega
   ·have := (hfr b (by simp [h])).1; omega)
 have hcall2 := (callsIn_wide (n := 8)).2 hcall
 rw [show (Value.func (.yield (w.heap.size + 1)) #[] #[] :: caps).toArray = #[.func (.yield (w.heap.size + 1)) #[] #[]] ++ caps.toArray by simp] at hcall2
 refine CallsIn.mono (F := fen Γ) (n := 9 - 1) hcall2 ?_
 rintro e w2 ⟨v, r, cs2, rfl, hpost, hrd2, hch2, hnd2, hfr2, hfm2⟩
 rw [hcin] at hfm2 hfr2
 -- whichever way the loop has ended: the frame behind it
 have hDw2 : w2.heap[w.heap.size]? = some (.deferred (some [])) := by
  rw [hfm2.block w.heap.size (by omega) (fun h => by
   rcases List.mem_cons.1 h with h | h
   ·omega
   ·have := (hfr _ (by rw [List.mem_append] at h ⊢; rcases h with h | h; exact .inl h; exact .inr (by simp [h]))).1
    omega)]
  exact hD1
 have ends : ∀ (q : Loop) (c2 : List Chunk) (o : Obj), cs2 = Chunk.lp (w.heap.size + 1) q env c2 :: cout → q.tmps = a.tmps → w2.heap[w.heap.size + 1]? = some (.loop q) ∧
   ∃ M2 : Nat → Prop, M2 = (fun b => Γ.M b ∨ b = w.heap.size) ∧ Den (behind Γ (w2.putObj (w.heap.size + 1) o) (fps (c2 ++ (cout ++ cf))) M2 w.heap.size) env (c2 ++ (cout ++ cf)) { a with defers := mark1 w.heap.size ++ a.defers } (w2.putObj (w.heap.size + 1) o) ∧
    (∀ b ∈ fps (c2 ++ (cout ++ cf)), b ∈ Γ.own0 ∨ Γ.w0.heap.size ≤ b) ∧ Frm Γ.own0 Γ.w0 (w2.putObj (w.heap.size + 1) o) := by
  rintro q c2 o rfl hqt
  have hcs2 : fps (Chunk.lp (w.heap.size + 1) q env c2 :: cout) = (w.heap.size + 1) :: (fps c2 ++ fps cout) := by
   simp only [fps, List.flatMap_cons]
   rw [lp_fp]
   rfl
  have hlp := hch2 _ List.mem_cons_self
  rw [lp_holds] at hlp
  obtain ⟨hq1, hq2, hq3⟩ := hlp
  refine ⟨hq1, _, rfl, ?_⟩
  have hlt2 : w.heap.size + 1 < w2.heap.size := (Array.getElem?_eq_some_iff.1 hq1).1
  have hfe : fps (c2 ++ (cout ++ cf)) = fps c2 ++ (fps cout ++ fps cf) := by simp [fps]
  rw [hcs2] at hnd2 hfr2
  rw [List.nodup_cons, List.nodup_append] at hnd2
  obtain ⟨p1, p2, p3, p4⟩ := hnd2
  have hcf2 : ∀ b ∈ fps cf, b < w.heap.size := fun b hb => (hfr b (by simp [hb])).1
  have hnotown : ∀ b ∈ fps cf, b ∉ (w.heap.size + 1) :: (fps c0 ++ fps cin) := by
   intro b hb h
   rcases List.mem_cons.1 h with h | h
   ·have := hcf2 b hb; omega
   ·rcases List.mem_append.1 h with h | h
    ·exact n3 b h b (by simp [hb]) rfl
    ·exact n6 b h b hb rfl
  have hout : ∀ b ∈ fps c2 ++ fps cout, b < w2.heap.size ∧ ¬ M' b ∧ b ≠ w.heap.size + 1 ∧ (b ∈ fps c0 ++ fps cin ∨ W1.heap.size ≤ b) := by
   intro b hb
   obtain ⟨f1, f2, f3⟩ := hfr2 b (by simp only [List.mem_cons]; exact .inr hb)
   have hne : b ≠ w.heap.size + 1 := fun e => p1 (e ▸ hb)
   refine ⟨f1, f2, hne, ?_⟩
   rcases f3 with f3 | f3
   ·rcases List.mem_cons.1 f3 with f3 | f3
    ·exact absurd f3 hne
    ·exact .inl f3
   ·exact .inr f3
  -- from w2 under the iterator's view to the new world under ours
  have hs2 : SameOn w2 (w2.putObj (w.heap.size + 1) o) (av M' (Chunk.lp (w.heap.size + 1) q env c2 :: cout)) (av (fun b => Γ.M b ∨ b = w.heap.size) (c2 ++ (cout ++ cf))) := by
   intro b hb ⟨m1, m2⟩
   rw [hcs2] at m2
   simp only [List.mem_cons, List.mem_append, not_or] at m2
   rw [hM'] at m1
   refine ⟨⟨fun h => m1 (h.elim .inl fun h => .inr (.inl h)), ?_⟩, World.putObj_heap_other m2.1⟩
   rw [hfe]
   simp only [List.mem_append, not_or]
   exact ⟨m2.2.1, m2.2.2, fun h => m1 (.inr (.inr h))⟩
  have hs02 : SameOn w (w2.putObj (w.heap.size + 1) o) (av Γ.M (c0 ++ (cin ++ cf))) (av (fun b => Γ.M b ∨ b = w.heap.size) (c2 ++ (cout ++ cf))) := by
   intro b hb hA
   obtain ⟨h1, h2⟩ := hs1 b hb hA
   have hb1 : b < W1.heap.size := by omega
   have hno : b ∉ (w.heap.size + 1) :: (fps c0 ++ fps cin) := by
    have := h1.2
    rwa [hcin] at this
   have h3 : av M' (Chunk.lp (w.heap.size + 1) q env c2 :: cout) b := by
    refine ⟨h1.1, fun h => ?_⟩
    rw [hcs2] at h
    rcases List.mem_cons.1 h with h | h
    ·omega
    ·rcases (hout b h).2.2.2 with h4 | h4
     ·exact hno (List.mem_cons_of_mem _ h4)
     ·omega
   obtain ⟨h5, h6⟩ := hs2 b (Nat.lt_of_lt_of_le hb1 hfm2.size) h3
   exact ⟨h5, by rw [h6, hfm2.block b hb1 hno, h2]⟩
  have hmem : ∀ c ∈ c2 ++ (cout ++ cf), c.holds (w2.putObj (w.heap.size + 1) o) (av (fun b => Γ.M b ∨ b = w.heap.size) (c2 ++ (cout ++ cf))) := by
   intro c hc
   rw [List.mem_append, List.mem_append] at hc
   rcases hc with hc | hc | hc
   ·exact c.mono (fun b hb _ => World.putObj_heap_other (hout b (List.mem_append.2 (.inl (List.mem_flatMap.2 ⟨c, hc, hb⟩)))).2.2.1) hs2 (hq3 c hc)
   ·exact c.mono (fun b hb _ => World.putObj_heap_other (hout b (List.mem_append.2 (.inr (List.mem_flatMap.2 ⟨c, hc, hb⟩)))).2.2.1) hs2 (hch2 c (List.mem_cons_of_mem _ hc))
   ·refine c.mono (fun b hb hlt => ?_) hs02 (hd1.chunks c (by simp [hc]))
    have hbf : b ∈ fps cf := List.mem_flatMap.2 ⟨c, hc, hb⟩
    have hno := hnotown b hbf
    rw [World.putObj_heap_other (fun e => hno (by rw [e]; simp)), hfm2.block b (by omega) hno, hold1 b hlt]
  have hfr3 : ∀ b ∈ fps (c2 ++ (cout ++ cf)), b < w2.heap.size ∧ ¬ (Γ.M b ∨ b = w.heap.size) ∧ (b ∈ Γ.own0 ∨ Γ.w0.heap.size ≤ b) := by
   intro b hb
   rw [hfe, ← List.append_assoc] at hb
   rcases List.mem_append.1 hb with hb | hb
   ·obtain ⟨f1, f2, f3, f4⟩ := hout b hb
    rw [hM'] at f2
    refine ⟨f1, fun h => f2 (h.elim .inl fun h => .inr (.inl h)), ?_⟩
    rcases f4 with f4 | f4
    ·exact (hfr b (by rw [List.mem_append] at f4 ⊢; rcases f4 with h | h; exact .inl h; exact .inr (by simp [h]))).2.2
    ·have := d.frame.size
     exact .inr (by omega)
   ·have h1 := hfr b (by simp [hb])
    have h2 := hfm2.size
    exact ⟨by omega, fun h => h.elim h1.2.1 (fun h => by omega), h1.2.2⟩
  refine ⟨⟨by simp only [hd1.nodefer, hdf, List.append_nil], d.tmps, fun i t hl => ?_, hmem, ?_, ?_, ?_, Frm.refl _ _⟩, fun b hb => (hfr3 b hb).2.2, ?_⟩
  ·exact t.mono hs02 (hd1.env i t hl)
  ·rw [hfe, ← List.append_assoc, List.nodup_append, List.nodup_append]
   refine ⟨⟨p2, p3, p4⟩, n5, ?_⟩
   intro x hx y hy e
   subst e
   have := (hout x hx).2.1
   rw [hM'] at this
   exact this (.inr (.inr hy))
  ·intro b hb
   have := hfr3 b hb
   exact ⟨by simp only [World.putObj_size]; exact this.1, this.2.1, .inl hb⟩
  ·intro b hb
   simp only [World.putObj_size]
   have h2 := hfm2.size
   rcases hb with hb | hb
   ·have := hMlt b hb; omega
   ·omega
  ·have hf1 : Frm Γ.own0 Γ.w0 w := hd1.frame
   refine ⟨?_, ?_, ?_, ?_, ?_, ?_⟩
   ·show w2.os = _; rw [hfm2.os, ← hW1]; exact hf1.os
   ·show w2.tape = _; rw [hfm2.tape, ← hW1]; exact hf1.tape
   ·show w2.output = _; rw [hfm2.output, ← hW1]; exact hf1.output
   ·simp only [World.putObj_size]
    have h1 := hf1.size
    have h2 := hfm2.size
    omega
   ·intro b hb hn
    have h1 := hf1.size
    rw [World.putObj_heap_other (by omega), hfm2.block b (by omega) (fun h => ?_), hold1 b (by omega), hf1.block b hb hn]
    rcases List.mem_cons.1 h with h | h
    ·omega
    ·have := (hfr b (by rw [List.mem_append] at h ⊢; rcases h with h | h; exact .inl h; exact .inr (by simp [h]))).2.2
     rcases this with h2 | h2
     ·exact hn h2
     ·omega
   ·intro hS
    have h1 := hf1.drawn hS
    have h2 := hfm2.drawn hS
    rw [← hW1] at h2
    exact Nat.le_trans h1 h2
 -- leaving the function
 have leaves : ∀ (o : Obj) (c3 : List Chunk) (M2 : Nat → Prop) (e : Exit) (a3 : Act) (w3 : World), M2 = (fun b => Γ.M b ∨ b = w.heap.size) → (∀ b ∈ fps c3, b ∈ Γ.own0 ∨ Γ.w0.heap.size ≤ b) → Frm Γ.own0 Γ.w0 (w2.putObj (w.heap.size + 1) o) → w.heap.size ∉ fps c3 →
   Lift (behind Γ (w2.putObj (w.heap.size + 1) o) (fps c3) M2 w.heap.size) (Fin P fn (behind Γ (w2.putObj (w.heap.size + 1) o) (fps c3) M2 w.heap.size) post) e a3 w3 → FinW P fn post Γ e a3 w3 := by
  rintro o c3 M2 e a3 w3 hM2 hown3 hf3 hnD ⟨env3, cs3, hF, hd3⟩
  unfold Fin at hF
  obtain ⟨he, env', cs', r3, hent, hout3, hpost3⟩ := hF
  unfold Ent at hent
  unfold Outs at hout3
  have hd4 := hent _ _ hd3
  have hszw2 : w.heap.size < (w2.putObj (w.heap.size + 1) o).heap.size := by
   simp only [World.putObj_size]
   exact (Array.getElem?_eq_some_iff.1 hDw2).1
  have hD3 : w3.heap[w.heap.size]? = some (.deferred (some [])) := by
   rw [hd3.frame.block w.heap.size hszw2 hnD]
   simp only
   rw [World.putObj_heap_other (by omega)]
   exact hDw2
  have hDlt : w.heap.size < w3.heap.size := (Array.getElem?_eq_some_iff.1 hD3).1
  have hnD4 : w.heap.size ∉ fps cs' := fun h => (hd4.fresh _ h).2.1 (by rw [hM2]; exact .inr rfl)
  have hs4 : SameOn w3 (w3.putObj w.heap.size (.deferred none)) (av M2 cs') (av M2 cs') := by
   intro b hb ⟨m1, m2⟩
   exact ⟨⟨m1, m2⟩, World.putObj_heap_other (fun e => m1 (by rw [hM2]; exact .inr e))⟩
  have hs5 : SameOn (w3.putObj w.heap.size (.deferred none)) (w3.putObj w.heap.size (.deferred none)) (av M2 cs') (av Γ.M cs') := by
   intro b hb ⟨m1, m2⟩
   exact ⟨⟨fun h => m1 (by rw [hM2]; exact .inl h), m2⟩, rfl⟩
  have hch4 : ∀ c ∈ cs', c.holds (w3.putObj w.heap.size (.deferred none)) (av M2 cs') := fun c hc => c.mono (fun b hb _ => World.putObj_heap_other (fun e => hnD4 (by rw [← e]; exact List.mem_flatMap.2 ⟨c, hc, hb⟩))) hs4 (hd4.chunks c hc)
  have hd5 : Den ⟨w3.putObj w.heap.size (.deferred none), fps cs', M2, Γ.n, none, mark1 w.heap.size⟩ env' cs' a3 (w3.putObj w.heap.size (.deferred none)) := by
   refine ⟨hd4.nodefer, hd4.tmps, fun i t h => t.mono hs4 (hd4.env i t h), hch4, hd4.nodup, fun b hb => ⟨by simp only [World.putObj_size]; exact (hd4.fresh b hb).1, (hd4.fresh b hb).2.1, .inl hb⟩, fun b hb => ?_, Frm.refl _ _⟩
   have h1 := hd4.below b hb
   have h2 := hd4.frame.size
   simp only [World.putObj_size] at h1 h2 ⊢
   omega
  obtain ⟨v3, hres, hrd3⟩ := hout3 _ _ _ _ hd5
  refine ⟨he, ?_⟩
  rw [hd4.nodefer]
  refine ⟨by simp, .inl ⟨_, _, rfl, run_takeDeferred hD3, ?_⟩⟩
  refine ⟨v3, hres, v3, r3, cs', rfl, hpost3, r3.mono hs5 hrd3, fun c hc => c.mono (fun _ _ _ => rfl) hs5 (hch4 c hc), hd4.nodup, fun b hb => ?_, ?_⟩
  ·obtain ⟨g1, g2, g3⟩ := hd4.fresh b hb
   refine ⟨by simp only [World.putObj_size]; exact g1, fun h => g2 (by rw [hM2]; exact .inl h), ?_⟩
   rcases g3 with g3 | g3
   ·exact hown3 b g3
   ·have h1 := hf3.size
    simp only at g3
    exact .inr (by omega)
  ·have hw0 : Γ.w0.heap.size ≤ w.heap.size := hd1.frame.size
   refine Frm.trans (o1 := w.heap.size :: fps c3) hf3 ?_ (fun x hx => ?_)
   ·have hf4 := hd4.frame
    refine ⟨hf4.os, hf4.tape, hf4.output, (by have := hf4.size; simp only [World.putObj_size] at this ⊢; exact this), fun b hb hn => ?_, fun h => hf4.drawn h⟩
    simp only [List.mem_cons, not_or] at hn
    rw [World.putObj_heap_other hn.1]
    exact hf4.block b hb hn.2
   ·rcases List.mem_cons.1 hx with rfl | hx
    ·exact .inr hw0
    ·exact hown3 x hx
 have hfen : ∀ w0 own0 M2 D, fen (behind Γ w0 own0 M2 D) = fen Γ := fun w0 own0 M2 D => by unfold fen; rw [hrd]
 rcases hpost with ⟨c, ⟨c2, hI, rfl⟩, hcs⟩ | ⟨c, ⟨j, c2, hI, rfl⟩, hcs⟩
 ·obtain ⟨hl2, M2, hM2, hd2, hown2, hf2⟩ := ends r0 c2 (.loop { r0 with state := .exhausted, pending := none }) hcs (by rw [hr0])
  have hend := run_endLoop (P := P) hl2 (by rw [hr0]; simp)
  rw [show r0.pending = none by rw [hr0]] at hend
  refine ⟨_, _, hend, ?_⟩
  have hk := hdone (w2.putObj (w.heap.size + 1) (.loop { r0 with state := .exhausted, pending := none })) (fps (c2 ++ (cout ++ cf))) M2 w.heap.size c2 hI
  unfold Cw at hk
  have hk2 := hk _ _ hd2
  rw [hfen] at hk2
  exact hQn _ _ (wpIn_mono hk2 fun e a3 w3 h => leaves _ _ M2 e a3 w3 hM2 hown2 hf2 (fun h => (hd2.fresh _ h).2.1 (by rw [hM2]; exact .inr rfl)) h)
 ·obtain ⟨hl2, M2, hM2, hd2, hown2, hf2⟩ := ends _ c2 (.loop { ({ r0 with state := .done, pending := some j } : Loop) with state := .exhausted }) hcs (by rw [hr0])
  have hend := run_endLoop (P := P) hl2 (by simp)
  refine ⟨_, _, hend, ?_⟩
  obtain ⟨rfl, hk⟩ := hjump j c2 hI
  refine wpIn_ret (hQr _ _ ?_)
  exact leaves _ _ M2 .ret _ _ hM2 hown2 hf2 (fun h => (hd2.fresh _ h).2.1 (by rw [hM2]; exact .inr rfl)) ⟨env, _, hk _ _ _ _, hd2⟩
end rng2
attribute [irreducible] CwF RngOk FinW
end Lg
end
section
set_option linter.all false
namespace Lg
open Go

/-! ### clear on the tail of an owned slice -/
section clr
variable {P : Program} {Γ : Ctx} {env env' : Env} {cs cs' cf : List Chunk} {Q : Post} {R : Array Oper}
variable {i : Tmp} {ty : TypeId} {pos : String} {af : Array Edge} {rest : List Oper}
variable {x y z : Operand} {T : TypeId} {k : IntKind} {p q : Int}

theorem run_clear_rowK (w : World) (T ty elem : TypeId) (kk n : Nat) (g o c : Nat) (cur : Array Value) (t : TypeId) (zv : Value)
  (hu : P.underlying T = some (.slice elem)) (hs : ∃ i, P.info? elem = some i ∧ i.zero = some zv) (hk : zv.cells.size = kk) (h0 : 0 < n)
  (hg : w.heap[g]? = some (.cells cur t (0, 0))) (hfit : o + n * kk ≤ cur.size) (h1 : ∀ v ∈ (madeCells zv.cells (n * kk)).toList, v.oneCell' = true) :
  (Builtin.clear_ #[T] ty #[.slice (some ⟨g, o, none⟩) n c]).run P w =
   .ok (.tuple #[]) (w.setRow g (cur.toList.take o ++ (madeCells zv.cells (n * kk)).toList ++ cur.toList.drop (o + (madeCells zv.cells (n * kk)).toList.length)).toArray) := by
 obtain ⟨i, hq, hi⟩ := hs
 have hz : (Builtin.zeroCells zv.cells n).toList = (madeCells zv.cells (n * kk)).toList := by
  unfold Builtin.zeroCells madeCells
  rw [hk]
 have hlen : (madeCells zv.cells (n * kk)).toList.length = n * kk := by rw [Array.length_toList, size_madeCells]
 have hst := run_storeCells_at P g o t (madeCells zv.cells (n * kk)).toList 0 cur w hg (by rw [hlen]; simpa using hfit) h1
 obtain ⟨m, rfl⟩ : ∃ m, n = m + 1 := ⟨n - 1, by omega⟩
 simp [Builtin.clear_, run_underlying hu, zeroValue, typeInfo, hq, hi, hz, hst]
theorem Ops.clear_part {E kk bb zs} [hS : TySl P T E kk bb zs] {ad v : Option Addr} {o n cap cap2 : Nat} {rows : List (List Tr)}
  (hx : ev env x = some (.raw (.slice v n cap2))) (hp : cs.Perm (Chunk.own ad cap kk E rows :: cf)) (hv : v = ad.map fun a => ⟨a.block, o * kk, none⟩) (h0 : 0 < n) (hn : o + n = rows.length)
  (kont : Ops P Γ R rest env (Chunk.own ad cap kk E (rows.take o ++ List.replicate n (zs.map Tr.raw)) :: cf) Q) :
  Ops P Γ R (⟨none, .call ⟨.builtin .clear, #[x], #[T]⟩, ty, pos, af, none⟩ :: rest) env cs Q :=
 Ops.of fun a w d => by
  have hvx := rd_raw (d.ev hx)
  have d' := d.perm hp
  have hne : rows ≠ [] := by intro h; rw [h] at hn; simp at hn; omega
  obtain ⟨g, cur0, rfl, _, hcp, _⟩ := own_some (d'.has (List.Perm.refl _)) hne
  subst hv
  obtain ⟨ti, zv, h1, h2, h3, h4, h5, h6⟩ := hS.hE
  have hzs : zv.cells.size = kk := hS.hz _ _ h1 h2
  have hone : ∀ v ∈ zv.cells.toList, v.oneCell' = true := by rw [h3]; exact hS.one
  have hmd := madeCells_rd (w := w) (A := av Γ.M (Chunk.own (some ⟨g, 0, none⟩) cap kk E rows :: cf)) hone n
  rw [hzs, h3, ← zeroRow_flat] at hmd
  obtain ⟨cur, hg, hfit, hvl, hden⟩ := d'.lay (pn := o) (new := List.replicate n (zs.map Tr.raw)) (by omega) (by rw [List.length_replicate]; omega) (fun r hr => by rw [List.eq_of_mem_replicate hr]; simp [hS.hk]) hmd
  rw [List.length_replicate] at hvl hden
  rw [show rows.drop (o + n) = [] from List.drop_of_length_le (by omega), List.append_nil] at hden
  have hrun := run_clear_rowK (P := P) w T ty E kk n g (o * kk) cap2 cur E zv hS.hT ⟨ti, h1, h2⟩ hzs h0 hg (by rw [← hvl]; exact hfit) hmd.one
  simp only [Option.map] at hvx
  exact ⟨_, _, .value _, _, by simp [execOp, resolve, invoke, builtin, hvx, hrun] <;> rfl, .inl ⟨_, rfl, Den.put_none hden _⟩, kont⟩
end clr
end Lg
end
section
set_option linter.all false
namespace Lg
open Go

section cpy
variable {P : Program} {Γ : Ctx} {env env' : Env} {cs cs' cf : List Chunk} {Q : Post} {R : Array Oper} {a : Act} {w : World}
variable {i : Tmp} {ty : TypeId} {pos : String} {af : Array Edge} {rest : List Oper} {x y z : Operand} {T T2 : TypeId} {k : IntKind} {p q : Int}
/-- copy(s[n:], s[:n]): the head of a slice goes behind itself -/
theorem Ops.copy_front {E kk bb zs} [hS : TySl P T E kk bb zs] {g cap n m o1 dl dc sl sc : Nat} {rows : List (List Tr)}
  (hx : ev env x = some (.raw (.slice (some ⟨g, o1, none⟩) dl dc))) (hy : ev env y = some (.raw (.slice (some ⟨g, 0, none⟩) sl sc)))
  (hp : cs.Perm (Chunk.own (some ⟨g, 0, none⟩) cap kk E rows :: cf)) (ho1 : o1 = n * kk) (hn : n ≤ rows.length) (hdl : dl = rows.length - n) (hsl : sl ≤ rows.length) (hm : m = min dl sl) (hcap : rows.length ≤ cap) (hi : Nat.blt i Γ.n = true)
  (kont : Ops P Γ R rest ((i, .int (m : Nat)) :: env) (Chunk.own (some ⟨g, 0, none⟩) cap kk E (rows.take n ++ rows.take m ++ rows.drop (n + m)) :: cf) Q) :
  Ops P Γ R (⟨some i, .call ⟨.builtin .copy, #[x, y], #[T, T]⟩, ty, pos, af, none⟩ :: rest) env cs Q :=
 Ops.of fun a w d => by
  have hv := rd_raw (d.ev hx)
  have hv2 := rd_raw (d.ev hy)
  have d' := d.perm hp
  obtain ⟨xs, hrd, hkr, hcell⟩ := own_cells (d'.has (List.Perm.refl _))
  have hml : m ≤ rows.length := by omega
  have hr := hrd.take (m * kk)
  rw [← flatten_take hkr] at hr
  have htl : (rows.take m).length = m := by rw [List.length_take]; omega
  obtain ⟨cur, hg, hfit, hvl, hden⟩ := d'.lay (pn := n) (new := rows.take m) hn (by rw [htl]; omega) (fun r hr => hkr r (List.mem_of_mem_take hr)) hr
  obtain ⟨ti, zv, h1, h2, h3, h4, _⟩ := hS.hE
  rw [htl] at hvl
  have hrun := run_copy_rowK (P := P) w T T ty E kk m g o1 dl dc ⟨g, 0, none⟩ sl sc cur E (xs.take (m * kk)) hS.hT ⟨ti, h1, h4⟩ hg (by rw [hm, Nat.min_comm]) hvl
   (fun j u hj => by
    rw [add_plain, Nat.zero_add]
    rw [List.getElem?_take] at hj
    split at hj
    ·exact hcell _ _ hj
    ·cases hj) (by rw [ho1]; exact hfit) hr.one
  rw [ho1] at hrun hv
  rw [htl] at hden
  exact ⟨_, _, .value _, _, by simp [execOp, resolve, invoke, builtin, hv, hv2, hrun] <;> rfl, .inl ⟨_, rfl, Den.put hden hi (raw_self _)⟩, kont⟩
end cpy
end Lg
end
