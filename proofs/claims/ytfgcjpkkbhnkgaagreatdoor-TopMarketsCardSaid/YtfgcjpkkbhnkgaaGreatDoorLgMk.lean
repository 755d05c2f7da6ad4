/- A part of the proof of a law of this seat: it adds no condition. By an AI agent. -/
import Derived.Test.YtfgcjpkkbhnkgaaGreatDoorLgLoop
section
set_option linter.all false
namespace Lg
open Go
section fl
variable {P : Program} {Γ : Ctx} {env env' : Env} {cs cs' cf : List Chunk} {Q : Post} {R : Array Oper} {acc : Env}

/-- .. and no panic -/
def NoP (Q : Post) : Post := fun e env cs => (∀ c, e ≠ .panic c) ∧ Q e env cs
theorem NoP.norm (h : Q .normal env cs) : NoP Q .normal env cs := ⟨(fun _ h => nomatch h), h⟩
/-- these can be taken first: each is ready, and goes with none that might come earlier -/
def takeOk (ops : Array Oper) (m : Nat) : Array Bool → List Nat → Bool
 |_, [] => true
 |listed, i :: r => Nat.blt i m && Region.free .any ops listed i && (Region.ready .any ops listed).contains i && takeOk ops m (listed.setIfInBounds i true) r
/-- they look at no memory -/
def FlRun (P : Program) (l : List Oper) : List Nat → Act → Prop
 |[], _ => True
 |i :: r, a => ∃ o d v, l[i]? = some o ∧ o.dst = some d ∧ o.guard = none ∧ (∀ w, (execOp a.eval o).run P w = .ok (.value v) w) ∧ (∀ c, o.op ≠ .call c) ∧ FlRun P l r (a.put (some d) v)
def tailOkF (l : List Oper) (m : Nat) (fl : List Nat) : Bool := match l.drop m with
 |[] => true
 |o :: r => (match o.guard with | none => true | some _ => false) && ((List.range m).all fun i => fl.contains i || (cloFrom l m (preds o.after)).contains i) && tailFrom (m + 1) r
theorem tailOkF_at {l : List Oper} {m j : Nat} {o : Oper} {fl : List Nat} (ht : tailOkF l m fl = true) (h : (l.drop m)[j]? = some o) : o.guard = none ∧ (0 < j → m + j - 1 ∈ preds o.after) ∧ (j = 0 → ∀ i, i < m → i ∈ fl ∨ i ∈ cloFrom l m (preds o.after)) := by
 unfold tailOkF at ht
 cases hl : l.drop m with
 |nil => rw [hl] at h; simp at h
 |cons p r =>
  rw [hl] at ht h
  simp only [Bool.and_eq_true] at ht
  obtain ⟨⟨h1, h2⟩, h3⟩ := ht
  cases j with
  |zero =>
   simp at h
   subst h
   refine ⟨guard_none h1, fun h => absurd h (by omega), fun _ i hi => ?_⟩
   have := List.all_eq_true.1 h2 i (by simp; omega)
   simpa using this
  |succ j =>
   simp at h
   obtain ⟨g1, g2⟩ := tailFrom_at h3 h
   exact ⟨g1, fun _ => by rwa [show m + (j + 1) - 1 = m + 1 + j - 1 by omega], fun h => absurd h (by omega)⟩

theorem Cw.region_fl {id m : Nat} {l : List Oper} {env : Env} (fl : List Nat) (hml : m ≤ l.length) (hm : P.follows .mixedOrders = true) (hb : backOk l = true) (hnd : nodupB (dsts (l.take m)) = true) (hlt : (dsts (l.take m)).all (Nat.blt · Γ.n) = true) (htl : tailOkF l m fl = true)
  (hns : Region.noSelect l.toArray = true) (htk : takeOk l.toArray m (Array.replicate l.length false) fl = true) (hz : ∀ a w, Den Γ env cs a w → FlRun P l fl a)
  (h : PRun P Γ cs l env (fun acc => Ops P Γ l.toArray (l.drop m) acc cs (NoP Q)) 0 [] env (l.take m)) (hrd : Γ.rd = none) : Cw P Γ (.region id l.toArray true) env cs Q := by
 replace hrd : (fen Γ).round = none := hrd
 unfold Cw
 intro a w d
 obtain ⟨all, h1, h2, h3, h4⟩ := PRun.out (pre := []) rfl (fun j p h => by simp [getP] at h) rfl h
 replace h2 : all.map POp.oper = l.take m := by simpa using h2
 replace h4 := fun (i : Nat) => h4 i (Nat.zero_le i)
 have hal : all.length = m := by
  have := congrArg List.length h2
  simp at this
  omega
 have hget : ∀ (i : Nat) o, all[i]? = some o → l[i]? = some o.oper := fun i o ho => by
  have hi := (List.getElem?_eq_some_iff.1 ho).1
  have : (all.map POp.oper)[i]? = some o.oper := by simp [ho]
  rw [h2, List.getElem?_take] at this
  split at this
  ·exact this
  ·cases this
 have hdst : dsts (l.take m) = all.map (·.dst) := by
  rw [← h2]
  simp only [dsts, List.filterMap_map]
  clear h1 h2 h3 h4 hget hal
  induction all with
  |nil => rfl
  |cons o all ih => simp [POp.oper]; exact ih
 have hnodup := nodupB_iff hnd
 rw [hdst] at hnodup
 have hltn : ∀ o ∈ all, o.dst < Γ.n := fun o ho => by
  rw [hdst] at hlt
  have := List.all_eq_true.1 hlt o.dst (List.mem_map_of_mem ho)
  simpa [Nat.blt_eq] using this
 have hback : ∀ (i : Nat) o, l[i]? = some o → ∀ j ∈ preds o.after, j < i := by
  intro i o ho j hj
  obtain ⟨e, he, hbd, rfl⟩ := mem_preds.1 hj
  have := backFrom_at (k := 0) (i := i) (o := o) hb ho e he hbd
  omega
 have htail : ∀ (j : Nat) o, (l.drop m)[j]? = some o → o.guard = none ∧ (0 < j → m + j - 1 ∈ preds o.after) ∧ ∀ i ∈ preds o.after, i < m + j := by
  intro j o ho
  obtain ⟨g1, g2, _⟩ := tailOkF_at htl ho
  exact ⟨g1, g2, hback (m + j) o (by simpa using ho)⟩
 -- when all of the first part are done
 have fin : ∀ (fuel : Nat) (listed : Array Bool) (a : Act) (w : World), Mid P Γ cs env all l.length listed a w → (∀ i, i < m → listed[i]? = some true) → l.length - m ≤ fuel → wpAnyIn (fen Γ) 9 P .any l.toArray (Lift Γ (NoP Q)) fuel listed a w := by
  intro fuel listed a w hmid hall hf
  refine tail_any (l.drop m) m fuel listed a w (fun j => by simp) htail hmid.size hall ?_ (by simp; omega) (by simpa using hf) ?_
  ·intro i hi hil
   have hne := hmid.tail i (by omega)
   have hsz := hmid.size
   cases hc : listed[i]? with
   |none => rw [Array.getElem?_eq_none_iff] at hc; omega
   |some b => cases b with
    |false => rfl
    |true => exact absurd hc hne
  ·unfold Ops at h3
   refine h3 a w ?_
   have dd := hmid.den
   refine ⟨dd.nodefer, dd.tmps, ?_, dd.chunks, dd.nodup, dd.fresh, dd.below, dd.frame⟩
   intro i t hlk
   by_cases hin : i ∈ all.map (·.dst)
   ·have : ∀ L : List POp, (∀ o ∈ L, ∃ j : Nat, all[j]? = some o) → i ∈ L.map (·.dst) → look ((L.map fun o => (o.dst, o.t)) ++ env) i = some t → ∃ (j : Nat) (o : POp), all[j]? = some o ∧ o.dst = i ∧ o.t = t := by
     intro L
     induction L with
     |nil => intro _ h; simp at h
     |cons o L ihL =>
      intro hL hm hlk
      by_cases e : o.dst = i
      ·rw [List.map_cons, List.cons_append, ← e, look_cons_same] at hlk
       cases hlk
       obtain ⟨j, hj⟩ := hL o (by simp)
       exact ⟨j, o, hj, e, rfl⟩
      ·rw [List.map_cons, List.cons_append, look_cons_ne _ _ e] at hlk
       refine ihL (fun o ho => hL o (by simp [ho])) ?_ hlk
       simp only [List.map_cons, List.mem_cons] at hm
       rcases hm with hm | hm
       ·exact absurd hm.symm e
       ·exact hm
    rw [← List.map_reverse] at hlk
    obtain ⟨j, o, hj, rfl, rfl⟩ := this all.reverse (fun o ho => List.getElem?_of_mem (List.mem_reverse.1 ho)) (by simpa using hin) hlk
    exact hmid.done j o (hall j (by have := (List.getElem?_eq_some_iff.1 hj).1; omega)) hj
   ·rcases look_app hlk with ⟨u, hu, rfl⟩ | hlk
    ·exfalso
     rw [List.mem_reverse, List.mem_map] at hu
     obtain ⟨o, ho, e⟩ := hu
     simp only [Prod.mk.injEq] at e
     exact hin (by rw [← e.1]; exact List.mem_map_of_mem ho)
    ·refine hmid.keep i t hlk ?_
     intro k o ho e
     exact absurd (by rw [← e]; exact List.mem_map_of_mem (List.mem_of_getElem? ho)) hin
 have step : ∀ (listed : Array Bool) (a : Act) (w : World) (i : Nat) (hia' : i < all.length), Mid P Γ cs env all l.length listed a w → ∀ hli : i < listed.size, listed[i]'hli = false → (∀ j ∈ preds (all[i]).af, listed[j]? = some true) →
   ∀ (v : Value) (w' : World), (all[i]).t.rd w' (av Γ.M cs) v → (∀ env2, Den Γ env2 cs a w → Den Γ env2 cs a w') → Mid P Γ cs env all l.length (listed.setIfInBounds i true) (a.put (all[i]).oper.dst v) w' := by
   intro listed a w i hia' hmid hli hc hpred
   have hia : i < m := by omega
   have ho : all[i]? = some all[i] := List.getElem?_eq_getElem hia'
   have hin : all[i] ∈ all := List.getElem_mem hia'
   have hfact : ∀ {w' : World}, (∀ env2, Den Γ env2 cs a w → Den Γ env2 cs a w') → ∀ {s : Nat} {t : Tr}, t.rd w (av Γ.M cs) (a.tmps.getD s undef) → t.rd w' (av Γ.M cs) (a.tmps.getD s undef) := by
    intro w' hp s t ht
    have dd := hmid.den
    have d1 : Den Γ [(s, t)] cs a w := ⟨dd.nodefer, dd.tmps, fun i u hl => by
     by_cases e : s = i
     ·subst e; rw [look_cons_same] at hl; cases hl; exact ht
     ·rw [look_cons_ne _ _ e] at hl; simp [look] at hl, dd.chunks, dd.nodup, dd.fresh, dd.below, dd.frame⟩
    exact (hp _ d1).env s t (look_cons_same _ _ _)
   have hset : ∀ j : Nat, (listed.setIfInBounds i true)[j]? = some true → j = i ∨ listed[j]? = some true := by
    intro j hj
    by_cases e : i = j
    ·exact .inl e.symm
    ·rw [Array.getElem?_setIfInBounds_ne e] at hj
     exact .inr hj
   have hset2 : ∀ j : Nat, listed[j]? = some true → (listed.setIfInBounds i true)[j]? = some true := by
    intro j hj
    by_cases e : i = j
    ·subst e
     rw [Array.getElem?_setIfInBounds_self]
     simp [hli]
    ·rw [Array.getElem?_setIfInBounds_ne e]
     exact hj
   have hs : (all[i]).dst < a.tmps.size := by rw [hmid.den.tmps]; exact hltn _ hin
   intro v w' hrd hpres
   refine ⟨?_, by simpa using hmid.size, ?_, ?_, ?_, ?_⟩
   ·have dd := hpres _ hmid.den
    exact ⟨dd.nodefer, by simpa [POp.oper, Act.put] using dd.tmps, fun q t hlk => by simp [look] at hlk, dd.chunks, dd.nodup, dd.fresh, dd.below, dd.frame⟩
   ·intro s t hlk hno
    have hne : (all[i]).dst ≠ s := fun e => hno i _ ho e (by rw [Array.getElem?_setIfInBounds_self]; simp [hli])
    have := hfact hpres (hmid.keep s t hlk (fun k o hok hd hl => hno k o hok hd (hset2 k hl)))
    simpa [POp.oper, Act.put, Array.getElem?_setIfInBounds_ne hne] using this
   ·intro j o hj hoj
    by_cases e : i = j
    ·subst e
     rw [ho] at hoj
     cases hoj
     simpa [POp.oper, Act.put, hs] using hrd
    ·rw [Array.getElem?_setIfInBounds_ne e] at hj
     have hne : (all[i]).dst ≠ o.dst := by
      intro ed
      exact e (nodup_get hnodup (x := o.dst) (by simp [ho, ed]) (by simp [hoj]))
     have := hfact hpres (hmid.done j o hj hoj)
     simpa [POp.oper, Act.put, Array.getElem?_setIfInBounds_ne hne] using this
   ·intro k o hk hok j hj
    refine hset2 j ?_
    rcases hset k hk with rfl | h
    ·rw [ho] at hok
     cases hok
     exact hpred j hj
    ·exact hmid.closed k o h hok j hj
   ·intro k hk h
    rcases hset k h with rfl | h
    ·omega
    ·exact hmid.tail k hk h
 have denAt : ∀ (listed : Array Bool) (a : Act) (w : World) (i : Nat) (hia' : i < all.length), Mid P Γ cs env all l.length listed a w → ∀ hli : i < listed.size, listed[i]'hli = false → (∀ j ∈ preds (all[i]).af, listed[j]? = some true) →
   ∀ (done : List (Nat × POp)), Numbered all i done → Den Γ (envAt done (all[i]).af (others i 0 l) env) cs a w := by
    intro listed a w i hia' hmid hli hc hpred done hnum
    have dd := hmid.den
    refine ⟨dd.nodefer, dd.tmps, ?_, dd.chunks, dd.nodup, dd.fresh, dd.below, dd.frame⟩
    intro q t hlk
    rcases look_predB hlk with ⟨x, hx, hbd, o, hoj, rfl, rfl⟩ | hlk
    ·obtain ⟨_, hoj'⟩ := hnum _ _ hoj
     exact hmid.done x.on o (hpred x.on (mem_preds.2 ⟨x, hx, hbd, rfl⟩)) hoj'
    ·rcases look_anyOf hlk with rfl | ⟨h5, h6⟩
     ·exact tr_any_self
     ·refine hmid.keep q t h5 ?_
      intro k o hok hd hlk2
      rcases others_spec (hget k o hok) (d := q) (by simp [POp.oper, hd]) h6 with h | h
      ·have : k = i := by omega
       subst this
       rw [Array.getElem?_eq_getElem hli, hc] at hlk2
       simp at hlk2
      ·have := hmid.closed k o hlk2 hok i h
       rw [Array.getElem?_eq_getElem hli, hc] at this
       simp at this
 have main : ∀ (fuel : Nat) (listed : Array Bool) (a : Act) (w : World), Mid P Γ cs env all l.length listed a w → (∀ i ∈ fl, listed[i]? = some true) → (listed.toList.filter (! ·)).length ≤ fuel → l.length - m ≤ (listed.toList.filter (! ·)).length → wpAnyIn (fen Γ) 9 P .any l.toArray (Lift Γ (NoP Q)) fuel listed a w := by
  intro fuel
  induction fuel with
  |zero =>
   intro listed a w hmid hflt hf hf2
   have hall : ∀ i, i < m → listed[i]? = some true := by
    intro i hi
    have hli : i < listed.size := by rw [hmid.size]; omega
    cases hc : listed[i]'hli with
    |true => rw [Array.getElem?_eq_getElem hli, hc]
    |false =>
     exfalso
     have : false ∈ listed.toList.filter (! ·) := List.mem_filter.2 ⟨by rw [← hc]; simp, rfl⟩
     have := List.length_pos_of_mem this
     omega
   exact fin 0 listed a w hmid hall (by omega)
  |succ fuel ih =>
   intro listed a w hmid hflt hf hf2
   by_cases hall : ∀ i, i < m → listed[i]? = some true
   ·exact fin (fuel + 1) listed a w hmid hall (by omega)
   have hsome : ∃ i, i < m ∧ listed[i]? = some false ∧ ∀ j, j < i → listed[j]? = some true := by
    have : ∀ n, n ≤ m → (∀ j, j < n → listed[j]? = some true) ∨ ∃ i, i < m ∧ listed[i]? = some false ∧ ∀ j, j < i → listed[j]? = some true := by
     intro n
     induction n with
     |zero => intro _; exact .inl (fun j hj => by omega)
     |succ n ihn =>
      intro hn
      rcases ihn (by omega) with h | h
      ·have hli : n < listed.size := by rw [hmid.size]; omega
       cases hc : listed[n]'hli with
       |true =>
        refine .inl fun j hj => ?_
        by_cases e : j = n
        ·subst e; rw [Array.getElem?_eq_getElem hli, hc]
        ·exact h j (by omega)
       |false => exact .inr ⟨n, by omega, by rw [Array.getElem?_eq_getElem hli, hc], h⟩
      ·exact .inr h
    rcases this m (Nat.le_refl _) with h | h
    ·exact absurd h hall
    ·exact h
   obtain ⟨i0, hi0, hl0, hp0⟩ := hsome
   refine ⟨fun hr => ?_, ?_⟩
   ·exfalso
    have : i0 ∈ Region.ready .any l.toArray listed := by
     refine mem_ready.2 ⟨_, List.getElem?_eq_getElem (by omega), ?_, ?_⟩
     ·rw [Array.getD_eq_getD_getElem?, hl0]; rfl
     ·intro j hj
      rw [Array.getD_eq_getD_getElem?, hp0 j (hback i0 _ (List.getElem?_eq_getElem (by omega)) j hj)]; rfl
    rw [hr] at this
    cases this
   intro i hi
   obtain ⟨oi, hoi, hl2, hp2⟩ := mem_ready.1 hi
   have hil := (List.getElem?_eq_some_iff.1 hoi).1
   have hia : i < m := by
    rcases Nat.lt_or_ge i m with h | h
    ·exact h
    ·exfalso
     have hoi' : (l.drop m)[i - m]? = some oi := by rw [List.getElem?_drop, show m + (i - m) = i by omega]; exact hoi
     have hlst : ∀ j ∈ preds oi.after, listed[j]? = some true := by
      intro j hj
      have := hp2 j hj
      rw [Array.getD_eq_getD_getElem?] at this
      cases hl : listed[j]? with
      |none => rw [hl] at this; simp at this
      |some b => rw [hl] at this; simp at this; rw [this]
     obtain ⟨_, g2, g3⟩ := tailOkF_at htl hoi'
     by_cases him : i = m
     ·have hcl : ∀ q ∈ cloFrom l m (preds oi.after), listed[q]? = some true := cloFrom_listed (R := fun q => listed[q]? = some true) hlst (fun k o hk hR hlk j hj => by
       have hka : k < all.length := by omega
       have hko : all[k]? = some all[k] := List.getElem?_eq_getElem hka
       have hke := hget k _ hko
       rw [hlk] at hke
       cases hke
       exact hmid.closed k all[k] hR hko j hj)
      rcases g3 (by omega) i0 hi0 with hin | hin
      ·have := hflt i0 hin
       rw [hl0] at this
       cases this
      ·have := hcl i0 hin
       rw [hl0] at this
       cases this
     ·exact hmid.tail (m + (i - m) - 1) (by omega) (hlst _ (g2 (by omega)))
   have hia' : i < all.length := by omega
   have ho : all[i]? = some all[i] := List.getElem?_eq_getElem hia'
   have hli : i < listed.size := by rw [hmid.size]; omega
   have hc : listed[i]'hli = false := by simpa [hli] using hl2
   have hoe := hget i _ ho
   rw [hoi] at hoe
   cases hoe
   obtain ⟨done, hnum, hov⟩ := h4 i all[i] ho
   have hpred : ∀ j ∈ preds (all[i]).af, listed[j]? = some true := by
    intro j hj
    have := hp2 j hj
    rw [Array.getD_eq_getD_getElem?] at this
    cases hl : listed[j]? with
    |none => rw [hl] at this; simp at this
    |some b => rw [hl] at this; simp at this; rw [this]
   have hden : Den Γ (envAt done (all[i]).af (others i 0 l) env) cs a w := denAt listed a w i hia' hmid hli hc hpred done hnum
   have hop : l.toArray[i]? = some (all[i]).oper := by simpa using hoi
   have hin : all[i] ∈ all := List.getElem_mem hia'
   have hyield : ∀ (j : Nat) (q : POp) (c : Bool), j ∈ preds (all[i]).af → getP done j = some q → q.t = Tr.bool c → yielded l.toArray a.tmps j = some c := by
    intro j q c hj hq hc
    obtain ⟨_, hqj⟩ := hnum _ _ hq
    have hval := hmid.done j q (hpred j hj) hqj
    rw [hc] at hval
    have hval' : a.tmps.getD q.dst undef = .bool c := rd_raw hval
    have hs : q.dst < a.tmps.size := by rw [hmid.den.tmps]; exact hltn _ (List.mem_of_getElem? hqj)
    unfold yielded
    rw [List.getElem?_toArray, hget j q hqj]
    rw [Array.getD_eq_getD_getElem?, Array.getElem?_eq_getElem hs] at hval'
    simp only [Option.getD_some] at hval'
    simp [POp.oper, hs, hval']
   have hyieldU : ∀ (j : Nat) (q : POp), j ∈ preds (all[i]).af → getP done j = some q → q.t = Tr.raw undef → yielded l.toArray a.tmps j = none := by
    intro j q hj hq hc
    obtain ⟨_, hqj⟩ := hnum _ _ hq
    have hval := hmid.done j q (hpred j hj) hqj
    rw [hc] at hval
    have hval' : a.tmps.getD q.dst undef = undef := rd_raw hval
    have hs : q.dst < a.tmps.size := by rw [hmid.den.tmps]; exact hltn _ (List.mem_of_getElem? hqj)
    unfold yielded
    rw [List.getElem?_toArray, hget j q hqj]
    rw [Array.getD_eq_getD_getElem?, Array.getElem?_eq_getElem hs] at hval'
    simp only [Option.getD_some] at hval'
    simp [POp.oper, hs, hval', undef]
   have hgoal : (∀ v w', (all[i]).t.rd w' (av Γ.M cs) v → (∀ env2, Den Γ env2 cs a w → Den Γ env2 cs a w') → wpAnyIn (fen Γ) 9 P .any l.toArray (Lift Γ (NoP Q)) fuel (listed.setIfInBounds i true) (a.put (all[i]).oper.dst v) w') → wpOpIn (fen Γ) 9 P l.toArray (Lift Γ (NoP Q)) i (wpAnyIn (fen Γ) 9 P .any l.toArray (Lift Γ (NoP Q)) fuel (listed.setIfInBounds i true)) a w := by
    intro hk
    unfold wpOpIn
    simp only [hop]
    rcases hov with ⟨hg, hv⟩ | ⟨hg, ht⟩
    ·have hw : Region.wanted (all[i]).oper (yielded l.toArray a.tmps) = true := by
      unfold GOk at hg
      unfold Region.wanted
      cases hgd : (all[i]).g with
      |none => simp [POp.oper, hgd]
      |some jb =>
       obtain ⟨j, b⟩ := jb
       rw [hgd] at hg
       obtain ⟨h1, q, h2, h3⟩ := hg
       simp [POp.oper, hgd, hyield j q b h1 h2 h3]
     rw [if_pos hw]
     unfold OpW at hv
     exact hv a w hden (all[i]).dst (all[i]).pos (all[i]).af (all[i]).g _ _ hk
    ·have hw : Region.wanted (all[i]).oper (yielded l.toArray a.tmps) = false := by
      unfold GNo at hg
      unfold Region.wanted
      cases hgd : (all[i]).g with
      |none => rw [hgd] at hg; exact hg.elim
      |some jb =>
       obtain ⟨j, b⟩ := jb
       rw [hgd] at hg
       obtain ⟨h1, q, h2, h3⟩ := hg
       rcases h3 with h3 | h3
       ·simp [POp.oper, hgd, hyield j q (!b) h1 h2 h3]
       ·simp [POp.oper, hgd, hyieldU j q h1 h2 h3]
     rw [if_neg (by simp [hw])]
     exact ⟨fun _ _ => trivial, hk undef w (by rw [ht]; exact raw_self _) fun _ h => h⟩
   have hfs := filter_set listed.toList i (by simp [hli, hc])
   have hset : ∀ j : Nat, (listed.setIfInBounds i true)[j]? = some true → j = i ∨ listed[j]? = some true := by
    intro j hj
    by_cases e : i = j
    ·exact .inl e.symm
    ·rw [Array.getElem?_setIfInBounds_ne e] at hj
     exact .inr hj
   have hset2 : ∀ j : Nat, listed[j]? = some true → (listed.setIfInBounds i true)[j]? = some true := by
    intro j hj
    by_cases e : i = j
    ·subst e
     rw [Array.getElem?_setIfInBounds_self]
     simp [hli]
    ·rw [Array.getElem?_setIfInBounds_ne e]
     exact hj
   have hcnt : l.length - m ≤ ((listed.setIfInBounds i true).toList.filter (! ·)).length := by
    -- those of the second part are not done
    have hm2 : ∀ (L : List Bool) (k : Nat), k ≤ L.length → (∀ j, k ≤ j → L[j]? ≠ some true) → L.length - k ≤ (L.filter (! ·)).length := by
     intro L
     induction L with
     |nil => intro k _ _; simp
     |cons b L ihL =>
      intro k hk hne
      cases k with
      |zero =>
       have hb : b = false := by cases b with | false => rfl | true => exact absurd (by simp) (hne 0 (Nat.le_refl _))
       have := ihL 0 (Nat.zero_le _) (fun j _ => by simpa using hne (j + 1) (Nat.zero_le _))
       subst hb
       simp at this ⊢
       omega
      |succ k =>
       have := ihL k (by simpa using hk) (fun j hj => by simpa using hne (j + 1) (by omega))
       cases b <;> simp <;> omega
    have hsz : (listed.setIfInBounds i true).toList.length = l.length := by simpa using hmid.size
    have := hm2 (listed.setIfInBounds i true).toList m (by omega) (fun j hj hc => by
     rw [Array.getElem?_toList] at hc
     rcases hset j hc with h | h
     ·omega
     ·exact hmid.tail j (by omega) h)
    omega
   refine hgoal fun v w' hrd hpres => ih _ _ _ (step listed a w i hia' hmid hli hc hpred v w' hrd hpres) (fun j hj => hset2 j (hflt j hj)) ?_ hcnt
   ·rw [Array.toList_setIfInBounds]
    omega
 refine wpIn_mono (Q := Lift Γ (NoP Q)) (wpIn_region_any hm ?_) (fun e a w h => h.mono fun e env cs h => h.2)
 have dd := d.drew
 have hrep : ∀ i : Nat, (Array.replicate l.toArray.size false)[i]? ≠ some true := by
  intro i hi
  rw [Array.getElem?_replicate] at hi
  split at hi <;> simp at hi
 have hmid0 : Mid P Γ cs env all l.length (Array.replicate l.toArray.size false) a w.drew := by
  refine ⟨?_, by simp, ?_, ?_, ?_, ?_⟩
  ·exact ⟨dd.nodefer, dd.tmps, fun i t hlk => by simp [look] at hlk, dd.chunks, dd.nodup, dd.fresh, dd.below, dd.frame⟩
  ·intro s t hlk _
   exact dd.env s t hlk
  ·intro i o hi _
   exact absurd hi (hrep i)
  ·intro k o hk
   exact absurd hk (hrep k)
  ·intro k _ h
   exact hrep k h
 -- what looks at no memory is taken first
 have takes : ∀ (fs : List Nat) (listed : Array Bool) (a : Act) (w : World) (fuel : Nat), (∀ i ∈ fl, i ∈ fs ∨ listed[i]? = some true) → takeOk l.toArray m listed fs = true → FlRun P l fs a → Mid P Γ cs env all l.length listed a w → (listed.toList.filter (! ·)).length = fuel → wpAnyIn (fen Γ) 9 P .any l.toArray (Lift Γ (NoP Q)) fuel listed a w := by
  intro fs
  induction fs with
  |nil =>
   intro listed a w fuel hf _ _ hmid hfuel
   refine main fuel listed a w hmid (fun i hi => (hf i hi).resolve_left (by simp)) (by omega) ?_
   have hm2 : ∀ (L : List Bool) (k : Nat), k ≤ L.length → (∀ j, k ≤ j → L[j]? ≠ some true) → L.length - k ≤ (L.filter (! ·)).length := by
    intro L
    induction L with
    |nil => intro k _ _; simp
    |cons b L ihL =>
     intro k hk hne
     cases k with
     |zero =>
      have hb : b = false := by cases b with | false => rfl | true => exact absurd (by simp) (hne 0 (Nat.le_refl _))
      have := ihL 0 (Nat.zero_le _) (fun j _ => by simpa using hne (j + 1) (Nat.zero_le _))
      subst hb
      simp at this ⊢
      omega
     |succ k =>
      have := ihL k (by simpa using hk) (fun j hj => by simpa using hne (j + 1) (by omega))
      cases b <;> simp <;> omega
   have hsz : listed.toList.length = l.length := by simpa using hmid.size
   have := hm2 listed.toList m (by omega) (fun j hj hc => by
    rw [Array.getElem?_toList] at hc
    exact hmid.tail j (by omega) hc)
   omega
  |cons i fs ihf =>
   intro listed a w fuel hf htk hz hmid hfuel
   simp only [takeOk, Bool.and_eq_true] at htk
   obtain ⟨⟨⟨t1, t2⟩, t3⟩, t4⟩ := htk
   obtain ⟨o, dst, v, ho, hod, hog, hrun, hncall, hz2⟩ := hz
   have him : i < m := by simpa [Nat.blt_eq] using t1
   have hia' : i < all.length := by omega
   have hoe := hget i _ (List.getElem?_eq_getElem hia')
   rw [ho] at hoe
   cases hoe
   obtain ⟨oi, hoi, hl2, hp2⟩ := mem_ready.1 (by simpa using t3)
   rw [ho] at hoi
   cases hoi
   have hli : i < listed.size := by rw [hmid.size]; omega
   have hc : listed[i]'hli = false := by simpa [hli] using hl2
   have hpred : ∀ j ∈ preds (all[i]).af, listed[j]? = some true := by
    intro j hj
    have := hp2 j hj
    rw [Array.getD_eq_getD_getElem?] at this
    cases hl : listed[j]? with
    |none => rw [hl] at this; simp at this
    |some b => rw [hl] at this; simp at this; rw [this]
   have hfs := filter_set listed.toList i (by simp [hli, hc])
   obtain ⟨n, rfl⟩ : ∃ n, fuel = n + 1 := ⟨fuel - 1, by omega⟩
   refine wpAnyIn_take (i := i) (v := v) hrd (by simpa using ho) hns t2 t3 (fun c a w h => ?_) ⟨.inl ⟨by simp [Region.wanted, hog], hrun⟩, fun w => by unfold Oper.about; split; (rename_i hq; exact absurd hq (hncall _)); rfl⟩ ?_
   ·obtain ⟨env', cs', hq, _⟩ := h
    exact absurd rfl (hq.1 c)
   · -- the tree of what it yields
    obtain ⟨done, hnum, hov⟩ := h4 i all[i] (List.getElem?_eq_getElem hia')
    have htr : (all[i]).t.rd w (av Γ.M cs) v := by
     rcases hov with ⟨_, hv⟩ | ⟨hg, _⟩
     ·unfold OpW at hv
      have hden : Den Γ (envAt done (all[i]).af (others i 0 l) env) cs a w := denAt listed a w i hia' hmid hli hc hpred done hnum
      have hwp := hv a w hden (all[i]).dst (all[i]).pos (all[i]).af (all[i]).g (fun a' w' => (all[i]).t.rd w' (av Γ.M cs) (a'.tmps.getD (all[i]).dst undef)) (fun _ _ _ => True) (fun v' w' hv' _ => by
       have hs : (all[i]).dst < a.tmps.size := by rw [hmid.den.tmps]; exact hltn _ (List.getElem_mem hia')
       simpa [Act.put, hs] using hv')
      have hr2 := hrun w
      unfold POp.oper at hr2
      replace hwp := hwp.2
      rw [Oper.semAt_eq _ _ _ (nd_of_run hr2 (by intro d h; cases h)), hr2] at hwp
      have hs : (all[i]).dst < a.tmps.size := by rw [hmid.den.tmps]; exact hltn _ (List.getElem_mem hia')
      have hwp2 : (all[i]).t.rd w (av Γ.M cs) ((a.put (some (all[i]).dst) v).tmps.getD (all[i]).dst undef) := hwp
      simpa [Act.put, hs] using hwp2
     ·unfold GNo at hg
      have hgn : (all[i]).g = none := hog
      rw [hgn] at hg
      exact hg.elim
    have hstep := step listed a w i hia' hmid hli hc hpred v w htr (fun _ h => h)
    refine ihf _ _ w n (fun j hj => ?_) t4 ?_ hstep ?_
    ·rcases hf j hj with h | h
     ·rcases List.mem_cons.1 h with rfl | h
      ·right
       rw [Array.getElem?_setIfInBounds_self]
       simp [hli]
      ·exact .inl h
     ·right
      by_cases e : i = j
      ·subst e
       rw [Array.getElem?_setIfInBounds_self]
       simp [hli]
      ·rw [Array.getElem?_setIfInBounds_ne e]
       exact h
    ·have : (all[i]).oper.dst = some dst := hod
     rw [this]
     exact hz2
    ·rw [Array.toList_setIfInBounds]
     omega
 refine takes fl _ a _ _ (fun i hi => .inl hi) (by simpa using htk) (hz a w d) hmid0 (by simp)

/-- such a region, walked as it stands -/
theorem Cw.region_seqF {id m : Nat} {l : List Oper} {env : Env} (fl : List Nat) (hm : P.follows .mixedOrders = true) (hb : (backOk l && (nodupB (dsts (l.take m)) && (ssaFrom l 0 (l.take m) && (tailOkF l m fl && (Nat.ble m l.length && (Region.noSelect l.toArray && takeOk l.toArray m (Array.replicate l.length false) fl)))))) = true) (hlt : (dsts (l.take m)).all (Nat.blt · Γ.n) = true)
  (hz : ∀ a w, Den Γ env cs a w → FlRun P l fl a)
  (h : PSeq P Γ cs (fun acc => Ops P Γ l.toArray (l.drop m) acc cs (NoP Q)) 0 [] env (l.take m)) (hrd : Γ.rd = none := by rfl) : Cw P Γ (.region id l.toArray true) env cs Q := by
 simp only [Bool.and_eq_true] at hb
 exact Cw.region_fl fl (Nat.le_of_ble_eq_true hb.2.2.2.2.1) hm hb.1 hb.2.1 hlt hb.2.2.2.1 hb.2.2.2.2.2.1 hb.2.2.2.2.2.2 hz (PSeq.run hb.1 hb.2.1 hb.2.2.1 Seq.start (fun j => by rw [Nat.zero_add]) h) hrd

theorem FlRun.nil {l : List Oper} {a : Act} : FlRun P l [] a := trivial
theorem FlRun.move {l : List Oper} {i d : Nat} {r : List Nat} {a : Act} {x : Operand} {o : Oper} (ho : l[i]? = some o) (hop : o.op = .move x) (hd : o.dst = some d) (hg : o.guard = none) (k : FlRun P l r (a.put (some d) (a.eval x))) : FlRun P l (i :: r) a :=
 ⟨o, d, _, ho, hd, hg, fun w => by simp [execOp, hop], (by rw [hop]; intro c h; cases h), k⟩
theorem FlRun.sub1 {l : List Oper} {i d : Nat} {r : List Nat} {a : Act} {x : Operand} {T T2 : TypeId} {p q : Int} {o : Oper} (ho : l[i]? = some o) (hop : o.op = .binOp .sub T x (.const (.int .i64 q)) T2) (hd : o.dst = some d) (hg : o.guard = none) (hx : a.eval x = .int .i64 p) (k : FlRun P l r (a.put (some d) (.int .i64 (IntKind.i64.wrap (p - q))))) : FlRun P l (i :: r) a := by
 refine ⟨o, d, _, ho, hd, hg, fun w => ?_, (by rw [hop]; intro c h; cases h), k⟩
 have hc : a.eval (.const (.int .i64 q)) = .int .i64 q := rfl
 simp [execOp, hop, hx, hc, eqGuard, binOp_sub, Op.intArith]
end fl
end Lg
end
section
set_option linter.all false
namespace Lg
open Go

section bun
variable {P : Program} {Γ : Ctx} {env env' : Env} {cs cs' cf : List Chunk} {Q : Post} {R : Array Oper}

/-- several chunks as one -/
def Chunk.bun (L : List Chunk) : Chunk :=
 ⟨fps L, fun w A => ∀ c ∈ L, c.holds w A, fun hb hs h c hc => c.mono (fun b hbc hlt => hb b (List.mem_flatMap.2 ⟨c, hc, hbc⟩) hlt) hs (h c hc)⟩
theorem fps_bun (L : List Chunk) : fps (Chunk.bun L :: cf) = fps (L ++ cf) := by
 simp only [fps, List.flatMap_cons, List.flatMap_append]
 rfl
theorem av_fps {M : Nat → Prop} {a b : List Chunk} (h : fps a = fps b) : av M a = av M b := by
 funext x
 simp only [av, h]
theorem Den.swapc {a : Act} {w : World} (d : Den Γ env cs a w) (hf : fps cs' = fps cs) (hc : ∀ c ∈ cs', c.holds w (av Γ.M cs)) : Den Γ env cs' a w := by
 have e : av Γ.M cs' = av Γ.M cs := av_fps hf
 refine ⟨d.nodefer, d.tmps, e ▸ d.env, ?_, hf ▸ d.nodup, fun b hb => d.fresh b (hf ▸ hb), d.below, d.frame⟩
 intro c h
 rw [e]
 exact hc c h
theorem Ent.bun {L : List Chunk} (hp : cs.Perm (L ++ cf)) : Ent Γ env cs env (Chunk.bun L :: cf) := by
 unfold Ent
 intro a w d
 have d := d.perm hp
 refine d.swapc (fps_bun L) ?_
 intro c hc
 rcases List.mem_cons.1 hc with rfl | hc
 ·intro x hx
  exact d.chunks x (List.mem_append_left _ hx)
 ·exact d.chunks c (List.mem_append_right _ hc)
theorem Ent.unbun {L : List Chunk} (hp : cs.Perm (Chunk.bun L :: cf)) : Ent Γ env cs env (L ++ cf) := by
 unfold Ent
 intro a w d
 have d := d.perm hp
 refine d.swapc (fps_bun L).symm ?_
 intro c hc
 rcases List.mem_append.1 hc with hc | hc
 ·exact d.chunks (Chunk.bun L) (List.mem_cons_self ..) c hc
 ·exact d.chunks c (List.mem_cons_of_mem _ hc)
/-- a further chunk goes into the bundle -/
theorem Ent.push {L : List Chunk} {c : Chunk} {cf' : List Chunk} (h1 : cs.Perm (c :: cf')) (h2 : cf'.Perm (Chunk.bun L :: cf)) : Ent Γ env cs env (Chunk.bun (L ++ [c]) :: cf) := by
 have hp : cs.Perm (Chunk.bun L :: (c :: cf)) := h1.trans ((List.Perm.cons _ h2).trans (List.Perm.swap _ _ _))
 refine Ent.trans (Ent.unbun hp) (Ent.bun ?_)
 simp
/-- a chunk of the bundle is taken out -/
theorem Ent.pull {A B : List Chunk} {c : Chunk} (hp : cs.Perm (Chunk.bun (A ++ c :: B) :: cf)) : Ent Γ env cs env (c :: Chunk.bun (A ++ B) :: cf) := by
 refine Ent.trans (Ent.unbun hp) (Ent.trans (Ent.bun (L := A ++ B) (cf := c :: cf) ?_) (Ent.perm (List.Perm.swap _ _ _)))
 simp only [List.append_assoc, List.cons_append]
 refine List.Perm.append_left A ?_
 refine (List.perm_middle (a := c) (l₁ := B) (l₂ := cf)).symm
/-- and put back, turned -/
theorem Ent.putb {A B : List Chunk} {c : Chunk} {cf' : List Chunk} (h1 : cs.Perm (c :: cf')) (h2 : cf'.Perm (Chunk.bun (A ++ B) :: cf)) : Ent Γ env cs env (Chunk.bun (A ++ c :: B) :: cf) := by
 have hp : cs.Perm (Chunk.bun (A ++ B) :: (c :: cf)) := h1.trans ((List.Perm.cons _ h2).trans (List.Perm.swap _ _ _))
 refine Ent.trans (Ent.unbun hp) (Ent.bun ?_)
 simp only [List.append_assoc, List.cons_append]
 refine List.Perm.append_left A ?_
 exact List.perm_middle (a := c) (l₁ := B) (l₂ := cf)
theorem Ent.bun0 : Ent Γ env cs env (Chunk.bun [] :: cs) := Ent.bun (L := []) (List.Perm.refl _)

/-- an owned slice within another one -/
structure In1 where
 ad : Option Addr
 cap : Nat
 rows : List (List Tr)
def In1.val (x : In1) : Value := .slice x.ad x.rows.length x.cap
def In1.own (k : Nat) (E : TypeId) (x : In1) : Chunk := Chunk.own x.ad x.cap k E x.rows

theorem rdc_settle {α : Type} (pre post : α → List Tr) (k2 : Nat) (E2 : TypeId) {w : World} {A A' : Nat → Prop} (hA : ∀ b, A b → A' b) : ∀ (L : List (α × In1)) (xs : List Value),
  (∀ p ∈ L, (p.2.own k2 E2).holds w A) → (∀ p ∈ L, ∀ g ∈ (p.2.own k2 E2).fp, A' g) →
  RdC w A ((L.map fun p => pre p.1 ++ Tr.raw p.2.val :: post p.1).flatten) xs → RdC w A' ((L.map fun p => pre p.1 ++ Tr.sl k2 p.2.rows :: post p.1).flatten) xs
 |[], xs, _, _, h => h
 |p :: L, xs, h1, h2, h => by
  have hs : SameOn w w A A' := fun b _ h => ⟨hA b h, rfl⟩
  simp only [List.map_cons, List.flatten_cons] at h ⊢
  have hsp := RdC.split h
  have ih := rdc_settle pre post k2 E2 hA L _ (fun q hq => h1 q (List.mem_cons_of_mem _ hq)) (fun q hq => h2 q (List.mem_cons_of_mem _ hq)) hsp.2
  have hrow := RdC.split hsp.1
  obtain ⟨v, rest, hv, hvr, hone, hpost⟩ : RdC w A (Tr.raw p.2.val :: post p.1) _ := hrow.2
  have hvv := rd_raw hvr
  subst hvv
  have hsl : (Tr.sl k2 p.2.rows).rd w A' p.2.val := own_reads (h1 p (List.mem_cons_self ..)) hA (h2 p (List.mem_cons_self ..))
  have hnew : RdC w A' (Tr.sl k2 p.2.rows :: post p.1) _ := ⟨_, _, hv, hsl, hone, hpost.mono hs⟩
  have := RdC.app (RdC.app (hrow.1.mono hs) hnew) ih
  rwa [List.take_append_drop, List.take_append_drop] at this

/-- slices in an owned slice are written no more -/
theorem Ent.settle_nest {α : Type} (pre post : α → List Tr) {L : List (α × In1)} {ad : Option Addr} {cap kk k2 : Nat} {e E2 : TypeId} {rows : List (List Tr)} {B cf' : List Chunk}
  (h1 : cs.Perm (Chunk.own ad cap kk e rows :: cf')) (h2 : cf'.Perm (Chunk.bun B :: cf)) (hr : rows = L.map fun p => pre p.1 ++ Tr.raw p.2.val :: post p.1) (hB : B = L.map fun p => p.2.own k2 E2) :
  Ent Γ env cs env (Chunk.own ad cap kk e (L.map fun p => pre p.1 ++ Tr.sl k2 p.2.rows :: post p.1) :: cf) := by
 subst hr
 subst hB
 unfold Ent
 intro a w d
 have hp : cs.Perm (Chunk.bun (L.map fun p => p.2.own k2 E2) :: Chunk.own ad cap kk e (L.map fun p => pre p.1 ++ Tr.raw p.2.val :: post p.1) :: cf) := h1.trans ((List.Perm.cons _ h2).trans (List.Perm.swap _ _ _))
 have d1 := d.perm hp
 have d2 := d1.dropc
 generalize hrr : (L.map fun p => pre p.1 ++ Tr.raw p.2.val :: post p.1) = rr at *
 have hlen : (L.map fun p => pre p.1 ++ Tr.sl k2 p.2.rows :: post p.1).length = rr.length := by rw [← hrr]; simp
 have hfp : fps (Chunk.own ad cap kk e (L.map fun p => pre p.1 ++ Tr.sl k2 p.2.rows :: post p.1) :: cf) = fps (Chunk.own ad cap kk e rr :: cf) := by
  simp only [fps, List.flatMap_cons]
  unfold Chunk.own
  simp only [hlen]
 have hav := av_fps (M := Γ.M) hfp
 refine ⟨d2.nodefer, d2.tmps, by rw [hav]; exact d2.env, ?_, by rw [hfp]; exact d2.nodup, by rw [hfp]; exact d2.fresh, d2.below, d2.frame⟩
 intro c hc
 rw [hav]
 rcases List.mem_cons.1 hc with rfl | hc
 ·have hb := d1.chunks (Chunk.bun (L.map fun p => p.2.own k2 E2)) (by simp)
  have ho := d1.chunks (Chunk.own ad cap kk e rr) (by simp)
  have hnd := d1.nodup
  have hfr := d1.fresh
  have hsub : ∀ b, av Γ.M (Chunk.bun (L.map fun p => p.2.own k2 E2) :: Chunk.own ad cap kk e rr :: cf) b → av Γ.M (Chunk.own ad cap kk e rr :: cf) b := by
   intro b hb
   refine ⟨hb.1, fun hm => hb.2 ?_⟩
   simp only [fps, List.flatMap_cons] at hm ⊢
   exact List.mem_append_right _ hm
  have hin : ∀ p ∈ L, ∀ g ∈ (p.2.own k2 E2).fp, av Γ.M (Chunk.own ad cap kk e rr :: cf) g := by
   intro p hp g hg
   have hgm : g ∈ (Chunk.bun (L.map fun p => p.2.own k2 E2)).fp := List.mem_flatMap.2 ⟨_, List.mem_map.2 ⟨p, hp, rfl⟩, hg⟩
   refine ⟨(hfr g (by simp only [fps, List.flatMap_cons]; exact List.mem_append_left _ hgm)).2.1, fun hm => ?_⟩
   have h := hnd
   rw [show fps (Chunk.bun (L.map fun p => p.2.own k2 E2) :: Chunk.own ad cap kk e rr :: cf) = (Chunk.bun (L.map fun p => p.2.own k2 E2)).fp ++ fps (Chunk.own ad cap kk e rr :: cf) from rfl] at h
   exact (List.nodup_append.1 h).2.2 g hgm g hm rfl
  have hh : ∀ p ∈ L, (p.2.own k2 E2).holds w (av Γ.M (Chunk.bun (L.map fun p => p.2.own k2 E2) :: Chunk.own ad cap kk e rr :: cf)) := fun p hp => hb _ (List.mem_map.2 ⟨p, hp, rfl⟩)
  generalize av Γ.M (Chunk.bun (L.map fun p => p.2.own k2 E2) :: Chunk.own ad cap kk e rr :: cf) = A at *
  generalize av Γ.M (Chunk.own ad cap kk e rr :: cf) = A' at *
  unfold Chunk.own at ho ⊢
  obtain ⟨hk, xs, hown, hrd⟩ := ho
  refine ⟨?_, xs, by rw [hlen]; exact hown, ?_⟩
  ·intro r hr
   obtain ⟨p, hp, rfl⟩ := List.mem_map.1 hr
   have := hk (pre p.1 ++ Tr.raw p.2.val :: post p.1) (by rw [← hrr]; exact List.mem_map.2 ⟨p, hp, rfl⟩)
   simpa using this
  ·rw [← hrr] at hrd
   exact rdc_settle pre post k2 E2 hsub L xs hh hin hrd
 ·exact d2.chunks c (List.mem_cons_of_mem _ hc)
end bun
attribute [irreducible] Chunk.bun
end Lg
end
section
set_option linter.all false
namespace Lg
open Go

section mk
variable {P : Program} {Γ : Ctx} {env env' : Env} {cs cs' cf : List Chunk} {Q : Post} {R : Array Oper}
variable {x y : Operand} {T T2 : TypeId} {ty : TypeId} {k k2 : IntKind} {p : Int}
theorem OpV.convI {d1 : TypeDesc} (h1 : P.underlying T = some d1) (h2 : P.underlying T2 = some (.int k2)) (hx : ev env x = some (.raw (.int k p))) : OpV P Γ (.convert T T2 x) ty env cs (.raw (.int k2 (k2.wrap p))) := by
 unfold OpV
 intro a w d
 have hv := rd_raw (d.ev hx)
 refine ⟨.int k2 (k2.wrap p), ?_, raw_self _⟩
 simp [execOp, hv, convert, run_underlying h1, run_underlying h2, Conv.intToInt]
end mk
end Lg
end
