/- A part of the proof of a law of this seat: it adds no condition. By an AI agent. -/
import Derived.Test.YtflfdomajimpjaaDoorLgLoop
section
set_option linter.all false
namespace Lg
open Go
section fl
variable {P : Program} {Γ : Ctx} {env env' : Env} {cs cs' cf : List Chunk} {Q : Post} {R : Array Oper} {acc : Env}

/-- .. and no panic -/
def NoP (Q : Post) : Post := fun e env cs => (∀ c, e ≠ .panic c) ∧ Q e env cs
theorem NoP.norm (h : Q .normal env cs) : NoP Q .normal env cs := ⟨(fun _ h => nomatch h), h⟩
/-- these can be taken first: each is ready, and goes with none that might come earlier -/
def takeOk (ops : Array Oper) (m : Nat) : Array Bool → List Nat → Bool
  | _, [] => true
  | listed, i :: r => Nat.blt i m && Region.free .any ops listed i && (Region.ready .any ops listed).contains i && takeOk ops m (listed.setIfInBounds i true) r
/-- they look at no memory -/
def FlRun (P : Program) (l : List Oper) : List Nat → Act → Prop
  | [], _ => True
  | i :: r, a => ∃ o d v, l[i]? = some o ∧ o.dst = some d ∧ o.guard = none ∧ (∀ w, (execOp a.eval o).run P w = .ok (.value v) w) ∧ FlRun P l r (a.put (some d) v)
def tailOkF (l : List Oper) (m : Nat) (fl : List Nat) : Bool := match l.drop m with
  | [] => true
  | o :: r => (match o.guard with | none => true | some _ => false) && ((List.range m).all fun i => fl.contains i || (cloFrom l m (preds o.after)).contains i) && tailFrom (m + 1) r
theorem tailOkF_at {l : List Oper} {m j : Nat} {o : Oper} {fl : List Nat} (ht : tailOkF l m fl = true) (h : (l.drop m)[j]? = some o) : o.guard = none ∧ (0 < j → m + j - 1 ∈ preds o.after) ∧ (j = 0 → ∀ i, i < m → i ∈ fl ∨ i ∈ cloFrom l m (preds o.after)) := by
  unfold tailOkF at ht
  cases hl : l.drop m with
  | nil => rw [hl] at h; simp at h
  | cons p r =>
    rw [hl] at ht h
    simp only [Bool.and_eq_true] at ht
    obtain ⟨⟨h1, h2⟩, h3⟩ := ht
    cases j with
    | zero =>
      simp at h
      subst h
      refine ⟨guard_none h1, fun h => absurd h (by omega), fun _ i hi => ?_⟩
      have := List.all_eq_true.1 h2 i (by simp; omega)
      simpa using this
    | succ j =>
      simp at h
      obtain ⟨g1, g2⟩ := tailFrom_at h3 h
      exact ⟨g1, fun _ => by rwa [show m + (j + 1) - 1 = m + 1 + j - 1 by omega], fun h => absurd h (by omega)⟩

theorem Cw.region_fl {id m : Nat} {l : List Oper} {env : Env} (fl : List Nat) (hml : m ≤ l.length) (hm : P.follows .mixedOrders = true) (hb : backOk l = true) (hnd : nodupB (dsts (l.take m)) = true) (hlt : (dsts (l.take m)).all (Nat.blt · Γ.n) = true) (htl : tailOkF l m fl = true)
    (hns : Region.noSelect l.toArray = true) (htk : takeOk l.toArray m (Array.replicate l.length false) fl = true) (hz : ∀ a w, Den Γ env cs a w → FlRun P l fl a)
    (h : PRun P Γ cs l env (fun acc => Ops P Γ l.toArray (l.drop m) acc cs (NoP Q)) 0 [] env (l.take m)) : Cw P Γ (.region id l.toArray true) env cs Q := by
  unfold Cw
  intro a w d
  obtain ⟨all, h1, h2, h3, h4⟩ := PRun.out (pre := []) rfl (fun j p h => by simp [getP] at h) rfl h
  replace h2 : all.map POp.oper = l.take m := by simpa using h2
  replace h4 := fun (i : Nat) => h4 i (Nat.zero_le i)
  have hal : all.length = m := by
    have := congrArg List.length h2
    simp at this
    omega
  have hget : ∀ (i : Nat) o, all[i]? = some o → l[i]? = some o.oper := fun i o ho => by
    have hi := (List.getElem?_eq_some_iff.1 ho).1
    have : (all.map POp.oper)[i]? = some o.oper := by simp [ho]
    rw [h2, List.getElem?_take] at this
    split at this
    · exact this
    · cases this
  have hdst : dsts (l.take m) = all.map (·.dst) := by
    rw [← h2]
    simp only [dsts, List.filterMap_map]
    clear h1 h2 h3 h4 hget hal
    induction all with
    | nil => rfl
    | cons o all ih => simp [POp.oper]; exact ih
  have hnodup := nodupB_iff hnd
  rw [hdst] at hnodup
  have hltn : ∀ o ∈ all, o.dst < Γ.n := fun o ho => by
    rw [hdst] at hlt
    have := List.all_eq_true.1 hlt o.dst (List.mem_map_of_mem ho)
    simpa [Nat.blt_eq] using this
  have hback : ∀ (i : Nat) o, l[i]? = some o → ∀ j ∈ preds o.after, j < i := by
    intro i o ho j hj
    obtain ⟨e, he, hbd, rfl⟩ := mem_preds.1 hj
    have := backFrom_at (k := 0) (i := i) (o := o) hb ho e he hbd
    omega
  have htail : ∀ (j : Nat) o, (l.drop m)[j]? = some o → o.guard = none ∧ (0 < j → m + j - 1 ∈ preds o.after) ∧ ∀ i ∈ preds o.after, i < m + j := by
    intro j o ho
    obtain ⟨g1, g2, _⟩ := tailOkF_at htl ho
    exact ⟨g1, g2, hback (m + j) o (by simpa using ho)⟩
  -- when all of the first part are done
  have fin : ∀ (fuel : Nat) (listed : Array Bool) (a : Act) (w : World), Mid P Γ cs env all l.length listed a w → (∀ i, i < m → listed[i]? = some true) → l.length - m ≤ fuel → wpAny P .any l.toArray (Lift Γ (NoP Q)) fuel listed a w := by
    intro fuel listed a w hmid hall hf
    refine tail_any (l.drop m) m fuel listed a w (fun j => by simp) htail hmid.size hall ?_ (by simp; omega) (by simpa using hf) ?_
    · intro i hi hil
      have hne := hmid.tail i (by omega)
      have hsz := hmid.size
      cases hc : listed[i]? with
      | none => rw [Array.getElem?_eq_none_iff] at hc; omega
      | some b => cases b with
        | false => rfl
        | true => exact absurd hc hne
    · unfold Ops at h3
      refine h3 a w ?_
      have dd := hmid.den
      refine ⟨dd.nodefer, dd.tmps, ?_, dd.chunks, dd.nodup, dd.fresh, dd.below, dd.frame⟩
      intro i t hlk
      by_cases hin : i ∈ all.map (·.dst)
      · have : ∀ L : List POp, (∀ o ∈ L, ∃ j : Nat, all[j]? = some o) → i ∈ L.map (·.dst) → look ((L.map fun o => (o.dst, o.t)) ++ env) i = some t → ∃ (j : Nat) (o : POp), all[j]? = some o ∧ o.dst = i ∧ o.t = t := by
          intro L
          induction L with
          | nil => intro _ h; simp at h
          | cons o L ihL =>
            intro hL hm hlk
            by_cases e : o.dst = i
            · rw [List.map_cons, List.cons_append, ← e, look_cons_same] at hlk
              cases hlk
              obtain ⟨j, hj⟩ := hL o (by simp)
              exact ⟨j, o, hj, e, rfl⟩
            · rw [List.map_cons, List.cons_append, look_cons_ne _ _ e] at hlk
              refine ihL (fun o ho => hL o (by simp [ho])) ?_ hlk
              simp only [List.map_cons, List.mem_cons] at hm
              rcases hm with hm | hm
              · exact absurd hm.symm e
              · exact hm
        rw [← List.map_reverse] at hlk
        obtain ⟨j, o, hj, rfl, rfl⟩ := this all.reverse (fun o ho => List.getElem?_of_mem (List.mem_reverse.1 ho)) (by simpa using hin) hlk
        exact hmid.done j o (hall j (by have := (List.getElem?_eq_some_iff.1 hj).1; omega)) hj
      · rcases look_app hlk with ⟨u, hu, rfl⟩ | hlk
        · exfalso
          rw [List.mem_reverse, List.mem_map] at hu
          obtain ⟨o, ho, e⟩ := hu
          simp only [Prod.mk.injEq] at e
          exact hin (by rw [← e.1]; exact List.mem_map_of_mem ho)
        · refine hmid.keep i t hlk ?_
          intro k o ho e
          exact absurd (by rw [← e]; exact List.mem_map_of_mem (List.mem_of_getElem? ho)) hin
  have step : ∀ (listed : Array Bool) (a : Act) (w : World) (i : Nat) (hia' : i < all.length), Mid P Γ cs env all l.length listed a w → ∀ hli : i < listed.size, listed[i]'hli = false → (∀ j ∈ preds (all[i]).af, listed[j]? = some true) →
      ∀ (v : Value) (w' : World), (all[i]).t.rd w' (av Γ.M cs) v → (∀ env2, Den Γ env2 cs a w → Den Γ env2 cs a w') → Mid P Γ cs env all l.length (listed.setIfInBounds i true) (a.put (all[i]).oper.dst v) w' := by
      intro listed a w i hia' hmid hli hc hpred
      have hia : i < m := by omega
      have ho : all[i]? = some all[i] := List.getElem?_eq_getElem hia'
      have hin : all[i] ∈ all := List.getElem_mem hia'
      have hfact : ∀ {w' : World}, (∀ env2, Den Γ env2 cs a w → Den Γ env2 cs a w') → ∀ {s : Nat} {t : Tr}, t.rd w (av Γ.M cs) (a.tmps.getD s undef) → t.rd w' (av Γ.M cs) (a.tmps.getD s undef) := by
        intro w' hp s t ht
        have dd := hmid.den
        have d1 : Den Γ [(s, t)] cs a w := ⟨dd.nodefer, dd.tmps, fun i u hl => by
          by_cases e : s = i
          · subst e; rw [look_cons_same] at hl; cases hl; exact ht
          · rw [look_cons_ne _ _ e] at hl; simp [look] at hl, dd.chunks, dd.nodup, dd.fresh, dd.below, dd.frame⟩
        exact (hp _ d1).env s t (look_cons_same _ _ _)
      have hset : ∀ j : Nat, (listed.setIfInBounds i true)[j]? = some true → j = i ∨ listed[j]? = some true := by
        intro j hj
        by_cases e : i = j
        · exact .inl e.symm
        · rw [Array.getElem?_setIfInBounds_ne e] at hj
          exact .inr hj
      have hset2 : ∀ j : Nat, listed[j]? = some true → (listed.setIfInBounds i true)[j]? = some true := by
        intro j hj
        by_cases e : i = j
        · subst e
          rw [Array.getElem?_setIfInBounds_self]
          simp [hli]
        · rw [Array.getElem?_setIfInBounds_ne e]
          exact hj
      have hs : (all[i]).dst < a.tmps.size := by rw [hmid.den.tmps]; exact hltn _ hin
      intro v w' hrd hpres
      refine ⟨?_, by simpa using hmid.size, ?_, ?_, ?_, ?_⟩
      · have dd := hpres _ hmid.den
        exact ⟨dd.nodefer, by simpa [POp.oper, Act.put] using dd.tmps, fun q t hlk => by simp [look] at hlk, dd.chunks, dd.nodup, dd.fresh, dd.below, dd.frame⟩
      · intro s t hlk hno
        have hne : (all[i]).dst ≠ s := fun e => hno i _ ho e (by rw [Array.getElem?_setIfInBounds_self]; simp [hli])
        have := hfact hpres (hmid.keep s t hlk (fun k o hok hd hl => hno k o hok hd (hset2 k hl)))
        simpa [POp.oper, Act.put, Array.getElem?_setIfInBounds_ne hne] using this
      · intro j o hj hoj
        by_cases e : i = j
        · subst e
          rw [ho] at hoj
          cases hoj
          simpa [POp.oper, Act.put, hs] using hrd
        · rw [Array.getElem?_setIfInBounds_ne e] at hj
          have hne : (all[i]).dst ≠ o.dst := by
            intro ed
            exact e (nodup_get hnodup (x := o.dst) (by simp [ho, ed]) (by simp [hoj]))
          have := hfact hpres (hmid.done j o hj hoj)
          simpa [POp.oper, Act.put, Array.getElem?_setIfInBounds_ne hne] using this
      · intro k o hk hok j hj
        refine hset2 j ?_
        rcases hset k hk with rfl | h
        · rw [ho] at hok
          cases hok
          exact hpred j hj
        · exact hmid.closed k o h hok j hj
      · intro k hk h
        rcases hset k h with rfl | h
        · omega
        · exact hmid.tail k hk h
  have denAt : ∀ (listed : Array Bool) (a : Act) (w : World) (i : Nat) (hia' : i < all.length), Mid P Γ cs env all l.length listed a w → ∀ hli : i < listed.size, listed[i]'hli = false → (∀ j ∈ preds (all[i]).af, listed[j]? = some true) →
      ∀ (done : List (Nat × POp)), Numbered all i done → Den Γ (envAt done (all[i]).af (others i 0 l) env) cs a w := by
        intro listed a w i hia' hmid hli hc hpred done hnum
        have dd := hmid.den
        refine ⟨dd.nodefer, dd.tmps, ?_, dd.chunks, dd.nodup, dd.fresh, dd.below, dd.frame⟩
        intro q t hlk
        rcases look_predB hlk with ⟨x, hx, hbd, o, hoj, rfl, rfl⟩ | hlk
        · obtain ⟨_, hoj'⟩ := hnum _ _ hoj
          exact hmid.done x.on o (hpred x.on (mem_preds.2 ⟨x, hx, hbd, rfl⟩)) hoj'
        · rcases look_anyOf hlk with rfl | ⟨h5, h6⟩
          · exact tr_any_self
          · refine hmid.keep q t h5 ?_
            intro k o hok hd hlk2
            rcases others_spec (hget k o hok) (d := q) (by simp [POp.oper, hd]) h6 with h | h
            · have : k = i := by omega
              subst this
              rw [Array.getElem?_eq_getElem hli, hc] at hlk2
              simp at hlk2
            · have := hmid.closed k o hlk2 hok i h
              rw [Array.getElem?_eq_getElem hli, hc] at this
              simp at this
  have main : ∀ (fuel : Nat) (listed : Array Bool) (a : Act) (w : World), Mid P Γ cs env all l.length listed a w → (∀ i ∈ fl, listed[i]? = some true) → (listed.toList.filter (! ·)).length ≤ fuel → l.length - m ≤ (listed.toList.filter (! ·)).length → wpAny P .any l.toArray (Lift Γ (NoP Q)) fuel listed a w := by
    intro fuel
    induction fuel with
    | zero =>
      intro listed a w hmid hflt hf hf2
      have hall : ∀ i, i < m → listed[i]? = some true := by
        intro i hi
        have hli : i < listed.size := by rw [hmid.size]; omega
        cases hc : listed[i]'hli with
        | true => rw [Array.getElem?_eq_getElem hli, hc]
        | false =>
          exfalso
          have : false ∈ listed.toList.filter (! ·) := List.mem_filter.2 ⟨by rw [← hc]; simp, rfl⟩
          have := List.length_pos_of_mem this
          omega
      exact fin 0 listed a w hmid hall (by omega)
    | succ fuel ih =>
      intro listed a w hmid hflt hf hf2
      by_cases hall : ∀ i, i < m → listed[i]? = some true
      · exact fin (fuel + 1) listed a w hmid hall (by omega)
      have hsome : ∃ i, i < m ∧ listed[i]? = some false ∧ ∀ j, j < i → listed[j]? = some true := by
        have : ∀ n, n ≤ m → (∀ j, j < n → listed[j]? = some true) ∨ ∃ i, i < m ∧ listed[i]? = some false ∧ ∀ j, j < i → listed[j]? = some true := by
          intro n
          induction n with
          | zero => intro _; exact .inl (fun j hj => by omega)
          | succ n ihn =>
            intro hn
            rcases ihn (by omega) with h | h
            · have hli : n < listed.size := by rw [hmid.size]; omega
              cases hc : listed[n]'hli with
              | true =>
                refine .inl fun j hj => ?_
                by_cases e : j = n
                · subst e; rw [Array.getElem?_eq_getElem hli, hc]
                · exact h j (by omega)
              | false => exact .inr ⟨n, by omega, by rw [Array.getElem?_eq_getElem hli, hc], h⟩
            · exact .inr h
        rcases this m (Nat.le_refl _) with h | h
        · exact absurd h hall
        · exact h
      obtain ⟨i0, hi0, hl0, hp0⟩ := hsome
      refine ⟨fun hr => ?_, ?_⟩
      · exfalso
        have : i0 ∈ Region.ready .any l.toArray listed := by
          refine mem_ready.2 ⟨_, List.getElem?_eq_getElem (by omega), ?_, ?_⟩
          · rw [Array.getD_eq_getD_getElem?, hl0]; rfl
          · intro j hj
            rw [Array.getD_eq_getD_getElem?, hp0 j (hback i0 _ (List.getElem?_eq_getElem (by omega)) j hj)]; rfl
        rw [hr] at this
        cases this
      intro i hi
      obtain ⟨oi, hoi, hl2, hp2⟩ := mem_ready.1 hi
      have hil := (List.getElem?_eq_some_iff.1 hoi).1
      have hia : i < m := by
        rcases Nat.lt_or_ge i m with h | h
        · exact h
        · exfalso
          have hoi' : (l.drop m)[i - m]? = some oi := by rw [List.getElem?_drop, show m + (i - m) = i by omega]; exact hoi
          have hlst : ∀ j ∈ preds oi.after, listed[j]? = some true := by
            intro j hj
            have := hp2 j hj
            rw [Array.getD_eq_getD_getElem?] at this
            cases hl : listed[j]? with
            | none => rw [hl] at this; simp at this
            | some b => rw [hl] at this; simp at this; rw [this]
          obtain ⟨_, g2, g3⟩ := tailOkF_at htl hoi'
          by_cases him : i = m
          · have hcl : ∀ q ∈ cloFrom l m (preds oi.after), listed[q]? = some true := cloFrom_listed (R := fun q => listed[q]? = some true) hlst (fun k o hk hR hlk j hj => by
              have hka : k < all.length := by omega
              have hko : all[k]? = some all[k] := List.getElem?_eq_getElem hka
              have hke := hget k _ hko
              rw [hlk] at hke
              cases hke
              exact hmid.closed k all[k] hR hko j hj)
            rcases g3 (by omega) i0 hi0 with hin | hin
            · have := hflt i0 hin
              rw [hl0] at this
              cases this
            · have := hcl i0 hin
              rw [hl0] at this
              cases this
          · exact hmid.tail (m + (i - m) - 1) (by omega) (hlst _ (g2 (by omega)))
      have hia' : i < all.length := by omega
      have ho : all[i]? = some all[i] := List.getElem?_eq_getElem hia'
      have hli : i < listed.size := by rw [hmid.size]; omega
      have hc : listed[i]'hli = false := by simpa [hli] using hl2
      have hoe := hget i _ ho
      rw [hoi] at hoe
      cases hoe
      obtain ⟨done, hnum, hov⟩ := h4 i all[i] ho
      have hpred : ∀ j ∈ preds (all[i]).af, listed[j]? = some true := by
        intro j hj
        have := hp2 j hj
        rw [Array.getD_eq_getD_getElem?] at this
        cases hl : listed[j]? with
        | none => rw [hl] at this; simp at this
        | some b => rw [hl] at this; simp at this; rw [this]
      have hden : Den Γ (envAt done (all[i]).af (others i 0 l) env) cs a w := denAt listed a w i hia' hmid hli hc hpred done hnum
      have hop : l.toArray[i]? = some (all[i]).oper := by simpa using hoi
      have hin : all[i] ∈ all := List.getElem_mem hia'
      have hyield : ∀ (j : Nat) (q : POp) (c : Bool), j ∈ preds (all[i]).af → getP done j = some q → q.t = Tr.bool c → yielded l.toArray a.tmps j = some c := by
        intro j q c hj hq hc
        obtain ⟨_, hqj⟩ := hnum _ _ hq
        have hval := hmid.done j q (hpred j hj) hqj
        rw [hc] at hval
        have hval' : a.tmps.getD q.dst undef = .bool c := rd_raw hval
        have hs : q.dst < a.tmps.size := by rw [hmid.den.tmps]; exact hltn _ (List.mem_of_getElem? hqj)
        unfold yielded
        rw [List.getElem?_toArray, hget j q hqj]
        rw [Array.getD_eq_getD_getElem?, Array.getElem?_eq_getElem hs] at hval'
        simp only [Option.getD_some] at hval'
        simp [POp.oper, hs, hval']
      have hyieldU : ∀ (j : Nat) (q : POp), j ∈ preds (all[i]).af → getP done j = some q → q.t = Tr.raw undef → yielded l.toArray a.tmps j = none := by
        intro j q hj hq hc
        obtain ⟨_, hqj⟩ := hnum _ _ hq
        have hval := hmid.done j q (hpred j hj) hqj
        rw [hc] at hval
        have hval' : a.tmps.getD q.dst undef = undef := rd_raw hval
        have hs : q.dst < a.tmps.size := by rw [hmid.den.tmps]; exact hltn _ (List.mem_of_getElem? hqj)
        unfold yielded
        rw [List.getElem?_toArray, hget j q hqj]
        rw [Array.getD_eq_getD_getElem?, Array.getElem?_eq_getElem hs] at hval'
        simp only [Option.getD_some] at hval'
        simp [POp.oper, hs, hval', undef]
      have hgoal : (∀ v w', (all[i]).t.rd w' (av Γ.M cs) v → (∀ env2, Den Γ env2 cs a w → Den Γ env2 cs a w') → wpAny P .any l.toArray (Lift Γ (NoP Q)) fuel (listed.setIfInBounds i true) (a.put (all[i]).oper.dst v) w') → wpOp P l.toArray (Lift Γ (NoP Q)) i (wpAny P .any l.toArray (Lift Γ (NoP Q)) fuel (listed.setIfInBounds i true)) a w := by
        intro hk
        unfold wpOp
        simp only [hop]
        rcases hov with ⟨hg, hv⟩ | ⟨hg, ht⟩
        · have hw : Region.wanted (all[i]).oper (yielded l.toArray a.tmps) = true := by
            unfold GOk at hg
            unfold Region.wanted
            cases hgd : (all[i]).g with
            | none => simp [POp.oper, hgd]
            | some jb =>
              obtain ⟨j, b⟩ := jb
              rw [hgd] at hg
              obtain ⟨h1, q, h2, h3⟩ := hg
              simp [POp.oper, hgd, hyield j q b h1 h2 h3]
          rw [if_pos hw]
          refine .inl ?_
          unfold OpW at hv
          exact hv a w hden (all[i]).dst (all[i]).pos (all[i]).af (all[i]).g _ _ hk
        · have hw : Region.wanted (all[i]).oper (yielded l.toArray a.tmps) = false := by
            unfold GNo at hg
            unfold Region.wanted
            cases hgd : (all[i]).g with
            | none => rw [hgd] at hg; exact hg.elim
            | some jb =>
              obtain ⟨j, b⟩ := jb
              rw [hgd] at hg
              obtain ⟨h1, q, h2, h3⟩ := hg
              rcases h3 with h3 | h3
              · simp [POp.oper, hgd, hyield j q (!b) h1 h2 h3]
              · simp [POp.oper, hgd, hyieldU j q h1 h2 h3]
          rw [if_neg (by simp [hw])]
          exact hk undef w (by rw [ht]; exact raw_self _) fun _ h => h
      have hfs := filter_set listed.toList i (by simp [hli, hc])
      have hset : ∀ j : Nat, (listed.setIfInBounds i true)[j]? = some true → j = i ∨ listed[j]? = some true := by
        intro j hj
        by_cases e : i = j
        · exact .inl e.symm
        · rw [Array.getElem?_setIfInBounds_ne e] at hj
          exact .inr hj
      have hset2 : ∀ j : Nat, listed[j]? = some true → (listed.setIfInBounds i true)[j]? = some true := by
        intro j hj
        by_cases e : i = j
        · subst e
          rw [Array.getElem?_setIfInBounds_self]
          simp [hli]
        · rw [Array.getElem?_setIfInBounds_ne e]
          exact hj
      have hcnt : l.length - m ≤ ((listed.setIfInBounds i true).toList.filter (! ·)).length := by
        -- those of the second part are not done
        have hm2 : ∀ (L : List Bool) (k : Nat), k ≤ L.length → (∀ j, k ≤ j → L[j]? ≠ some true) → L.length - k ≤ (L.filter (! ·)).length := by
          intro L
          induction L with
          | nil => intro k _ _; simp
          | cons b L ihL =>
            intro k hk hne
            cases k with
            | zero =>
              have hb : b = false := by cases b with | false => rfl | true => exact absurd (by simp) (hne 0 (Nat.le_refl _))
              have := ihL 0 (Nat.zero_le _) (fun j _ => by simpa using hne (j + 1) (Nat.zero_le _))
              subst hb
              simp at this ⊢
              omega
            | succ k =>
              have := ihL k (by simpa using hk) (fun j hj => by simpa using hne (j + 1) (by omega))
              cases b <;> simp <;> omega
        have hsz : (listed.setIfInBounds i true).toList.length = l.length := by simpa using hmid.size
        have := hm2 (listed.setIfInBounds i true).toList m (by omega) (fun j hj hc => by
          rw [Array.getElem?_toList] at hc
          rcases hset j hc with h | h
          · omega
          · exact hmid.tail j (by omega) h)
        omega
      refine hgoal fun v w' hrd hpres => ih _ _ _ (step listed a w i hia' hmid hli hc hpred v w' hrd hpres) (fun j hj => hset2 j (hflt j hj)) ?_ hcnt
      · rw [Array.toList_setIfInBounds]
        omega
  refine wp_mono (Q := Lift Γ (NoP Q)) (wp_region_any hm ?_) (fun e a w h => h.mono fun e env cs h => h.2)
  have dd := d.drew
  have hrep : ∀ i : Nat, (Array.replicate l.toArray.size false)[i]? ≠ some true := by
    intro i hi
    rw [Array.getElem?_replicate] at hi
    split at hi <;> simp at hi
  have hmid0 : Mid P Γ cs env all l.length (Array.replicate l.toArray.size false) a w.drew := by
    refine ⟨?_, by simp, ?_, ?_, ?_, ?_⟩
    · exact ⟨dd.nodefer, dd.tmps, fun i t hlk => by simp [look] at hlk, dd.chunks, dd.nodup, dd.fresh, dd.below, dd.frame⟩
    · intro s t hlk _
      exact dd.env s t hlk
    · intro i o hi _
      exact absurd hi (hrep i)
    · intro k o hk
      exact absurd hk (hrep k)
    · intro k _ h
      exact hrep k h
  -- what looks at no memory is taken first
  have takes : ∀ (fs : List Nat) (listed : Array Bool) (a : Act) (w : World) (fuel : Nat), (∀ i ∈ fl, i ∈ fs ∨ listed[i]? = some true) → takeOk l.toArray m listed fs = true → FlRun P l fs a → Mid P Γ cs env all l.length listed a w → (listed.toList.filter (! ·)).length = fuel → wpAny P .any l.toArray (Lift Γ (NoP Q)) fuel listed a w := by
    intro fs
    induction fs with
    | nil =>
      intro listed a w fuel hf _ _ hmid hfuel
      refine main fuel listed a w hmid (fun i hi => (hf i hi).resolve_left (by simp)) (by omega) ?_
      have hm2 : ∀ (L : List Bool) (k : Nat), k ≤ L.length → (∀ j, k ≤ j → L[j]? ≠ some true) → L.length - k ≤ (L.filter (! ·)).length := by
        intro L
        induction L with
        | nil => intro k _ _; simp
        | cons b L ihL =>
          intro k hk hne
          cases k with
          | zero =>
            have hb : b = false := by cases b with | false => rfl | true => exact absurd (by simp) (hne 0 (Nat.le_refl _))
            have := ihL 0 (Nat.zero_le _) (fun j _ => by simpa using hne (j + 1) (Nat.zero_le _))
            subst hb
            simp at this ⊢
            omega
          | succ k =>
            have := ihL k (by simpa using hk) (fun j hj => by simpa using hne (j + 1) (by omega))
            cases b <;> simp <;> omega
      have hsz : listed.toList.length = l.length := by simpa using hmid.size
      have := hm2 listed.toList m (by omega) (fun j hj hc => by
        rw [Array.getElem?_toList] at hc
        exact hmid.tail j (by omega) hc)
      omega
    | cons i fs ihf =>
      intro listed a w fuel hf htk hz hmid hfuel
      simp only [takeOk, Bool.and_eq_true] at htk
      obtain ⟨⟨⟨t1, t2⟩, t3⟩, t4⟩ := htk
      obtain ⟨o, dst, v, ho, hod, hog, hrun, hz2⟩ := hz
      have him : i < m := by simpa [Nat.blt_eq] using t1
      have hia' : i < all.length := by omega
      have hoe := hget i _ (List.getElem?_eq_getElem hia')
      rw [ho] at hoe
      cases hoe
      obtain ⟨oi, hoi, hl2, hp2⟩ := mem_ready.1 (by simpa using t3)
      rw [ho] at hoi
      cases hoi
      have hli : i < listed.size := by rw [hmid.size]; omega
      have hc : listed[i]'hli = false := by simpa [hli] using hl2
      have hpred : ∀ j ∈ preds (all[i]).af, listed[j]? = some true := by
        intro j hj
        have := hp2 j hj
        rw [Array.getD_eq_getD_getElem?] at this
        cases hl : listed[j]? with
        | none => rw [hl] at this; simp at this
        | some b => rw [hl] at this; simp at this; rw [this]
      have hfs := filter_set listed.toList i (by simp [hli, hc])
      obtain ⟨n, rfl⟩ : ∃ n, fuel = n + 1 := ⟨fuel - 1, by omega⟩
      refine wpAny_take (i := i) (v := v) (by simpa using ho) hns t2 t3 (fun c a w h => ?_) (.inl ⟨by simp [Region.wanted, hog], hrun⟩) ?_
      · obtain ⟨env', cs', hq, _⟩ := h
        exact absurd rfl (hq.1 c)
      · -- the tree of what it yields
        obtain ⟨done, hnum, hov⟩ := h4 i all[i] (List.getElem?_eq_getElem hia')
        have htr : (all[i]).t.rd w (av Γ.M cs) v := by
          rcases hov with ⟨_, hv⟩ | ⟨hg, _⟩
          · unfold OpW at hv
            have hden : Den Γ (envAt done (all[i]).af (others i 0 l) env) cs a w := denAt listed a w i hia' hmid hli hc hpred done hnum
            have hwp := hv a w hden (all[i]).dst (all[i]).pos (all[i]).af (all[i]).g (fun a' w' => (all[i]).t.rd w' (av Γ.M cs) (a'.tmps.getD (all[i]).dst undef)) (fun _ _ _ => True) (fun v' w' hv' _ => by
              have hs : (all[i]).dst < a.tmps.size := by rw [hmid.den.tmps]; exact hltn _ (List.getElem_mem hia')
              simpa [Act.put, hs] using hv')
            unfold Oper.wp at hwp
            have hr2 := hrun w
            unfold POp.oper at hr2
            rw [hr2] at hwp
            have hs : (all[i]).dst < a.tmps.size := by rw [hmid.den.tmps]; exact hltn _ (List.getElem_mem hia')
            have hwp2 : (all[i]).t.rd w (av Γ.M cs) ((a.put (some (all[i]).dst) v).tmps.getD (all[i]).dst undef) := hwp
            simpa [Act.put, hs] using hwp2
          · unfold GNo at hg
            have hgn : (all[i]).g = none := hog
            rw [hgn] at hg
            exact hg.elim
        have hstep := step listed a w i hia' hmid hli hc hpred v w htr (fun _ h => h)
        refine ihf _ _ w n (fun j hj => ?_) t4 ?_ hstep ?_
        · rcases hf j hj with h | h
          · rcases List.mem_cons.1 h with rfl | h
            · right
              rw [Array.getElem?_setIfInBounds_self]
              simp [hli]
            · exact .inl h
          · right
            by_cases e : i = j
            · subst e
              rw [Array.getElem?_setIfInBounds_self]
              simp [hli]
            · rw [Array.getElem?_setIfInBounds_ne e]
              exact h
        · have : (all[i]).oper.dst = some dst := hod
          rw [this]
          exact hz2
        · rw [Array.toList_setIfInBounds]
          omega
  refine takes fl _ a _ _ (fun i hi => .inl hi) (by simpa using htk) (hz a w d) hmid0 (by simp)

/-- such a region, walked as it stands -/
theorem Cw.region_seqF {id m : Nat} {l : List Oper} {env : Env} (fl : List Nat) (hm : P.follows .mixedOrders = true) (hb : (backOk l && (nodupB (dsts (l.take m)) && (ssaFrom l 0 (l.take m) && (tailOkF l m fl && (Nat.ble m l.length && (Region.noSelect l.toArray && takeOk l.toArray m (Array.replicate l.length false) fl)))))) = true) (hlt : (dsts (l.take m)).all (Nat.blt · Γ.n) = true)
    (hz : ∀ a w, Den Γ env cs a w → FlRun P l fl a)
    (h : PSeq P Γ cs (fun acc => Ops P Γ l.toArray (l.drop m) acc cs (NoP Q)) 0 [] env (l.take m)) : Cw P Γ (.region id l.toArray true) env cs Q := by
  simp only [Bool.and_eq_true] at hb
  exact Cw.region_fl fl (Nat.le_of_ble_eq_true hb.2.2.2.2.1) hm hb.1 hb.2.1 hlt hb.2.2.2.1 hb.2.2.2.2.2.1 hb.2.2.2.2.2.2 hz (PSeq.run hb.1 hb.2.1 hb.2.2.1 Seq.start (fun j => by rw [Nat.zero_add]) h)

theorem FlRun.nil {l : List Oper} {a : Act} : FlRun P l [] a := trivial
theorem FlRun.move {l : List Oper} {i d : Nat} {r : List Nat} {a : Act} {x : Operand} {o : Oper} (ho : l[i]? = some o) (hop : o.op = .move x) (hd : o.dst = some d) (hg : o.guard = none) (k : FlRun P l r (a.put (some d) (a.eval x))) : FlRun P l (i :: r) a :=
  ⟨o, d, _, ho, hd, hg, fun w => by simp [execOp, hop], k⟩
theorem FlRun.sub1 {l : List Oper} {i d : Nat} {r : List Nat} {a : Act} {x : Operand} {T T2 : TypeId} {p q : Int} {o : Oper} (ho : l[i]? = some o) (hop : o.op = .binOp .sub T x (.const (.int .i64 q)) T2) (hd : o.dst = some d) (hg : o.guard = none) (hx : a.eval x = .int .i64 p) (k : FlRun P l r (a.put (some d) (.int .i64 (IntKind.i64.wrap (p - q))))) : FlRun P l (i :: r) a := by
  refine ⟨o, d, _, ho, hd, hg, fun w => ?_, k⟩
  have hc : a.eval (.const (.int .i64 q)) = .int .i64 q := rfl
  simp [execOp, hop, hx, hc, eqGuard, binOp_sub, Op.intArith]
end fl
end Lg
end
section
set_option linter.all false
namespace Lg
open Go

section bun
variable {P : Program} {Γ : Ctx} {env env' : Env} {cs cs' cf : List Chunk} {Q : Post} {R : Array Oper}

/-- several chunks as one -/
def Chunk.bun (L : List Chunk) : Chunk :=
  ⟨fps L, fun w A => ∀ c ∈ L, c.holds w A, fun hb hs h c hc => c.mono (fun b hbc hlt => hb b (List.mem_flatMap.2 ⟨c, hc, hbc⟩) hlt) hs (h c hc)⟩
theorem fps_bun (L : List Chunk) : fps (Chunk.bun L :: cf) = fps (L ++ cf) := by
  simp only [fps, List.flatMap_cons, List.flatMap_append]
  rfl
theorem av_fps {M : Nat → Prop} {a b : List Chunk} (h : fps a = fps b) : av M a = av M b := by
  funext x
  simp only [av, h]
theorem Den.swapc {a : Act} {w : World} (d : Den Γ env cs a w) (hf : fps cs' = fps cs) (hc : ∀ c ∈ cs', c.holds w (av Γ.M cs)) : Den Γ env cs' a w := by
  have e : av Γ.M cs' = av Γ.M cs := av_fps hf
  refine ⟨d.nodefer, d.tmps, e ▸ d.env, ?_, hf ▸ d.nodup, fun b hb => d.fresh b (hf ▸ hb), d.below, d.frame⟩
  intro c h
  rw [e]
  exact hc c h
theorem Ent.bun {L : List Chunk} (hp : cs.Perm (L ++ cf)) : Ent Γ env cs env (Chunk.bun L :: cf) := by
  unfold Ent
  intro a w d
  have d := d.perm hp
  refine d.swapc (fps_bun L) ?_
  intro c hc
  rcases List.mem_cons.1 hc with rfl | hc
  · intro x hx
    exact d.chunks x (List.mem_append_left _ hx)
  · exact d.chunks c (List.mem_append_right _ hc)
theorem Ent.unbun {L : List Chunk} (hp : cs.Perm (Chunk.bun L :: cf)) : Ent Γ env cs env (L ++ cf) := by
  unfold Ent
  intro a w d
  have d := d.perm hp
  refine d.swapc (fps_bun L).symm ?_
  intro c hc
  rcases List.mem_append.1 hc with hc | hc
  · exact d.chunks (Chunk.bun L) (List.mem_cons_self ..) c hc
  · exact d.chunks c (List.mem_cons_of_mem _ hc)
/-- a further chunk goes into the bundle -/
theorem Ent.push {L : List Chunk} {c : Chunk} {cf' : List Chunk} (h1 : cs.Perm (c :: cf')) (h2 : cf'.Perm (Chunk.bun L :: cf)) : Ent Γ env cs env (Chunk.bun (L ++ [c]) :: cf) := by
  have hp : cs.Perm (Chunk.bun L :: (c :: cf)) := h1.trans ((List.Perm.cons _ h2).trans (List.Perm.swap _ _ _))
  refine Ent.trans (Ent.unbun hp) (Ent.bun ?_)
  simp
/-- a chunk of the bundle is taken out -/
theorem Ent.pull {A B : List Chunk} {c : Chunk} (hp : cs.Perm (Chunk.bun (A ++ c :: B) :: cf)) : Ent Γ env cs env (c :: Chunk.bun (A ++ B) :: cf) := by
  refine Ent.trans (Ent.unbun hp) (Ent.trans (Ent.bun (L := A ++ B) (cf := c :: cf) ?_) (Ent.perm (List.Perm.swap _ _ _)))
  simp only [List.append_assoc, List.cons_append]
  refine List.Perm.append_left A ?_
  refine (List.perm_middle (a := c) (l₁ := B) (l₂ := cf)).symm
/-- and put back, turned -/
theorem Ent.putb {A B : List Chunk} {c : Chunk} {cf' : List Chunk} (h1 : cs.Perm (c :: cf')) (h2 : cf'.Perm (Chunk.bun (A ++ B) :: cf)) : Ent Γ env cs env (Chunk.bun (A ++ c :: B) :: cf) := by
  have hp : cs.Perm (Chunk.bun (A ++ B) :: (c :: cf)) := h1.trans ((List.Perm.cons _ h2).trans (List.Perm.swap _ _ _))
  refine Ent.trans (Ent.unbun hp) (Ent.bun ?_)
  simp only [List.append_assoc, List.cons_append]
  refine List.Perm.append_left A ?_
  exact List.perm_middle (a := c) (l₁ := B) (l₂ := cf)
theorem Ent.bun0 : Ent Γ env cs env (Chunk.bun [] :: cs) := Ent.bun (L := []) (List.Perm.refl _)

/-- an owned slice within another one -/
structure In1 where
  ad : Option Addr
  cap : Nat
  rows : List (List Tr)
def In1.val (x : In1) : Value := .slice x.ad x.rows.length x.cap
def In1.own (k : Nat) (E : TypeId) (x : In1) : Chunk := Chunk.own x.ad x.cap k E x.rows

theorem fps_sub_av {M : Nat → Prop} {w : World} {a b : List Chunk} (h : ∀ x ∈ fps b, x ∈ fps a) : SameOn w w (av M a) (av M b) := fun x _ hx => ⟨⟨hx.1, fun hm => hx.2 (h x hm)⟩, rfl⟩

theorem rdc_settle {α : Type} (pre post : α → List Tr) (k2 : Nat) (E2 : TypeId) {w : World} {A A' : Nat → Prop} (hA : ∀ b, A b → A' b) : ∀ (L : List (α × In1)) (xs : List Value),
    (∀ p ∈ L, (p.2.own k2 E2).holds w A) → (∀ p ∈ L, ∀ g ∈ (p.2.own k2 E2).fp, A' g) →
    RdC w A ((L.map fun p => pre p.1 ++ Tr.raw p.2.val :: post p.1).flatten) xs → RdC w A' ((L.map fun p => pre p.1 ++ Tr.sl k2 p.2.rows :: post p.1).flatten) xs
  | [], xs, _, _, h => h
  | p :: L, xs, h1, h2, h => by
    have hs : SameOn w w A A' := fun b _ h => ⟨hA b h, rfl⟩
    simp only [List.map_cons, List.flatten_cons] at h ⊢
    have hsp := RdC.split h
    have ih := rdc_settle pre post k2 E2 hA L _ (fun q hq => h1 q (List.mem_cons_of_mem _ hq)) (fun q hq => h2 q (List.mem_cons_of_mem _ hq)) hsp.2
    have hrow := RdC.split hsp.1
    obtain ⟨v, rest, hv, hvr, hone, hpost⟩ : RdC w A (Tr.raw p.2.val :: post p.1) _ := hrow.2
    have hvv := rd_raw hvr
    subst hvv
    have hsl : (Tr.sl k2 p.2.rows).rd w A' p.2.val := own_reads (h1 p (List.mem_cons_self ..)) hA (h2 p (List.mem_cons_self ..))
    have hnew : RdC w A' (Tr.sl k2 p.2.rows :: post p.1) _ := ⟨_, _, hv, hsl, hone, hpost.mono hs⟩
    have := RdC.app (RdC.app (hrow.1.mono hs) hnew) ih
    rwa [List.take_append_drop, List.take_append_drop] at this

/-- slices in an owned slice are written no more -/
theorem Ent.settle_nest {α : Type} (pre post : α → List Tr) {L : List (α × In1)} {ad : Option Addr} {cap kk k2 : Nat} {e E2 : TypeId} {rows : List (List Tr)} {B cf' : List Chunk}
    (h1 : cs.Perm (Chunk.own ad cap kk e rows :: cf')) (h2 : cf'.Perm (Chunk.bun B :: cf)) (hr : rows = L.map fun p => pre p.1 ++ Tr.raw p.2.val :: post p.1) (hB : B = L.map fun p => p.2.own k2 E2) :
    Ent Γ env cs env (Chunk.own ad cap kk e (L.map fun p => pre p.1 ++ Tr.sl k2 p.2.rows :: post p.1) :: cf) := by
  subst hr
  subst hB
  unfold Ent
  intro a w d
  have hp : cs.Perm (Chunk.bun (L.map fun p => p.2.own k2 E2) :: Chunk.own ad cap kk e (L.map fun p => pre p.1 ++ Tr.raw p.2.val :: post p.1) :: cf) := h1.trans ((List.Perm.cons _ h2).trans (List.Perm.swap _ _ _))
  have d1 := d.perm hp
  have d2 := d1.dropc
  generalize hrr : (L.map fun p => pre p.1 ++ Tr.raw p.2.val :: post p.1) = rr at *
  have hlen : (L.map fun p => pre p.1 ++ Tr.sl k2 p.2.rows :: post p.1).length = rr.length := by rw [← hrr]; simp
  have hfp : fps (Chunk.own ad cap kk e (L.map fun p => pre p.1 ++ Tr.sl k2 p.2.rows :: post p.1) :: cf) = fps (Chunk.own ad cap kk e rr :: cf) := by
    simp only [fps, List.flatMap_cons]
    unfold Chunk.own
    simp only [hlen]
  have hav := av_fps (M := Γ.M) hfp
  refine ⟨d2.nodefer, d2.tmps, by rw [hav]; exact d2.env, ?_, by rw [hfp]; exact d2.nodup, by rw [hfp]; exact d2.fresh, d2.below, d2.frame⟩
  intro c hc
  rw [hav]
  rcases List.mem_cons.1 hc with rfl | hc
  · have hb := d1.chunks (Chunk.bun (L.map fun p => p.2.own k2 E2)) (by simp)
    have ho := d1.chunks (Chunk.own ad cap kk e rr) (by simp)
    have hnd := d1.nodup
    have hfr := d1.fresh
    have hsub : ∀ b, av Γ.M (Chunk.bun (L.map fun p => p.2.own k2 E2) :: Chunk.own ad cap kk e rr :: cf) b → av Γ.M (Chunk.own ad cap kk e rr :: cf) b := by
      intro b hb
      refine ⟨hb.1, fun hm => hb.2 ?_⟩
      simp only [fps, List.flatMap_cons] at hm ⊢
      exact List.mem_append_right _ hm
    have hin : ∀ p ∈ L, ∀ g ∈ (p.2.own k2 E2).fp, av Γ.M (Chunk.own ad cap kk e rr :: cf) g := by
      intro p hp g hg
      have hgm : g ∈ (Chunk.bun (L.map fun p => p.2.own k2 E2)).fp := List.mem_flatMap.2 ⟨_, List.mem_map.2 ⟨p, hp, rfl⟩, hg⟩
      refine ⟨(hfr g (by simp only [fps, List.flatMap_cons]; exact List.mem_append_left _ hgm)).2.1, fun hm => ?_⟩
      have h := hnd
      rw [show fps (Chunk.bun (L.map fun p => p.2.own k2 E2) :: Chunk.own ad cap kk e rr :: cf) = (Chunk.bun (L.map fun p => p.2.own k2 E2)).fp ++ fps (Chunk.own ad cap kk e rr :: cf) from rfl] at h
      exact (List.nodup_append.1 h).2.2 g hgm g hm rfl
    have hh : ∀ p ∈ L, (p.2.own k2 E2).holds w (av Γ.M (Chunk.bun (L.map fun p => p.2.own k2 E2) :: Chunk.own ad cap kk e rr :: cf)) := fun p hp => hb _ (List.mem_map.2 ⟨p, hp, rfl⟩)
    generalize av Γ.M (Chunk.bun (L.map fun p => p.2.own k2 E2) :: Chunk.own ad cap kk e rr :: cf) = A at *
    generalize av Γ.M (Chunk.own ad cap kk e rr :: cf) = A' at *
    unfold Chunk.own at ho ⊢
    obtain ⟨hk, xs, hown, hrd⟩ := ho
    refine ⟨?_, xs, by rw [hlen]; exact hown, ?_⟩
    · intro r hr
      obtain ⟨p, hp, rfl⟩ := List.mem_map.1 hr
      have := hk (pre p.1 ++ Tr.raw p.2.val :: post p.1) (by rw [← hrr]; exact List.mem_map.2 ⟨p, hp, rfl⟩)
      simpa using this
    · rw [← hrr] at hrd
      exact rdc_settle pre post k2 E2 hsub L xs hh hin hrd
  · exact d2.chunks c (List.mem_cons_of_mem _ hc)
end bun
attribute [irreducible] Chunk.bun
end Lg
end
section
set_option linter.all false
namespace Lg
open Go

section mk
variable {P : Program} {Γ : Ctx} {env env' : Env} {cs cs' cf : List Chunk} {Q : Post} {R : Array Oper}
variable {x y : Operand} {T T2 : TypeId} {ty : TypeId} {k k2 : IntKind} {p : Int}
/-- a settled slice of zeros, in a region whose order is open -/
theorem OpW.makeSlice {E kk bb : Nat} {zs : List Value} [hS : TySl P T E kk bb zs] (hx : ev env x = some (.int p)) (hy : ev env y = some (.int p)) (h0 : 0 ≤ p) (hb : bb * p.toNat ≤ 281474976710656) (hmx : p ≤ 9223372036854775807) :
    OpW P Γ (.makeSlice T x y) ty env cs (.sl kk (List.replicate p.toNat (zs.map Tr.raw))) := by
  unfold OpW
  intro a w d dd pos af g next F hk
  have hv := rd_raw (d.ev hx)
  have hv2 := rd_raw (d.ev hy)
  obtain ⟨ti, zv, h1, h2, h3, h4, h5, h6⟩ := hS.hE
  obtain ⟨n, rfl⟩ := Int.eq_ofNat_of_zero_le h0
  simp only [Int.toNat_natCast] at hb hk ⊢
  have hr := run_make (P := P) w T E ti zv hS.hT h1 h2 .i64 .i64 n n (by omega) (Int.le_refl _) (by rw [h5]; have : ((bb * n : Nat) : Int) ≤ 281474976710656 := by omega
                                                                                                    rwa [Int.natCast_mul] at this) hmx
  have hzs : zv.cells.size = kk := hS.hz _ _ h1 h2
  simp only [Int.toNat_natCast, h4] at hr
  have hmd := madeCells_rd (w := w) (A := av Γ.M cs) (zs := zv.cells) (by rw [h3]; exact hS.one) n
  rw [hzs, h3] at hmd
  have hx2 : (execOp a.eval ⟨some dd, .makeSlice T x y, ty, pos, af, g⟩).run P w = .ok (.value (.slice (some ⟨w.heap.size, 0, none⟩) n n)) (w.alloc (.cells (madeCells zv.cells (n * kk)) E)) := by simp [execOp, hv, hv2, hr] <;> rfl
  unfold Oper.wp
  rw [hx2]
  refine hk _ _ ?_ (fun env2 d2 => (d2.newblock _ E hmd).dropc)
  have d2 := d.newblock _ E hmd
  have hnb := d2.chunks (Chunk.box w.heap.size E (zeroRow zs n)) (by simp)
  have hfr := d2.fresh w.heap.size (by simp only [fps, List.flatMap_cons]; unfold Chunk.box; simp)
  have hnd := d2.nodup
  have hav : SameOn (w.alloc (.cells (madeCells zv.cells (n * kk)) E)) (w.alloc (.cells (madeCells zv.cells (n * kk)) E)) (av Γ.M (Chunk.box w.heap.size E (zeroRow zs n) :: cs)) (av Γ.M cs) := fun b _ ⟨h1, h2⟩ => ⟨⟨h1, fun hm => h2 (by simp only [fps, List.flatMap_cons] at hm ⊢; exact List.mem_append_right _ hm)⟩, rfl⟩
  have hnotin : w.heap.size ∉ fps cs := by
    simp only [fps, List.flatMap_cons] at hnd
    exact fun hm => (List.nodup_append.1 hnd).2.2 _ (by unfold Chunk.box; simp) _ hm rfl
  generalize av Γ.M (Chunk.box w.heap.size E (zeroRow zs n) :: cs) = A at *
  unfold Chunk.box at hnb
  obtain ⟨c', hc', hr'⟩ := hnb
  have e := zeroRow_flat zs n
  unfold Tr.sl
  refine ⟨fun r hr => by rw [List.eq_of_mem_replicate hr]; simp [hS.hk], by rw [List.length_replicate]; simp only [maxLen]; omega, some ⟨w.heap.size, 0, none⟩, n, by rw [List.length_replicate], by rw [List.length_replicate]; omega, by simp only [maxLen]; omega, fun h => absurd h (by simp), .inr ⟨_, 0, rfl, ⟨hfr.2.1, hnotin⟩, c', E, _, hc', ?_⟩⟩
  rw [e]
  have := hr'.mono hav
  rw [List.drop_zero, List.take_of_length_le (by rw [this.length]; exact Nat.le_refl _)]
  exact this
theorem OpV.convI {d1 : TypeDesc} (h1 : P.underlying T = some d1) (h2 : P.underlying T2 = some (.int k2)) (hx : ev env x = some (.raw (.int k p))) : OpV P Γ (.convert T T2 x) ty env cs (.raw (.int k2 (k2.wrap p))) := by
  unfold OpV
  intro a w d
  have hv := rd_raw (d.ev hx)
  refine ⟨.int k2 (k2.wrap p), ?_, raw_self _⟩
  simp [execOp, hv, convert, run_underlying h1, run_underlying h2, Conv.intToInt]
theorem OpV.convS {d1 : TypeDesc} (h1 : P.underlying T = some d1) (h2 : P.underlying T2 = some .string) (hx : ev env x = some (.raw (.int k p))) : OpV P Γ (.convert T T2 x) ty env cs (.str (Utf8.encode p)) := by
  unfold OpV
  intro a w d
  have hv := rd_raw (d.ev hx)
  refine ⟨.string (Utf8.encode p), ?_, raw_self _⟩
  simp [execOp, hv, convert, run_underlying h1, run_underlying h2, Conv.intToString]
theorem OpV.neqS_t {s u : ByteArray} (hx : ev env x = some (.str s)) (hy : ev env y = some (.str u)) (h : ¬ s = u) : OpV P Γ (.binOp .neq T x y T2) ty env cs (.bool true) := by
  have := OpV.neqS (P := P) (Γ := Γ) (T := T) (T2 := T2) (ty := ty) (cs := cs) hx hy
  rwa [show decide (s ≠ u) = true from decide_eq_true h] at this
theorem OpV.neqS_f {s u : ByteArray} (hx : ev env x = some (.str s)) (hy : ev env y = some (.str u)) (h : s = u) : OpV P Γ (.binOp .neq T x y T2) ty env cs (.bool false) := by
  have := OpV.neqS (P := P) (Γ := Γ) (T := T) (T2 := T2) (ty := ty) (cs := cs) hx hy
  rwa [show decide (s ≠ u) = false from decide_eq_false (fun h2 => h2 h)] at this
end mk
end Lg
end
section
set_option linter.all false
namespace Lg
open Go

/-! ### regions whose order is open, in which operations turn the owned memory: H says what is owned once the operations of S are done, by what they yielded -/
section x
variable {P : Program} {Γ : Ctx} {env base : Env} {cs : List Chunk} {Q : Post} {H : (Nat → Value) → (Nat → Bool) → List Chunk} {L : List Oper}

def upd (ξ : Nat → Value) (i : Nat) (v : Value) : Nat → Value := fun j => match Nat.beq j i with | true => v | false => ξ j
def updD (S : Nat → Bool) (i : Nat) : Nat → Bool := fun j => match Nat.beq j i with | true => true | false => S j
theorem nbeq_ne {j i : Nat} (h : j ≠ i) : Nat.beq j i = false := by
  cases hb : Nat.beq j i
  · rfl
  · exact absurd (Nat.eq_of_beq_eq_true hb) h
theorem upd_same (ξ : Nat → Value) (i : Nat) (v : Value) : upd ξ i v i = v := by simp [upd]
theorem upd_ne (ξ : Nat → Value) {i j : Nat} (v : Value) (h : j ≠ i) : upd ξ i v j = ξ j := by
  unfold upd
  rw [nbeq_ne h]
theorem updD_same (S : Nat → Bool) (i : Nat) : updD S i i = true := by simp [updD]
theorem updD_ne (S : Nat → Bool) {i j : Nat} (h : j ≠ i) : updD S i j = S j := by
  unfold updD
  rw [nbeq_ne h]

/-- what an operation does once those that it waits for are done -/
def XStep (P : Program) (Γ : Ctx) (H : (Nat → Value) → (Nat → Bool) → List Chunk) (L : List Oper) (Pf : Nat → (Nat → Value) → Prop) (i : Nat) (o : Oper) (acc : (Nat → Value) → Env) (T : Value → Tr) (Pv : (Nat → Value) → Prop) : Prop :=
  ∀ (ξ : Nat → Value) (S : Nat → Bool), S i = false → (∀ j ∈ preds o.after, S j = true) → (∀ k ok, L[k]? = some ok → S k = true → ∀ j ∈ preds ok.after, S j = true) → (∀ k, S k = true → Pf k ξ) →
    ∀ a w, Den Γ (rst (slotsOf o.op) (acc ξ)) (H ξ S) a w → ∀ (next : Act → World → Prop) (F : Exit → Act → World → Prop),
      (∀ v w', Pv (upd ξ i v) → (T v).rd w' (av Γ.M (H (upd ξ i v) (updD S i))) v → (∀ env2, Den Γ env2 (H ξ S) a w → Den Γ env2 (H (upd ξ i v) (updD S i)) a w') → next (a.put o.dst v) w') → Oper.wp P o a w next F

def accX (o : Oper) (n : Nat) (T : Value → Tr) (acc : (Nat → Value) → Env) : (Nat → Value) → Env := fun ξ => match o.dst with
  | some d => (d, T (ξ n)) :: acc ξ
  | none => acc ξ
def pfX (n : Nat) (Pv : (Nat → Value) → Prop) (Pf : Nat → (Nat → Value) → Prop) : Nat → (Nat → Value) → Prop := fun j ξ => match Nat.beq j n with
  | true => Pv ξ
  | false => Pf j ξ
/-- it speaks of the operation's own value, and of those that it waits for -/
def PvOk (n : Nat) (o : Oper) (Pv : (Nat → Value) → Prop) : Prop := ∀ ξ k v, k ≠ n → k ∉ preds o.after → Pv ξ → Pv (upd ξ k v)
theorem PvOk.own {n : Nat} {o : Oper} {p : Value → Prop} : PvOk n o (fun ξ => p (ξ n)) := fun ξ k v hk _ h => by
  show p (upd ξ k v n)
  rw [upd_ne _ _ (Ne.symm hk)]
  exact h
theorem PvOk.triv {n : Nat} {o : Oper} : PvOk n o (fun _ => True) := fun _ _ _ _ _ _ => trivial

def XSeq (P : Program) (Γ : Ctx) (H : (Nat → Value) → (Nat → Bool) → List Chunk) (L : List Oper) (K : Env → List Chunk → Prop) : Nat → ((Nat → Value) → Env) → (Nat → (Nat → Value) → Prop) → List Oper → Prop
  | _, acc, Pf, [] => ∀ ξ : Nat → Value, (∀ j, Pf j ξ) → K (acc ξ) (H ξ fun _ => true)
  | n, acc, Pf, o :: l => ∃ (T : Value → Tr) (Pv : (Nat → Value) → Prop), PvOk n o Pv ∧ XStep P Γ H L Pf n o acc T Pv ∧ XSeq P Γ H L K (n + 1) (accX o n T acc) (pfX n Pv Pf) l

structure XI (L : List Oper) (env : Env) (n : Nat) (acc : (Nat → Value) → Env) (Pf : Nat → (Nat → Value) → Prop) (T : Nat → Value → Tr) (Pv : Nat → (Nat → Value) → Prop) : Prop where
  look : ∀ ξ s t, Lg.look (acc ξ) s = some t → (∃ j oj, j < n ∧ L[j]? = some oj ∧ oj.dst = some s ∧ t = T j (ξ j)) ∨ (Lg.look env s = some t ∧ ∀ j oj, j < n → L[j]? = some oj → oj.dst ≠ some s)
  pf : ∀ (k : Nat) (ξ : Nat → Value), (k < n → Pv k ξ) → Pf k ξ
theorem XI.agree {n : Nat} {acc : (Nat → Value) → Env} {Pf : Nat → (Nat → Value) → Prop} {T T' : Nat → Value → Tr} {Pv Pv' : Nat → (Nat → Value) → Prop} (h : XI L env n acc Pf T Pv) (e : ∀ j, j < n → T' j = T j ∧ Pv' j = Pv j) : XI L env n acc Pf T' Pv' := by
  refine ⟨fun ξ s t hl => ?_, fun k v hk => h.pf k v fun hkn => ?_⟩
  · rcases h.look ξ s t hl with ⟨j, oj, h1, h2, h3, h4⟩ | h
    · exact .inl ⟨j, oj, h1, h2, h3, by rw [(e j h1).1]; exact h4⟩
    · exact .inr h
  · rw [← (e k hkn).2]
    exact hk hkn

theorem XSeq.out {K : Env → List Chunk → Prop} : ∀ {l : List Oper} {n : Nat} {acc : (Nat → Value) → Env} {Pf : Nat → (Nat → Value) → Prop} {T0 : Nat → Value → Tr} {Pv0 : Nat → (Nat → Value) → Prop},
    (∀ i : Nat, l[i]? = L[n + i]?) → n + l.length = L.length → XI L env n acc Pf T0 Pv0 → XSeq P Γ H L K n acc Pf l →
    ∃ (T : Nat → Value → Tr) (Pv : Nat → (Nat → Value) → Prop), (∀ j, j < n → T j = T0 j ∧ Pv j = Pv0 j) ∧
      (∀ i o, n ≤ i → L[i]? = some o → ∃ acc Pf, XI L env i acc Pf T Pv ∧ PvOk i o (Pv i) ∧ XStep P Γ H L Pf i o acc (T i) (Pv i)) ∧
      (∃ acc Pf, XI L env L.length acc Pf T Pv ∧ ∀ ξ : Nat → Value, (∀ j, Pf j ξ) → K (acc ξ) (H ξ fun _ => true))
  | [], n, acc, Pf, T0, Pv0, hL, hn, hI, h => by
    simp at hn
    refine ⟨T0, Pv0, fun j _ => ⟨rfl, rfl⟩, fun i o hi ho => ?_, acc, Pf, by rw [← hn]; exact hI, h⟩
    have := (List.getElem?_eq_some_iff.1 ho).1
    omega
  | o :: l, n, acc, Pf, T0, Pv0, hL, hn, hI, ⟨T1, Pv1, hok, hst, hk⟩ => by
    have ho : L[n]? = some o := by have := hL 0; simpa using this.symm
    have hI' : XI L env (n + 1) (accX o n T1 acc) (pfX n Pv1 Pf) (fun j => match Nat.beq j n with | true => T1 | false => T0 j) (fun j => match Nat.beq j n with | true => Pv1 | false => Pv0 j) := by
      refine ⟨fun ξ s t hl => ?_, fun k v hkv => ?_⟩
      · have old : look (acc ξ) s = some t → (∀ d, o.dst = some d → d ≠ s) → (∃ j oj, j < n + 1 ∧ L[j]? = some oj ∧ oj.dst = some s ∧ t = (match Nat.beq j n with | true => T1 | false => T0 j) (ξ j)) ∨ (look env s = some t ∧ ∀ j oj, j < n + 1 → L[j]? = some oj → oj.dst ≠ some s) := by
          intro hl hd
          rcases hI.look ξ s t hl with ⟨j, oj, h1, h2, h3, h4⟩ | ⟨h1, h2⟩
          · refine .inl ⟨j, oj, by omega, h2, h3, ?_⟩
            rw [nbeq_ne (show j ≠ n by omega)]
            exact h4
          · refine .inr ⟨h1, fun j oj hj hoj => ?_⟩
            by_cases e : j = n
            · subst e
              rw [ho] at hoj
              cases hoj
              intro hd2
              exact hd s hd2 rfl
            · exact h2 j oj (by omega) hoj
        unfold accX at hl
        cases hd : o.dst with
        | none =>
          rw [hd] at hl
          exact old hl (fun d h => by rw [hd] at h; cases h)
        | some d =>
          rw [hd] at hl
          by_cases e : d = s
          · subst e
            simp only at hl
            rw [look_cons_same] at hl
            cases hl
            exact .inl ⟨n, o, by omega, ho, hd, by simp⟩
          · simp only at hl
            rw [look_cons_ne _ _ e] at hl
            exact old hl (fun d' h => by rw [hd] at h; cases h; exact e)
      · unfold pfX
        by_cases e : k = n
        · subst e
          have := hkv (by omega)
          simpa using this
        · have hb : Nat.beq k n = false := nbeq_ne e
          rw [hb]
          refine hI.pf k v fun hkn => ?_
          have := hkv (by omega)
          rw [hb] at this
          exact this
    obtain ⟨T, Pv, h1, h2, h3⟩ := XSeq.out (l := l) (n := n + 1) (by intro i; have := hL (i + 1); simpa [Nat.add_assoc, Nat.add_comm 1] using this) (by simp at hn; omega) hI' hk
    have hag : ∀ j, j < n → T j = T0 j ∧ Pv j = Pv0 j := by
      intro j hj
      have := h1 j (by omega)
      rw [nbeq_ne (show j ≠ n by omega)] at this
      exact this
    have hn1 := h1 n (by omega)
    simp only [Nat.beq_refl] at hn1
    refine ⟨T, Pv, hag, fun i o' hi ho' => ?_, h3⟩
    by_cases e : i = n
    · subst e
      rw [ho] at ho'
      cases ho'
      exact ⟨acc, Pf, hI.agree hag, by rw [hn1.2]; exact hok, by rw [hn1.1, hn1.2]; exact hst⟩
    · exact h2 i o' (by omega) ho'

structure MidX (Γ : Ctx) (H : (Nat → Value) → (Nat → Bool) → List Chunk) (L : List Oper) (env : Env) (T : Nat → Value → Tr) (Pv : Nat → (Nat → Value) → Prop) (ξ : Nat → Value) (listed : Array Bool) (a : Act) (w : World) : Prop where
  den : Den Γ [] (H ξ fun j => listed.getD j true) a w
  size : listed.size = L.length
  keep : ∀ s t, look env s = some t → (∀ k o, L[k]? = some o → listed.getD k true = true → o.dst ≠ some s) → t.rd w (av Γ.M (H ξ fun j => listed.getD j true)) (a.tmps.getD s undef)
  done : ∀ i o, L[i]? = some o → listed.getD i true = true → Pv i ξ ∧ ∀ d, o.dst = some d → a.tmps.getD d undef = ξ i ∧ (T i (ξ i)).rd w (av Γ.M (H ξ fun j => listed.getD j true)) (ξ i)
  closed : ∀ k o, L[k]? = some o → listed.getD k true = true → ∀ j ∈ preds o.after, listed.getD j true = true

theorem nodup_dst {l : List Oper} (hnd : (dsts l).Nodup) : ∀ {i j : Nat} {oi oj : Oper} {d : Nat}, l[i]? = some oi → l[j]? = some oj → oi.dst = some d → oj.dst = some d → i = j := by
  unfold dsts at hnd
  induction l with
  | nil => intro i j oi oj d h; simp at h
  | cons p l ih =>
    intro i j oi oj d hi hj hdi hdj
    have mem : ∀ {k : Nat} {ok : Oper}, l[k]? = some ok → ok.dst = some d → d ∈ l.filterMap (·.dst) := fun hk hd => List.mem_filterMap.2 ⟨_, List.mem_of_getElem? hk, hd⟩
    have hnd' : (l.filterMap (·.dst)).Nodup := by
      cases hp : p.dst with
      | none => rwa [List.filterMap_cons, hp] at hnd
      | some x => rw [List.filterMap_cons, hp] at hnd; exact (List.nodup_cons.1 hnd).2
    have hno : p.dst = some d → d ∉ l.filterMap (·.dst) := by
      intro hp
      rw [List.filterMap_cons, hp] at hnd
      exact (List.nodup_cons.1 hnd).1
    cases i with
    | zero =>
      simp at hi
      subst hi
      cases j with
      | zero => rfl
      | succ j => simp at hj; exact absurd (mem hj hdj) (hno hdi)
    | succ i =>
      simp at hi
      cases j with
      | zero => simp at hj; subst hj; exact absurd (mem hi hdi) (hno hdj)
      | succ j => simp at hj; rw [ih hnd' hi hj hdi hdj]

def noGuards (l : List Oper) : Bool := l.all fun o => match o.guard with | none => true | some _ => false

theorem Cw.region_X {id : Nat} {l : List Oper} (H : (Nat → Value) → (Nat → Bool) → List Chunk) (hm : P.follows .mixedOrders = true) (hb : (backOk l && (nodupB (dsts l) && (ssaFrom l 0 l && noGuards l))) = true) (hlt : (dsts l).all (Nat.blt · Γ.n) = true)
    (hs : ∀ ξ, H ξ (fun j => Nat.ble l.length j) = cs) (h : XSeq P Γ H l (fun acc cs => ∃ env' cs', Ent Γ acc cs env' cs' ∧ Q .normal env' cs') 0 (fun _ => env) (fun _ _ => True) l) : Cw P Γ (.region id l.toArray true) env cs Q := by
  simp only [Bool.and_eq_true] at hb
  obtain ⟨hb, hnd, hssa, hg⟩ := hb
  have hnodup := nodupB_iff hnd
  unfold Cw
  intro a w d
  obtain ⟨T, Pv, _, hstep, accE, PfE, hIE, hK⟩ := XSeq.out (L := l) (env := env) (T0 := fun _ _ => Tr.any) (Pv0 := fun _ _ => True) (by intro i; simp) (by simp) ⟨fun ξ s t hl => .inr ⟨hl, fun j oj hj => absurd hj (by omega)⟩, fun k v _ => trivial⟩ h
  have hback : ∀ (i : Nat) o, l[i]? = some o → ∀ j ∈ preds o.after, j < i := by
    intro i o ho j hj
    obtain ⟨e, he, hbd, rfl⟩ := mem_preds.1 hj
    have := backFrom_at (k := 0) (i := i) (o := o) hb ho e he hbd
    omega
  have hltn : ∀ (i : Nat) o d, l[i]? = some o → o.dst = some d → d < Γ.n := fun i o d ho hd => by
    have := List.all_eq_true.1 hlt d (List.mem_filterMap.2 ⟨o, List.mem_of_getElem? ho, hd⟩)
    simpa [Nat.blt_eq] using this
  have hguard : ∀ (i : Nat) o, l[i]? = some o → o.guard = none := fun i o ho => guard_none (List.all_eq_true.1 hg o (List.mem_of_getElem? ho))
  have hgd : ∀ (listed : Array Bool) (i : Nat), i < listed.size → listed.getD i true = listed.getD i false := by
    intro listed i hi
    rw [Array.getD_eq_getD_getElem?, Array.getD_eq_getD_getElem?, Array.getElem?_eq_getElem hi]
    rfl
  have fin : ∀ (ξ : Nat → Value) (listed : Array Bool) (a : Act) (w : World), MidX Γ H l env T Pv ξ listed a w → (∀ i, i < l.length → listed.getD i true = true) → Lift Γ Q .normal a w := by
    intro ξ listed a w hmid hall
    have hS : (fun j => listed.getD j true) = fun _ => true := by
      funext j
      by_cases hj : j < l.length
      · exact hall j hj
      · rw [Array.getD_eq_getD_getElem?, Array.getElem?_eq_none (by rw [hmid.size]; omega)]
        rfl
    have hd := hmid.den
    have hdone := hmid.done
    have hkeep := hmid.keep
    rw [hS] at hd hdone hkeep
    have hPf : ∀ j, PfE j ξ := by
      intro j
      refine hIE.pf j _ fun hj => ?_
      obtain ⟨o, ho⟩ : ∃ o, l[j]? = some o := ⟨_, List.getElem?_eq_getElem hj⟩
      exact (hdone j o ho (hall j hj)).1
    obtain ⟨env', cs', hE, hq⟩ := hK ξ hPf
    unfold Ent at hE
    refine ⟨env', cs', hq, hE a w ⟨hd.nodefer, hd.tmps, ?_, hd.chunks, hd.nodup, hd.fresh, hd.below, hd.frame⟩⟩
    · intro s t hl
      rcases hIE.look ξ s t hl with ⟨j, oj, h1, h2, h3, rfl⟩ | ⟨h1, h2⟩
      · obtain ⟨e1, e2⟩ := (hdone j oj h2 (hall j h1)).2 s h3
        rw [e1]
        exact e2
      · exact hkeep s t h1 fun k o hk _ => h2 k o (List.getElem?_eq_some_iff.1 hk).1 hk
  have main : ∀ (fuel : Nat) (ξ : Nat → Value) (listed : Array Bool) (a : Act) (w : World), MidX Γ H l env T Pv ξ listed a w → (listed.toList.filter (! ·)).length ≤ fuel → wpAny P .any l.toArray (Lift Γ Q) fuel listed a w := by
    intro fuel
    have first : ∀ (listed : Array Bool), listed.size = l.length → (∀ i, i < l.length → listed.getD i true = true) ∨ ∃ i, i ∈ Region.ready .any l.toArray listed := by
      intro listed hsz
      have : ∀ n, n ≤ l.length → (∀ j, j < n → listed.getD j true = true) ∨ ∃ i, i < l.length ∧ listed.getD i true = false ∧ ∀ j, j < i → listed.getD j true = true := by
        intro n
        induction n with
        | zero => intro _; exact .inl (fun j hj => by omega)
        | succ n ihn =>
          intro hn
          rcases ihn (by omega) with h | h
          · cases hc : listed.getD n true with
            | true =>
              refine .inl fun j hj => ?_
              by_cases e : j = n
              · subst e; exact hc
              · exact h j (by omega)
            | false => exact .inr ⟨n, by omega, hc, h⟩
          · exact .inr h
      rcases this _ (Nat.le_refl _) with h | ⟨i, hi, h1, h2⟩
      · exact .inl h
      · refine .inr ⟨i, mem_ready.2 ⟨_, List.getElem?_eq_getElem hi, h1, fun j hj => ?_⟩⟩
        have := hback i _ (List.getElem?_eq_getElem hi) j hj
        rw [← hgd listed j (by omega)]
        exact h2 j this
    induction fuel with
    | zero =>
      intro ξ listed a w hmid hf
      have hall : ∀ i, i < l.length → listed.getD i true = true := by
        intro i hi
        have hli : i < listed.size := by rw [hmid.size]; omega
        rw [Array.getD_eq_getD_getElem?, Array.getElem?_eq_getElem hli]
        cases hc : listed[i]'hli with
        | true => rfl
        | false =>
          exfalso
          have : false ∈ listed.toList.filter (! ·) := List.mem_filter.2 ⟨by rw [← hc]; simp, rfl⟩
          have := List.length_pos_of_mem this
          omega
      refine ⟨?_, fin ξ listed a w hmid hall⟩
      refine List.eq_nil_iff_forall_not_mem.2 fun i hi => ?_
      obtain ⟨o, ho, h1, _⟩ := mem_ready.1 hi
      have h9 := hall i (List.getElem?_eq_some_iff.1 ho).1
      rw [h1] at h9
      cases h9
    | succ fuel ih =>
      intro ξ listed a w hmid hf
      refine ⟨fun hr => ?_, ?_⟩
      · rcases first listed hmid.size with h | ⟨i, hi⟩
        · exact fin ξ listed a w hmid h
        · rw [hr] at hi; cases hi
      intro i hi
      obtain ⟨oi, hoi, hl2, hp2⟩ := mem_ready.1 hi
      have hil := (List.getElem?_eq_some_iff.1 hoi).1
      have hli : i < listed.size := by rw [hmid.size]; omega
      have hc : listed[i]'hli = false := by simpa [hli] using hl2
      obtain ⟨acc, Pf, hI, hokI, hx⟩ := hstep i oi (Nat.zero_le _) hoi
      have hpred : ∀ j ∈ preds oi.after, listed.getD j true = true := by
        intro j hj
        have := hback i oi hoi j hj
        rw [hgd listed j (by omega)]
        exact hp2 j hj
      have hnotafter : ∀ k ok, l[k]? = some ok → listed.getD k true = true → i ∉ preds ok.after := by
        intro k ok hk hlk hin
        have h9 := hmid.closed k ok hk hlk i hin
        rw [hl2] at h9
        cases h9
      have hS' : (fun j => (listed.setIfInBounds i true).getD j true) = updD (fun j => listed.getD j true) i := by
        funext j
        by_cases e : j = i
        · subst e
          rw [updD_same, Array.getD_eq_getD_getElem?, Array.getElem?_setIfInBounds_self]
          simp [hli]
        · rw [updD_ne _ e, Array.getD_eq_getD_getElem?, Array.getElem?_setIfInBounds_ne (Ne.symm e), ← Array.getD_eq_getD_getElem?]
      generalize hSS : (fun j => listed.getD j true) = S at *
      have hSj : ∀ j, listed.getD j true = S j := fun j => by rw [← hSS]
      have hden : Den Γ (rst (slotsOf oi.op) (acc ξ)) (H ξ S) a w := by
        have dd := hmid.den
        have hdone := hmid.done
        have hkeep := hmid.keep
        rw [hSS] at dd hdone hkeep
        refine ⟨dd.nodefer, dd.tmps, ?_, dd.chunks, dd.nodup, dd.fresh, dd.below, dd.frame⟩
        intro s t hlk
        obtain ⟨hs, hlk⟩ := rst_look hlk
        have hss := ssaFrom_at hssa hoi s hs
        rw [Nat.zero_add] at hss
        rcases hI.look ξ s t hlk with ⟨j, oj, h1, h2, h3, rfl⟩ | ⟨h1, h2⟩
        · have hjl : listed.getD j true = true := by
            rcases hss with h | ⟨k, hk, p, hkp, hpd⟩
            · exfalso
              rcases others_spec h2 h3 h with h | h
              · omega
              · have := hback j oj h2 i h
                omega
            · have := nodup_dst hnodup hkp h2 hpd h3
              subst this
              exact hpred k hk
          obtain ⟨e1, e2⟩ := (hdone j oj h2 hjl).2 s h3
          rw [e1]
          exact e2
        · refine hkeep s t h1 fun k ok hk hlk hd => ?_
          rcases Nat.lt_trichotomy k i with h | rfl | h
          · exact h2 k ok h hk hd
          · rw [hl2] at hlk
            cases hlk
          · rcases hss with h3 | ⟨k', hk', p, hkp, hpd⟩
            · rcases others_spec hk hd h3 with h | h
              · omega
              · exact hnotafter k ok hk hlk h
            · exact h2 k' p (hback i oi hoi k' hk') hkp hpd
      have hmden := hmid.den
      rw [hSS] at hmden
      have hx := hx ξ S (by rw [← hSj]; exact hl2) (fun j hj => by rw [← hSj]; exact hpred j hj) (fun k ok hk h j hj => by rw [← hSj] at h ⊢; exact hmid.closed k ok hk h j hj)
        (fun k hk => hI.pf k _ fun hki => by
          obtain ⟨ok, hok⟩ : ∃ ok, l[k]? = some ok := ⟨_, List.getElem?_eq_getElem (by omega)⟩
          exact (hmid.done k ok hok (by rw [hSj]; exact hk)).1) a w hden
      have hop : l.toArray[i]? = some oi := by simpa using hoi
      unfold wpOp
      simp only [hop]
      rw [if_pos (by unfold Region.wanted; rw [hguard i oi hoi])]
      refine .inl (hx _ _ fun v w' hPv hrd hpres => ih (upd ξ i v) _ _ _ ?_ ?_)
      · have hfact : ∀ {s : Nat} {t : Tr}, t.rd w (av Γ.M (H ξ S)) (a.tmps.getD s undef) → t.rd w' (av Γ.M (H (upd ξ i v) (updD S i))) (a.tmps.getD s undef) := by
          intro s t ht
          have dd := hmden
          have d1 : Den Γ [(s, t)] (H ξ S) a w := ⟨dd.nodefer, dd.tmps, fun i u hl => by
            by_cases e : s = i
            · subst e; rw [look_cons_same] at hl; cases hl; exact ht
            · rw [look_cons_ne _ _ e] at hl; simp [look] at hl, dd.chunks, dd.nodup, dd.fresh, dd.below, dd.frame⟩
          exact (hpres _ d1).env s t (look_cons_same _ _ _)
        have hput : ∀ s, oi.dst ≠ some s → (a.put oi.dst v).tmps.getD s undef = a.tmps.getD s undef := by
          intro s hs
          cases hd : oi.dst with
          | none => rfl
          | some x =>
            have hne : x ≠ s := fun e => hs (by rw [hd, e])
            simp [Act.put, Array.getElem?_setIfInBounds_ne hne]
        have hset : ∀ k, (listed.setIfInBounds i true).getD k true = true → k = i ∨ S k = true := by
          intro k hk
          by_cases e : k = i
          · exact .inl e
          · refine .inr ?_
            have := congrFun hS' k
            try simp only at this
            rw [hk, updD_ne _ e] at this
            exact this.symm
        have hset2 : ∀ k, S k = true → (listed.setIfInBounds i true).getD k true = true := by
          intro k hk
          have := congrFun hS' k
          try simp only at this
          rw [this]
          by_cases e : k = i
          · rw [e, updD_same]
          · rw [updD_ne _ e]; exact hk
        have hkeep := hmid.keep
        have hdone := hmid.done
        rw [hSS] at hkeep hdone
        refine ⟨?_, by simpa using hmid.size, ?_, ?_, ?_⟩
        · rw [hS']
          have dd := hpres _ hmden
          cases oi.dst with
          | none => exact ⟨dd.nodefer, dd.tmps, fun q t hlk => by simp [look] at hlk, dd.chunks, dd.nodup, dd.fresh, dd.below, dd.frame⟩
          | some x => exact ⟨dd.nodefer, by simpa [Act.put] using dd.tmps, fun q t hlk => by simp [look] at hlk, dd.chunks, dd.nodup, dd.fresh, dd.below, dd.frame⟩
        · intro s t hlk hno
          rw [hS']
          rw [hput s (hno i oi hoi (by
            have := congrFun hS' i
            try simp only at this
            rw [this, updD_same]))]
          exact hfact (hkeep s t hlk fun k o hk hl => hno k o hk (hset2 k (by rw [← hSj]; exact hl)))
        · intro j o hoj hj
          rw [hS']
          by_cases e : j = i
          · subst e
            rw [hoi] at hoj
            cases hoj
            rw [upd_same]
            refine ⟨hPv, fun d hd => ⟨?_, hrd⟩⟩
            have hs : d < a.tmps.size := by rw [hmden.tmps]; exact hltn j oi d hoi hd
            rw [hd]
            simp [Act.put, hs]
          · have hj' : listed.getD j true = true := by
              rcases hset j hj with h | h
              · exact absurd h e
              · rw [hSj]; exact h
            rw [upd_ne _ _ e]
            obtain ⟨g1, g2⟩ := hdone j o hoj hj'
            obtain ⟨_, _, _, hokJ, _⟩ := hstep j o (Nat.zero_le _) hoj
            refine ⟨hokJ ξ i v (Ne.symm e) (hnotafter j o hoj hj') g1, fun d hd => ?_⟩
            obtain ⟨g3, g4⟩ := g2 d hd
            have hne : oi.dst ≠ some d := fun e2 => e (nodup_dst hnodup hoj hoi hd e2)
            rw [hput d hne]
            refine ⟨g3, ?_⟩
            have := hfact (s := d) (t := T j (ξ j)) (by rw [g3]; exact g4)
            rwa [g3] at this
        · intro k o hk hkl j hj
          rcases hset k hkl with rfl | h
          · rw [hoi] at hk
            cases hk
            exact hset2 j (by rw [← hSj]; exact hpred j hj)
          · refine hset2 j ?_
            rw [← hSj]
            exact hmid.closed k o hk (by rw [hSj]; exact h) j hj
      · have hfs := filter_set listed.toList i (by simp [hli, hc])
        rw [Array.toList_setIfInBounds]
        omega
  refine wp_region_any hm ?_
  have hS0 : (fun j => (Array.replicate l.toArray.size false).getD j true) = fun j => Nat.ble l.length j := by
    funext j
    rw [Array.getD_eq_getD_getElem?, Array.getElem?_replicate]
    by_cases hj : j < l.length
    · have hb : Nat.ble l.length j = false := by rw [← Bool.not_eq_true]; intro h; have := Nat.le_of_ble_eq_true h; omega
      rw [hb]
      simp [hj]
    · have hb : Nat.ble l.length j = true := Nat.ble_eq_true_of_le (by omega)
      rw [hb]
      simp [hj]
  have hno : ∀ k o, l[k]? = some o → (Array.replicate l.toArray.size false).getD k true = true → False := by
    intro k o hk hkl
    have := congrFun hS0 k
    try simp only at this
    rw [this] at hkl
    have := Nat.le_of_ble_eq_true hkl
    have := (List.getElem?_eq_some_iff.1 hk).1
    omega
  have dd := d.drew
  refine main _ (fun _ => undef) _ _ _ ⟨?_, by simp, ?_, fun i o ho hi => (hno i o ho hi).elim, fun k o hk hkl => (hno k o hk hkl).elim⟩ (by simp)
  · rw [hS0, hs]
    exact ⟨dd.nodefer, dd.tmps, fun i t hlk => by simp [look] at hlk, dd.chunks, dd.nodup, dd.fresh, dd.below, dd.frame⟩
  · intro s t hlk _
    rw [hS0, hs]
    exact dd.env s t hlk

def blk : Value → Nat
  | .pointer (some a) => a.block
  | _ => 0
/-- a variable that is made (s1) and filled (s2) in such a region -/
def objB (s1 s2 : Bool) (v : Value) (T : TypeId) (z r : List Tr) : List Chunk := match s1 with
  | false => []
  | true => [Chunk.box (blk v) T (match s2 with | false => z | true => r)]
theorem closed_false {S : Nat → Bool} {i k : Nat} {ok : Oper} (h1 : S i = false) (h3 : ∀ k ok, L[k]? = some ok → S k = true → ∀ j ∈ preds ok.after, S j = true) (hk : L[k]? = some ok) (hi : (preds ok.after).contains i = true) : S k = false := by
  cases h : S k
  · rfl
  · have := h3 k ok hk h i (by simpa using hi)
    rw [h1] at this
    cases this
theorem XSeq.nil {K : Env → List Chunk → Prop} {n : Nat} {acc : (Nat → Value) → Env} {Pf : Nat → (Nat → Value) → Prop} (h : ∀ ξ : Nat → Value, (∀ j, Pf j ξ) → K (acc ξ) (H ξ fun _ => true)) : XSeq P Γ H L K n acc Pf [] := h
theorem XSeq.cons {K : Env → List Chunk → Prop} {n : Nat} {acc : (Nat → Value) → Env} {Pf : Nat → (Nat → Value) → Prop} {o : Oper} {l : List Oper} {T : Value → Tr} {Pv : (Nat → Value) → Prop} (ok : PvOk n o Pv) (h : XStep P Γ H L Pf n o acc T Pv) (k : XSeq P Γ H L K (n + 1) (accX o n T acc) (pfX n Pv Pf) l) : XSeq P Γ H L K n acc Pf (o :: l) := ⟨T, Pv, ok, h, k⟩
theorem exists_upd {ξ : Nat → Value} {i : Nat} {v : Value} (h : ξ i = v) : ∃ ξ', ξ = upd ξ' i v := by
  refine ⟨ξ, ?_⟩
  funext j
  by_cases e : j = i
  · subst e; rw [upd_same]; exact h
  · rw [upd_ne _ _ e]

variable {Pf : Nat → (Nat → Value) → Prop} {i d : Nat} {op : Op} {ty : TypeId} {pos : String} {af : Array Edge} {acc : (Nat → Value) → Env} {t : Tr}
/-- an operation that turns no memory that is owned -/
theorem XStep.w (hH : ∀ ξ S v, H (upd ξ i v) (updD S i) = H ξ S)
    (h : ∀ (ξ : Nat → Value) (S : Nat → Bool), S i = false → (∀ j ∈ preds af, S j = true) → (∀ k ok, L[k]? = some ok → S k = true → ∀ j ∈ preds ok.after, S j = true) → (∀ k, S k = true → Pf k ξ) → OpW P Γ op ty (rst (slotsOf op) (acc ξ)) (H ξ S) t) :
    XStep P Γ H L Pf i ⟨some d, op, ty, pos, af, none⟩ acc (fun _ => t) (fun _ => True) := by
  unfold XStep
  intro ξ S h1 h2 h3 h4 a w dd next F hk
  have h := h ξ S h1 h2 h3 h4
  unfold OpW at h
  refine h a w dd d pos af none next F fun v w' hv hp => hk v w' trivial ?_ ?_
  · rw [hH]; exact hv
  · intro env2 d2
    rw [hH]
    exact hp env2 d2
theorem XStep.alloc {T : TypeId} {zs : List Value} [hz : TyZero P T zs] (hH : ∀ (ξ : Nat → Value) (S : Nat → Bool) (b : Nat), S i = false → (∀ k ok, L[k]? = some ok → S k = true → ∀ j ∈ preds ok.after, S j = true) → (H (upd ξ i (.pointer (some ⟨b, 0, none⟩))) (updD S i)).Perm (Chunk.box b T (zs.map Tr.raw) :: H ξ S)) :
    XStep P Γ H L Pf i ⟨some d, .alloc T, ty, pos, af, none⟩ acc Tr.raw (fun ξ => ∃ b, ξ i = .pointer (some ⟨b, 0, none⟩)) := by
  unfold XStep
  intro ξ S h1 h2 h3 h4 a w dd next F hk
  obtain ⟨ti, zv, e1, e2, e3⟩ := hz.h
  have hrun : (execOp a.eval ⟨some d, .alloc T, ty, pos, af, none⟩).run P w = .ok (.value (.pointer (some ⟨w.heap.size, 0, none⟩))) (w.alloc (.cells zv.cells T)) := by
    simp [execOp, Instr.alloc, zeroValue, typeInfo, e1, e2, newVar, newRow] <;> rfl
  unfold Oper.wp
  rw [hrun]
  refine hk _ _ ⟨_, upd_same _ _ _⟩ (raw_self _) fun env2 d2 => ?_
  have hd := d2.newblock zv.cells T (ts := zs.map Tr.raw) (by rw [e3]; exact rdc_raw hz.one)
  exact hd.perm (hH ξ S _ h1 h3).symm
theorem XStep.store {T : TypeId} {x y : Operand} {n : Nat} [hT : TySz P T n]
    (h : ∀ (ξ : Nat → Value) (S : Nat → Bool), S i = false → (∀ j ∈ preds af, S j = true) → (∀ k ok, L[k]? = some ok → S k = true → ∀ j ∈ preds ok.after, S j = true) → (∀ k, S k = true → Pf k ξ) →
      ∃ (b o : Nat) (e : TypeId) (ts us : List Tr) (t : Tr) (cf : List Chunk), ev (rst (slotsOf (.store T x y)) (acc ξ)) x = some (.raw (.pointer (some ⟨b, o, none⟩))) ∧ ev (rst (slotsOf (.store T x y)) (acc ξ)) y = some t ∧ RowT t us ∧ (H ξ S).Perm (Chunk.box b e ts :: cf) ∧ us.length = n ∧ o + n ≤ ts.length ∧ (H (upd ξ i undef) (updD S i)).Perm (Chunk.box b e (ts.take o ++ us ++ ts.drop (o + n)) :: cf)) :
    XStep P Γ H L Pf i ⟨none, .store T x y, ty, pos, af, none⟩ acc (fun _ => Tr.any) (fun _ => True) := by
  unfold XStep
  intro ξ S h1 h2 h3 h4 a w d next F hk
  obtain ⟨b, o, e, ts, us, t, cf, hx, hy, hr, hp, hn, ho, hq⟩ := h ξ S h1 h2 h3 h4
  have hv := rd_raw (d.ev hx)
  have hu := hr.h _ _ _ (d.ev hy)
  have hbx := d.has hp
  generalize hA : av Γ.M (H ξ S) = A at *
  have hbx2 := hbx
  unfold Chunk.box at hbx2
  obtain ⟨cur, hb, hc⟩ := hbx2
  have hl : (a.eval y).cells.size = n := by rw [← Array.length_toList, hu.length, hn]
  have hcl := hc.length
  have hrun := run_storeAt (P := P) (T := T) (w := w) (off := o) (v := a.eval y) hb hT.size hl (by simp at hcl; omega) hu.one
  have hx2 : (execOp a.eval ⟨none, .store T x y, ty, pos, af, none⟩).run P w = .ok .skip (w.setRow b (cur.toList.take o ++ (a.eval y).cells.toList ++ cur.toList.drop (o + n)).toArray) := by simp [execOp, hv, hrun] <;> rfl
  unfold Oper.wp
  rw [hx2]
  refine hk _ _ trivial tr_any_self fun env2 d2 => ?_
  have ea := av_perm hp Γ.M
  refine Den.perm ?_ hq.symm
  refine (d2.perm hp).store (cur := cur.toList) (e := e) (by unfold Chunk.box; rfl) (by unfold Chunk.box; rfl) (by simpa using hb) ?_
  intro hs hg _
  generalize hA2 : av Γ.M (Chunk.box b e (ts.take o ++ us ++ ts.drop (o + n)) :: cf) = A2 at *
  unfold Chunk.box
  exact ⟨_, hg, by
    have h1 := ((hc.take o).app hu).app (hc.drop (o + n))
    rw [← hA, ea] at h1
    have h2 := h1.mono hs
    simpa only [List.append_assoc] using h2⟩
section seqs
variable {K : Env → List Chunk → Prop} {n : Nat} {l : List Oper}
theorem XSeq.w (hH : ∀ ξ S v, H (upd ξ n v) (updD S n) = H ξ S)
    (h : ∀ (ξ : Nat → Value) (S : Nat → Bool), S n = false → (∀ j ∈ preds af, S j = true) → (∀ k ok, L[k]? = some ok → S k = true → ∀ j ∈ preds ok.after, S j = true) → (∀ k, S k = true → Pf k ξ) → OpW P Γ op ty (rst (slotsOf op) (acc ξ)) (H ξ S) t)
    (k : XSeq P Γ H L K (n + 1) (fun ξ => (d, t) :: acc ξ) (pfX n (fun _ => True) Pf) l) : XSeq P Γ H L K n acc Pf (⟨some d, op, ty, pos, af, none⟩ :: l) := XSeq.cons PvOk.triv (XStep.w hH h) k
theorem XSeq.alloc {T : TypeId} {zs : List Value} [hz : TyZero P T zs] (hH : ∀ (ξ : Nat → Value) (S : Nat → Bool) (b : Nat), S n = false → (∀ k ok, L[k]? = some ok → S k = true → ∀ j ∈ preds ok.after, S j = true) → (H (upd ξ n (.pointer (some ⟨b, 0, none⟩))) (updD S n)).Perm (Chunk.box b T (zs.map Tr.raw) :: H ξ S))
    (k : XSeq P Γ H L K (n + 1) (fun ξ => (d, Tr.raw (ξ n)) :: acc ξ) (pfX n (fun ξ => ∃ b, ξ n = .pointer (some ⟨b, 0, none⟩)) Pf) l) : XSeq P Γ H L K n acc Pf (⟨some d, .alloc T, ty, pos, af, none⟩ :: l) := XSeq.cons (PvOk.own (p := fun v => ∃ b, v = .pointer (some ⟨b, 0, none⟩))) (XStep.alloc hH) k
theorem XSeq.store {T : TypeId} {x y : Operand} {m : Nat} [hT : TySz P T m]
    (h : ∀ (ξ : Nat → Value) (S : Nat → Bool), S n = false → (∀ j ∈ preds af, S j = true) → (∀ k ok, L[k]? = some ok → S k = true → ∀ j ∈ preds ok.after, S j = true) → (∀ k, S k = true → Pf k ξ) →
      ∃ (b o : Nat) (e : TypeId) (ts us : List Tr) (t : Tr) (cf : List Chunk), ev (rst (slotsOf (.store T x y)) (acc ξ)) x = some (.raw (.pointer (some ⟨b, o, none⟩))) ∧ ev (rst (slotsOf (.store T x y)) (acc ξ)) y = some t ∧ RowT t us ∧ (H ξ S).Perm (Chunk.box b e ts :: cf) ∧ us.length = m ∧ o + m ≤ ts.length ∧ (H (upd ξ n undef) (updD S n)).Perm (Chunk.box b e (ts.take o ++ us ++ ts.drop (o + m)) :: cf))
    (k : XSeq P Γ H L K (n + 1) acc (pfX n (fun _ => True) Pf) l) : XSeq P Γ H L K n acc Pf (⟨none, .store T x y, ty, pos, af, none⟩ :: l) := XSeq.cons PvOk.triv (XStep.store h) k
/-- a slot is copied -/
theorem XSeq.copy {m s : Nat} (hm : (preds af).contains m = true) (hH : ∀ ξ S v, H (upd ξ n v) (updD S n) = H ξ S) (hop : op = .move (.tmp s) ∨ op = .assign (.tmp s)) (hl : ∀ ξ, Lg.look (rst (slotsOf op) (acc ξ)) s = some (Tr.raw (ξ m))) (hnm : m ≠ n)
    (k : XSeq P Γ H L K (n + 1) (fun ξ => (d, Tr.raw (ξ n)) :: acc ξ) (pfX n (fun ξ => ξ n = ξ m) Pf) l) : XSeq P Γ H L K n acc Pf (⟨some d, op, ty, pos, af, none⟩ :: l) := by
  refine XSeq.cons (T := Tr.raw) (Pv := fun ξ => ξ n = ξ m) ?_ ?_ k
  · intro ξ k v hk hk2 h
    have hkm : m ≠ k := fun e => hk2 (by subst e; simpa using hm)
    show upd ξ k v n = upd ξ k v m
    rw [upd_ne _ _ (Ne.symm hk), upd_ne _ _ hkm]
    exact h
  · unfold XStep
    intro ξ S h1 h2 h3 h4 a w dd next F hk
    have hv : a.eval (.tmp s) = ξ m := rd_raw (dd.ev (x := .tmp s) (hl ξ))
    have hrun : (execOp a.eval ⟨some d, op, ty, pos, af, none⟩).run P w = .ok (.value (ξ m)) w := by
      rcases hop with rfl | rfl <;> simp [execOp, hv]
    unfold Oper.wp
    rw [hrun]
    refine hk _ _ ?_ (raw_self _) fun env2 d2 => by rw [hH]; exact d2
    show upd ξ n (ξ m) n = upd ξ n (ξ m) m
    rw [upd_same, upd_ne _ _ hnm]
end seqs
end x

section imp
variable {P : Program} {Γ : Ctx} {env env' : Env} {cs cs' cf : List Chunk} {Q : Post}
/-- says no more -/
def Imp (t t' : Tr) : Prop := ∀ w A v, t.rd w A v → t'.rd w A v
inductive ImpL : List Tr → List Tr → Prop
  | nil : ImpL [] []
  | cons {t t' : Tr} {ts ts' : List Tr} (h : Imp t t') (k : ImpL ts ts') : ImpL (t :: ts) (t' :: ts')
theorem Imp.refl {t : Tr} : Imp t t := fun _ _ _ h => h
theorem Imp.nil {k : Nat} : Imp (Tr.raw (.slice none 0 0)) (Tr.sl k []) := by
  intro w A v h
  have := rd_raw h
  subst this
  unfold Tr.sl
  exact ⟨by simp, by simp, none, 0, rfl, by simp, by simp, fun _ => ⟨rfl, rfl⟩, .inl rfl⟩
theorem ImpL.refl : ∀ {ts : List Tr}, ImpL ts ts
  | [] => .nil
  | t :: ts => .cons Imp.refl ImpL.refl
theorem ImpL.len {ts ts' : List Tr} (h : ImpL ts ts') : ts'.length = ts.length := by
  induction h with
  | nil => rfl
  | cons _ _ ih => simp [ih]
theorem ImpL.rd {w : World} {A : Nat → Prop} {ts ts' : List Tr} (h : ImpL ts ts') : ∀ {vs : List Value}, RdC w A ts vs → RdC w A ts' vs := by
  induction h with
  | nil => intro vs h; exact h
  | cons h k ih =>
    intro vs hv
    obtain ⟨v, rest, rfl, h1, h2, h3⟩ := hv
    exact ⟨v, rest, rfl, h _ _ _ h1, h2, ih h3⟩
theorem Imp.agg {ts ts' : List Tr} (h : ImpL ts ts') : Imp (.agg ts) (.agg ts') := by
  intro w A v hv
  unfold Tr.agg at hv ⊢
  obtain ⟨vs, e, hr⟩ := hv
  exact ⟨vs, e, h.rd hr⟩
theorem Imp.sl1 {k : Nat} {row row' : List Tr} (h : ImpL row row') : Imp (.sl k [row]) (.sl k [row']) := by
  intro w A v hv
  obtain ⟨_, _, h2⟩ := open_sl1 (ι := Unit) (k := k) (row := row) (p := fun _ => True) (f := fun _ => row') (fun _ => h.len) (fun w A vs hr => ⟨(), trivial, h.rd hr⟩) w A v hv
  exact h2
theorem Ent.imp {s : Nat} {t t' : Tr} (hl : Lg.look env s = some t) (h : Imp t t') : Ent Γ env cs ((s, t') :: env) cs := by
  unfold Ent
  intro a w d
  refine ⟨d.nodefer, d.tmps, ?_, d.chunks, d.nodup, d.fresh, d.below, d.frame⟩
  intro j u hj
  by_cases e : s = j
  · subst e; rw [look_cons_same] at hj; cases hj; exact h _ _ _ (d.env s t hl)
  · rw [look_cons_ne _ _ e] at hj; exact d.env j u hj
theorem Ent.imp_box {b : Nat} {e : TypeId} {ts ts' : List Tr} (hp : cs.Perm (Chunk.box b e ts :: cf)) (h : ImpL ts ts') : Ent Γ env cs env (Chunk.box b e ts' :: cf) := by
  unfold Ent
  intro a w d
  have d := d.perm hp
  refine d.swapc (by simp only [fps, List.flatMap_cons]; unfold Chunk.box; rfl) ?_
  intro c hc
  rcases List.mem_cons.1 hc with rfl | hc
  · have := d.chunks (Chunk.box b e ts) (by simp)
    generalize av Γ.M (Chunk.box b e ts :: cf) = A at *
    unfold Chunk.box at this ⊢
    obtain ⟨c, h1, h2⟩ := this
    exact ⟨c, h1, h.rd h2⟩
  · exact d.chunks c (List.mem_cons_of_mem _ hc)
end imp
end Lg
end
section
set_option linter.all false
namespace Lg
open Go
section x2
variable {P : Program} {Γ : Ctx} {env : Env} {cs cf : List Chunk} {H : (Nat → Value) → (Nat → Bool) → List Chunk} {L : List Oper} {K : Env → List Chunk → Prop} {n : Nat} {l : List Oper}
variable {Pf : Nat → (Nat → Value) → Prop} {d : Nat} {op : Op} {ty : TypeId} {pos : String} {af : Array Edge} {acc : (Nat → Value) → Env} {t t' : Tr}

def b2n : Bool → Nat
  | true => 1
  | false => 0
/-- a call that takes numbers off the stream -/
theorem XSeq.callG {st f c b : Nat} {args : List Tr} {post : Tr → Prop} {ol : List Operand} {ts : Array TypeId} {xs : List Int} (hg : Gen P st f args c post)
    (ha : ∀ ξ, Evs (rst (slotsOf (.call ⟨.value (.func f), ol.toArray, ts⟩)) (acc ξ)) ol (Tr.ptr b :: args)) (ht : ∀ r, post r → Imp r t)
    (hH : ∀ (ξ : Nat → Value) (S : Nat → Bool), S n = false → (∀ k ok, L[k]? = some ok → S k = true → ∀ j ∈ preds ok.after, S j = true) → ∃ N cf, N + c ≤ 1000000000000 ∧ (H ξ S).Perm (Chunk.strm st b (intRows xs) N :: cf) ∧ ∀ v, (H (upd ξ n v) (updD S n)).Perm (Chunk.strm st b (intRows xs) (N + c) :: cf))
    (k : XSeq P Γ H L K (n + 1) (fun ξ => (d, t) :: acc ξ) (pfX n (fun _ => True) Pf) l) : XSeq P Γ H L K n acc Pf (⟨some d, .call ⟨.value (.func f), ol.toArray, ts⟩, ty, pos, af, none⟩ :: l) := by
  refine XSeq.cons (T := fun _ => t) (Pv := fun _ => True) PvOk.triv ?_ k
  unfold XStep
  intro ξ S h1 h2 h3 h4 a w dd next F hk
  unfold Gen at hg
  obtain ⟨N, cf, hN, hp, hp2⟩ := hH ξ S h1 h3
  have hs := hg b xs N hN
  have hcc := call_core2 (cf := cf) hs dd hp ((ha ξ).rd dd)
  have hrun : (execOp a.eval ⟨some d, .call ⟨.value (.func f), ol.toArray, ts⟩, ty, pos, af, none⟩).run P w = .ok (.enter f (ol.map a.eval).toArray) w := by
    unfold Spec at hs
    have := hs.1 (ol.map a.eval).toArray w
    simp [execOp, resolve, invoke, Deferred.ofValue, Act.eval, this]
  unfold Oper.wp
  rw [hrun]
  refine hcc.mono ?_
  rintro e w' ⟨v, r, cs', rfl, ⟨rfl, hpo⟩, hrd, hd⟩
  refine hk _ _ trivial (ht r hpo _ _ _ ?_) fun env2 h2 => (hd env2 h2).perm (hp2 v).symm
  rw [av_perm (hp2 v)]
  exact hrd

/-- an owned slice grows -/
theorem XSeq.append {E kk bb z T} [hS : TySl P T E kk bb z] {x y : Operand} (mm : Nat)
    (h : ∀ (ξ : Nat → Value) (S : Nat → Bool), S n = false → (∀ j ∈ preds af, S j = true) → (∀ k ok, L[k]? = some ok → S k = true → ∀ j ∈ preds ok.after, S j = true) → (∀ k, S k = true → Pf k ξ) →
      ∃ (ad : Option Addr) (m cap : Nat) (rows rows2 : List (List Tr)) (cf : List Chunk), ev (rst (slotsOf (.call ⟨.builtin .append, #[x, y], #[T, T]⟩)) (acc ξ)) x = some (.raw (.slice ad m cap)) ∧ ev (rst (slotsOf (.call ⟨.builtin .append, #[x, y], #[T, T]⟩)) (acc ξ)) y = some (.sl kk rows2) ∧
        (H ξ S).Perm (Chunk.own ad cap kk E rows :: cf) ∧ m = rows.length ∧ rows.length + rows2.length = mm ∧ (rows.length + rows2.length) * bb ≤ 140737488355328 ∧ rows.length + rows2.length ≤ 9223372036854775807 ∧ ∀ ad' cap', (H (upd ξ n (.slice ad' (rows ++ rows2).length cap')) (updD S n)).Perm (Chunk.own ad' cap' kk E (rows ++ rows2) :: cf))
    (k : XSeq P Γ H L K (n + 1) (fun ξ => (d, Tr.raw (ξ n)) :: acc ξ) (pfX n (fun ξ => ∃ ad cap, ξ n = .slice ad mm cap) Pf) l) : XSeq P Γ H L K n acc Pf (⟨some d, .call ⟨.builtin .append, #[x, y], #[T, T]⟩, ty, pos, af, none⟩ :: l) := by
  refine XSeq.cons (T := Tr.raw) (Pv := fun ξ => ∃ ad cap, ξ n = .slice ad mm cap) (PvOk.own (p := fun v => ∃ ad cap, v = .slice ad mm cap)) ?_ k
  unfold XStep
  intro ξ S h1 h2 h3 h4 a w dd next F hk
  obtain ⟨ad, m, cap, rows, rows2, cf, hx, hy, hp, hn, hmm, hb, hm, hq⟩ := h ξ S h1 h2 h3 h4
  subst hn
  have hv := rd_raw (dd.ev hx)
  have d' := dd.perm hp
  have hys := dd.ev hy
  have hown0 := d'.has (List.Perm.refl _)
  have hav := av_perm hp Γ.M
  rw [hav] at hys
  generalize hA : av Γ.M (Chunk.own ad cap kk E rows :: cf) = A at hys hown0
  unfold Tr.sl at hys
  obtain ⟨hk2, hl2, ad2, cap2, hv2, g1, g2, g3, g4⟩ := hys
  unfold Chunk.own at hown0
  obtain ⟨hk0, xs, hown, hrd⟩ := hown0
  obtain ⟨ti, zv, hi1, hi2, hi3, hi4, hi5, hi6⟩ := hS.hE
  have hzs : zv.cells.size = kk := hS.hz _ _ hi1 hi2
  have hm' : rows.length + rows2.length ≤ maxLen := by simp only [maxLen]; omega
  have key : ∃ v' w', (Builtin.append_ #[T, T] ty #[.slice ad rows.length cap, .slice ad2 rows2.length cap2]).run P w = .ok v' w' ∧ ∃ news, RdC w A rows2.flatten news ∧
      w'.ownsRow 0 E kk v' (rows.length + rows2.length) (xs ++ news) ∧ w.grownBy w' (Value.ownBlock (.slice ad rows.length cap)) ∧ (∀ b, v'.ownBlock = some b → (Value.ownBlock (.slice ad rows.length cap)) = some b ∨ w.heap.size ≤ b) := by
    rcases g4 with g4 | ⟨b, off, rfl, hc⟩
    · subst g4
      cases ad2 with
      | none =>
        obtain ⟨_, rfl⟩ := g3 rfl
        exact ⟨_, w, run_append_owned_none (P := P) w 0 T ty E ti kk hS.hT hi1 _ _ xs hown, [], rfl, by simpa using hown, ⟨rfl, rfl, rfl, Nat.le_refl _, fun _ _ _ => rfl⟩, fun b hb => .inl hb⟩
      | some a2 =>
        obtain ⟨v', w', h1, h2, h3, h4⟩ := append_run (P := P) (ty := ty) (a := a2) (m := 0) (c := cap2) (news := []) hS.hT hi1 hi2 hi4 hi5 hzs hi6 hown (by simp) (by simp) (by simp) (by simpa using hm') (by simpa using hb)
        exact ⟨v', w', h1, [], rfl, h2, h3, h4⟩
    · obtain ⟨vs, hvs, hcell⟩ := rdc_at hc
      obtain ⟨v', w', h1, h2, h3, h4⟩ := append_run (P := P) (ty := ty) (a := ⟨b, off, none⟩) (m := rows2.length) (c := cap2) (news := vs) hS.hT hi1 hi2 hi4 hi5 hzs hi6 hown (by rw [hvs.length]; exact flat_len hk2) hcell hvs.one hm' hb
      exact ⟨v', w', h1, vs, hvs, h2, h3, h4⟩
  obtain ⟨v', w', hrun, news, hnews, hown', hgr, hfresh⟩ := key
  have hform : ∃ ad' cap', v' = .slice ad' (rows ++ rows2).length cap' := by
    rcases hown'.2 with ⟨e, h0⟩ | ⟨g, c, cur, e, _⟩
    · exact ⟨none, 0, by rw [e, List.length_append, h0]⟩
    · exact ⟨_, c, by rw [e, List.length_append]⟩
  obtain ⟨ad', cap', rfl⟩ := hform
  have hx2 : (execOp a.eval ⟨some d, .call ⟨.builtin .append, #[x, y], #[T, T]⟩, ty, pos, af, none⟩).run P w = .ok (.value (.slice ad' (rows ++ rows2).length cap')) w' := by simp [execOp, resolve, invoke, builtin, hv, hv2, hrun] <;> rfl
  unfold Oper.wp
  rw [hx2]
  refine hk _ _ ⟨ad', cap', by rw [upd_same, List.length_append, hmm]⟩ (raw_self _) fun env2 d2 => Den.perm ?_ (hq ad' cap').symm
  refine (d2.perm hp).turnF (c' := Chunk.own ad' cap' kk E (rows ++ rows2)) ?_ ?_ ?_ ?_
  · intro b hb
    have hb' : Value.ownBlock (.slice ad' (rows ++ rows2).length cap') = some b := by unfold Chunk.own at hb; simpa using hb
    rcases hfresh b hb' with h | h
    · exact .inl (by unfold Chunk.own; simpa using h)
    · exact .inr ⟨h, (hown'.lt b hb').2⟩
  · have : (Chunk.own ad' cap' kk E (rows ++ rows2)).fp = (Value.ownBlock (.slice ad' (rows ++ rows2).length cap')).toList := by unfold Chunk.own; rfl
    rw [this]
    cases Value.ownBlock (.slice ad' (rows ++ rows2).length cap') <;> simp
  · exact ⟨hgr.os, hgr.tape, hgr.output, hgr.size, fun b hb hn => hgr.block b hb fun e => hn (by unfold Chunk.own; simp [← e])⟩
  · intro hs _
    rw [hA] at hs
    generalize av Γ.M (Chunk.own ad' cap' kk E (rows ++ rows2) :: cf) = A' at hs ⊢
    unfold Chunk.own
    refine ⟨?_, xs ++ news, by simpa using hown', ?_⟩
    · intro r hr
      rcases List.mem_append.1 hr with h | h
      · exact hk0 r h
      · exact hk2 r h
    · rw [List.flatten_append]
      exact (hrd.mono hs).app (hnews.mono hs)

/-! ### one of some trees -/
def Tr.anyOf (ts : List Tr) : Tr := ⟨fun w A v => ∃ t ∈ ts, t.rd w A v, fun h ⟨t, ht, hr⟩ => ⟨t, ht, t.mono h hr⟩⟩
theorem Imp.any_of {t : Tr} {ts : List Tr} (h : t ∈ ts) : Imp t (Tr.anyOf ts) := fun w A v hr => ⟨t, h, hr⟩
theorem OpV.imp (h : OpV P Γ op ty env cs t) (hi : Imp t t') : OpV P Γ op ty env cs t' := by
  unfold OpV at h ⊢
  intro a w d
  obtain ⟨v, h1, h2⟩ := h a w d
  exact ⟨v, h1, hi _ _ _ h2⟩
theorem OpV.openS {ι : Type} {s : Nat} {u : Tr} {p : ι → Prop} {f : ι → Tr} (hl : look env s = some u) (ho : ∀ w A v, u.rd w A v → ∃ x, p x ∧ (f x).rd w A v) (h : ∀ x, p x → OpV P Γ op ty ((s, f x) :: env) cs t) : OpV P Γ op ty env cs t := by
  unfold OpV at h ⊢
  intro a w d
  obtain ⟨x, hp, hx⟩ := ho w _ _ (d.env s u hl)
  refine h x hp a w ⟨d.nodefer, d.tmps, ?_, d.chunks, d.nodup, d.fresh, d.below, d.frame⟩
  intro j u hj
  by_cases e : s = j
  · subst e; rw [look_cons_same] at hj; cases hj; exact hx
  · rw [look_cons_ne _ _ e] at hj; exact d.env j u hj
theorem open_intS {p : Int → Prop} : ∀ w A v, (Tr.intS p).rd w A v → ∃ x, p x ∧ (Tr.int x).rd w A v := by
  rintro w A v ⟨n, rfl, h⟩
  exact ⟨n, h, raw_self _⟩
theorem open_strS {p : ByteArray → Prop} : ∀ w A v, (Tr.strS p).rd w A v → ∃ x, p x ∧ (Tr.str x).rd w A v := by
  rintro w A v ⟨n, rfl, h⟩
  exact ⟨n, h, raw_self _⟩
theorem open_anyOf {ts : List Tr} : ∀ w A v, (Tr.anyOf ts).rd w A v → ∃ t, t ∈ ts ∧ t.rd w A v := by
  rintro w A v ⟨t, h, hr⟩
  exact ⟨t, h, hr⟩
theorem OneT.anyOf {ts : List Tr} (h : ∀ t ∈ ts, OneT t) : OneT (Tr.anyOf ts) := ⟨fun w A v ⟨t, ht, hr⟩ => (h t ht).h w A v hr⟩
theorem Imp.intS {x : Int} {p : Int → Prop} (h : p x) : Imp (Tr.int x) (Tr.intS p) := fun w A v hr => ⟨x, rd_raw hr, h⟩
theorem Imp.strS {x : ByteArray} {p : ByteArray → Prop} (h : p x) : Imp (Tr.str x) (Tr.strS p) := fun w A v hr => ⟨x, rd_raw hr, h⟩
/-- a tree of a kind -/
def Tr.exS {ι : Type} (p : ι → Prop) (f : ι → Tr) : Tr := ⟨fun w A v => ∃ x, p x ∧ (f x).rd w A v, fun h ⟨x, hp, hr⟩ => ⟨x, hp, (f x).mono h hr⟩⟩
theorem Imp.exS {ι : Type} {p : ι → Prop} {f : ι → Tr} {x : ι} (h : p x) : Imp (f x) (Tr.exS p f) := fun w A v hr => ⟨x, h, hr⟩
theorem open_exS {ι : Type} {p : ι → Prop} {f : ι → Tr} : ∀ w A v, (Tr.exS p f).rd w A v → ∃ x, p x ∧ (f x).rd w A v := fun w A v h => h
theorem OneT.exS {ι : Type} {p : ι → Prop} {f : ι → Tr} (h : ∀ x, OneT (f x)) : OneT (Tr.exS p f) := ⟨fun w A v ⟨x, _, hr⟩ => (h x).h w A v hr⟩
theorem Cw.open_slot {ι : Type} {c : Code} {Q : Post} {i : Nat} {p : ι → Prop} {f : ι → Tr} (hl : look env i = some t) (ho : ∀ w A v, t.rd w A v → ∃ x, p x ∧ (f x).rd w A v) (k : ∀ x, p x → Cw P Γ c ((i, f x) :: env) cs Q) : Cw P Γ c env cs Q := by
  unfold Cw
  intro a w d
  obtain ⟨x, hp, hx⟩ := ho w _ _ (d.env i t hl)
  have h := k x hp
  unfold Cw at h
  refine h a w ⟨d.nodefer, d.tmps, ?_, d.chunks, d.nodup, d.fresh, d.below, d.frame⟩
  intro j u hj
  by_cases e : i = j
  · subst e; rw [look_cons_same] at hj; cases hj; exact hx
  · rw [look_cons_ne _ _ e] at hj; exact d.env j u hj
theorem OpV.leqS_is {x y : Operand} {s u : ByteArray} {T T2 : TypeId} {b : Bool} (hx : ev env x = some (.str s)) (hy : ev env y = some (.str u)) (h : (strLt s u || decide (s = u)) = b) : OpV P Γ (.binOp .leq T x y T2) ty env cs (.bool b) := by
  have := OpV.leqS (P := P) (Γ := Γ) (T := T) (T2 := T2) (ty := ty) (cs := cs) hx hy
  rwa [h] at this
theorem b2n_le (b : Bool) : b2n b ≤ 1 := by cases b <;> decide
theorem perm_strm {st bs a c : Nat} {rows : List (List Tr)} (h : a = c) : (Chunk.strm st bs rows a :: cf).Perm (Chunk.strm st bs rows c :: cf) := by rw [h]
/-- what a variable holds is looked at more closely -/
theorem Cw.open_box {ι : Type} {c : Code} {Q : Post} {b : Nat} {e : TypeId} {ts : List Tr} {p : ι → Prop} {f : ι → List Tr} (hp : cs.Perm (Chunk.box b e ts :: cf)) (ho : ∀ w A vs, RdC w A ts vs → ∃ x, p x ∧ RdC w A (f x) vs)
    (k : ∀ x, p x → Cw P Γ c env (Chunk.box b e (f x) :: cf) Q) : Cw P Γ c env cs Q := by
  unfold Cw
  intro a w d
  have d := d.perm hp
  have hb := d.chunks (Chunk.box b e ts) (by simp)
  have hx : ∃ x, p x ∧ (Chunk.box b e (f x)).holds w (av Γ.M (Chunk.box b e ts :: cf)) := by
    generalize av Γ.M (Chunk.box b e ts :: cf) = A at *
    unfold Chunk.box at hb ⊢
    obtain ⟨c, h1, h2⟩ := hb
    obtain ⟨x, h3, h4⟩ := ho w A _ h2
    exact ⟨x, h3, c, h1, h4⟩
  obtain ⟨x, h1, h2⟩ := hx
  have h := k x h1
  unfold Cw at h
  refine h a w (d.swapc (by simp only [fps, List.flatMap_cons]; unfold Chunk.box; rfl) ?_)
  intro c hc
  rcases List.mem_cons.1 hc with rfl | hc
  · exact h2
  · exact d.chunks c (List.mem_cons_of_mem _ hc)
/-- what the last row of an owned slice holds is looked at more closely -/
theorem Cw.open_own {ι : Type} {c : Code} {Q : Post} {ad : Option Addr} {cap k : Nat} {e : TypeId} {rows : List (List Tr)} {ts : List Tr} {p : ι → Prop} {f : ι → List Tr} (hp : cs.Perm (Chunk.own ad cap k e (rows ++ [ts]) :: cf)) (hf : ∀ x, (f x).length = ts.length) (ho : ∀ w A vs, RdC w A ts vs → ∃ x, p x ∧ RdC w A (f x) vs)
    (kk : ∀ x, p x → Cw P Γ c env (Chunk.own ad cap k e (rows ++ [f x]) :: cf) Q) : Cw P Γ c env cs Q := by
  unfold Cw
  intro a w d
  have d := d.perm hp
  have hb := d.chunks (Chunk.own ad cap k e (rows ++ [ts])) (by simp)
  have hx : ∃ x, p x ∧ (Chunk.own ad cap k e (rows ++ [f x])).holds w (av Γ.M (Chunk.own ad cap k e (rows ++ [ts]) :: cf)) := by
    generalize av Γ.M (Chunk.own ad cap k e (rows ++ [ts]) :: cf) = A at *
    unfold Chunk.own at hb ⊢
    obtain ⟨hk, xs, h1, h2⟩ := hb
    rw [List.flatten_append] at h2
    have hs := RdC.split h2
    have h3 := hs.2
    simp only [List.flatten_cons, List.flatten_nil, List.append_nil] at h3
    obtain ⟨x, hpx, h4⟩ := ho w A _ h3
    refine ⟨x, hpx, ?_, xs, ?_, ?_⟩
    · intro r hr
      rcases List.mem_append.1 hr with h | h
      · exact hk r (List.mem_append_left _ h)
      · rw [List.mem_singleton.1 h, hf x]; exact hk ts (List.mem_append_right _ (by simp))
    · simpa using h1
    · rw [List.flatten_append]
      have h6 : RdC w A [f x].flatten (xs.drop rows.flatten.length) := by rw [show [f x].flatten = f x by simp]; exact h4
      have h5 := RdC.app hs.1 h6
      rwa [List.take_append_drop] at h5
  obtain ⟨x, h1, h2⟩ := hx
  have h := kk x h1
  unfold Cw at h
  refine h a w (d.swapc (by simp only [fps, List.flatMap_cons]; unfold Chunk.own; simp) ?_)
  intro c hc
  rcases List.mem_cons.1 hc with rfl | hc
  · exact h2
  · exact d.chunks c (List.mem_cons_of_mem _ hc)
/-- numbers of which no more is said -/
def repI (n : Nat) : List (List Tr) := List.replicate n [Tr.intS fun _ => True]
theorem repI_succ (n : Nat) : repI n ++ [[Tr.intS fun _ => True]] = repI (n + 1) := by unfold repI; rw [List.replicate_succ']
theorem repI_len (n : Nat) : (repI n).length = n := by unfold repI; simp
theorem rdc_repI {w : World} {A : Nat → Prop} : ∀ (n : Nat) {vs : List Value}, RdC w A (repI n).flatten vs → ∃ xs : List Int, xs.length = n ∧ RdC w A (intRows xs).flatten vs
  | 0, vs, h => ⟨[], rfl, by simpa [repI, intRows] using h⟩
  | n + 1, vs, h => by
    have h : RdC w A (Tr.intS (fun _ => True) :: (repI n).flatten) vs := by simpa [repI, List.replicate_succ] using h
    obtain ⟨x, _, rest, rfl, h2⟩ := rdc_intS h
    obtain ⟨xs, hxs, h3⟩ := rdc_repI n h2
    exact ⟨x :: xs, by simp [hxs], by
      have : (intRows (x :: xs)).flatten = Tr.int x :: (intRows xs).flatten := by simp [intRows]
      rw [this]
      exact rdc_rawv rfl h3⟩
theorem open_repI {n : Nat} : ∀ w A v, (Tr.sl 1 (repI n)).rd w A v → ∃ xs : List Int, xs.length = n ∧ (Tr.ints xs).rd w A v := by
  intro w A v h
  unfold Tr.sl at h
  obtain ⟨hk, hl, a, cap, hv, h1, h2, h3, h4⟩ := h
  rw [repI_len] at hl hv h1
  rcases h4 with h4 | ⟨b, off, ha, hA, c, e, fz, hb, hr⟩
  · have hn : n = 0 := by have := congrArg List.length h4; rw [repI_len] at this; simpa using this
    subst hn
    refine ⟨[], rfl, ?_⟩
    unfold Tr.ints Tr.sl
    exact ⟨by simp [intRows], by simp [intRows], a, cap, by rw [hv]; simp [intRows], by simp [intRows], h2, fun h => ⟨rfl, (h3 h).2⟩, .inl rfl⟩
  · have hlen : (repI n).flatten.length = n := by simp [repI]
    rw [hlen] at hr
    obtain ⟨xs, hxs, h5⟩ := rdc_repI n hr
    refine ⟨xs, hxs, ?_⟩
    have hxl : (intRows xs).length = n := by rw [intRows_len, hxs]
    have hfl : (intRows xs).flatten.length = n := by
      rw [flat_len (kk := 1) (by intro r hr2; simp only [intRows, List.mem_map] at hr2; obtain ⟨x, _, rfl⟩ := hr2; rfl), hxl]; omega
    unfold Tr.ints Tr.sl
    refine ⟨?_, by rw [hxl]; exact hl, a, cap, by rw [hxl]; exact hv, by rw [hxl]; exact h1, h2, ?_, .inr ⟨b, off, ha, hA, c, e, fz, hb, by rw [hfl]; exact h5⟩⟩
    · intro r hr2
      simp only [intRows, List.mem_map] at hr2
      obtain ⟨x, _, rfl⟩ := hr2
      rfl
    · intro h
      rw [ha] at h
      cases h
theorem rdc_open {ι : Type} {w : World} {A : Nat → Prop} {t : Tr} {ts : List Tr} {vs : List Value} {p : ι → Prop} {f : ι → Tr} (h : RdC w A (t :: ts) vs) (ho : ∀ w A v, t.rd w A v → ∃ x, p x ∧ (f x).rd w A v) : ∃ x, p x ∧ RdC w A (f x :: ts) vs := by
  obtain ⟨v, rest, rfl, hr, h1, h2⟩ := h
  obtain ⟨x, hp, hx⟩ := ho w A v hr
  exact ⟨x, hp, v, rest, rfl, hx, h1, h2⟩
theorem rdc_tail_open {ι : Type} {w : World} {A : Nat → Prop} {t : Tr} {ts : List Tr} {vs : List Value} {p : ι → Prop} {f : ι → List Tr} (h : RdC w A (t :: ts) vs) (ho : ∀ vs, RdC w A ts vs → ∃ x, p x ∧ RdC w A (f x) vs) : ∃ x, p x ∧ RdC w A (t :: f x) vs := by
  obtain ⟨v, rest, rfl, hr, h1, h2⟩ := h
  obtain ⟨x, hp, hx⟩ := ho _ h2
  exact ⟨x, hp, v, rest, rfl, hr, h1, hx⟩
theorem rdc_anyOf {w : World} {A : Nat → Prop} {us : List Tr} {ts : List Tr} {vs : List Value} (h : RdC w A (Tr.anyOf us :: ts) vs) : ∃ t, t ∈ us ∧ RdC w A (t :: ts) vs := by
  obtain ⟨v, rest, rfl, ⟨t, ht, hr⟩, h1, h2⟩ := h
  exact ⟨t, ht, v, rest, rfl, hr, h1, h2⟩
theorem rdc_str {w : World} {A : Nat → Prop} {p : ByteArray → Prop} {ts : List Tr} {vs : List Value} (h : RdC w A (Tr.strS p :: ts) vs) : ∃ n, p n ∧ ∃ rest, vs = .string n :: rest ∧ RdC w A ts rest := rdc_strS h
theorem rdc_imp {w : World} {A : Nat → Prop} {t t' : Tr} {ts : List Tr} {vs : List Value} (h : RdC w A (t :: ts) vs) (hi : Imp t t') : RdC w A (t' :: ts) vs := by
  obtain ⟨v, rest, rfl, hr, h1, h2⟩ := h
  exact ⟨v, rest, rfl, hi _ _ _ hr, h1, h2⟩
theorem rdc_tail {w : World} {A : Nat → Prop} {t : Tr} {ts ts' : List Tr} {vs : List Value} (h : RdC w A (t :: ts) vs) (hi : ∀ vs, RdC w A ts vs → RdC w A ts' vs) : RdC w A (t :: ts') vs := by
  obtain ⟨v, rest, rfl, hr, h1, h2⟩ := h
  exact ⟨v, rest, rfl, hr, h1, hi _ h2⟩
end x2
attribute [irreducible] Tr.anyOf Tr.exS
end Lg
end
