/- A part of the proof of a law of this seat: it adds no condition. By an AI agent. -/
import Derived.Calls
import Derived.RunT
import Derived.Lone
import Derived.Laws.Strings2
import Derived.Below
import Derived.Test.YthgcdnfhfejijaaGreatDoorCore
section
set_option linter.all false
namespace Lg
open Go

/-! ### regions whose order is open, in which calls take numbers off the stream: the memory's state is one of a row of states that say less and less -/
section drawH
variable {P : Program} {Γ : Ctx} {env env' base : Env} {cs cs' cf : List Chunk} {Q : Post} {H : Nat → List Chunk} {C B : Nat}

theorem tr_any_self {w : World} {A : Nat → Prop} {v : Value} : Tr.any.rd w A v := by unfold Tr.any; trivial
theorem raw_self' {w : World} {A : Nat → Prop} (v : Value) : (Tr.raw v).rd w A v := by unfold Tr.raw; rfl
/-- an operation of such a region: it may move the memory on by at most C -/
def OpH (P : Program) (Γ : Ctx) (op : Op) (ty : TypeId) (env : Env) (H : Nat → List Chunk) (C B : Nat) (t : Tr) : Prop :=
 ∀ (k : Nat), k + C ≤ B → ∀ (a : Act) (w : World), Den Γ env (H k) a w → ∀ (d : Nat) (pos : String) (af : Array Edge) (g : Option (Nat × Bool)) (next : Act → World → Prop) (F : Exit → Act → World → Prop),
  (∀ v w', t.rd w' (av Γ.M (H 0)) v → (∀ env2, Den Γ env2 (H k) a w → Den Γ env2 (H (k + C)) a w') → next (a.put (some d) v) w') → Oper.wpIn (fen Γ) 9 P ⟨some d, op, ty, pos, af, g⟩ a w next F

theorem OpH.ent {op : Op} {ty : TypeId} {t : Tr} (h : OpH P Γ op ty env H C B t) (he : ∀ k a w, Den Γ env' (H k) a w → Den Γ env (H k) a w) : OpH P Γ op ty env' H C B t :=
 fun k hk a w dd => h k hk a w (he k a w dd)

/-- a row of states -/
structure Row (Γ : Ctx) (H : Nat → List Chunk) : Prop where
 av : ∀ k, av Γ.M (H k) = av Γ.M (H 0)
 mono : ∀ k k', k ≤ k' → ∀ env a w, Den Γ env (H k) a w → Den Γ env (H k') a w

theorem OpW.h {op : Op} {ty : TypeId} {t : Tr} (hR : Row Γ H) (h : ∀ k, OpW P Γ op ty env (H k) t) : OpH P Γ op ty env H C B t := by
 unfold OpW at h
 intro k hk a w dd d pos af g next F hn
 refine h k a w dd d pos af g next F fun v w' hr hp => hn v w' ?_ fun env2 h2 => hR.mono k (k + C) (by omega) env2 a w' (hp env2 h2)
 rw [← hR.av k]
 exact hr

/-- what an operation of such a region comes to -/
def PStepH (P : Program) (Γ : Ctx) (H : Nat → List Chunk) (C B : Nat) (ds : List Nat) (env : Env) (done : List (Nat × POp)) (p : POp) : Prop :=
 (GOk done p ∧ OpH P Γ p.op p.ty (envAt done p.af ds env) H C B p.t) ∨ (GNo done p ∧ p.t = Tr.raw undef)

/-- from a list of operations on; acc: the slots as in the order of the text -/
def PRunH (P : Program) (Γ : Ctx) (H : Nat → List Chunk) (C B : Nat) (L : List Oper) (env : Env) (K : Env → Prop) : Nat → List (Nat × POp) → Env → List Oper → Prop
 |_, _, acc, [] => K acc
 |n, done, acc, o :: l => ∃ p : POp, p.oper = o ∧ PStepH P Γ H C B (others n 0 L) env done p ∧ PRunH P Γ H C B L env K (n + 1) ((n, p) :: done) ((p.dst, p.t) :: acc) l

section prun
variable {L : List Oper} {K : Env → Prop} {n : Nat} {done : List (Nat × POp)} {acc : Env} {d : Nat} {op : Op} {ty : TypeId} {pos : String} {af : Array Edge} {l : List Oper} {t : Tr}
end prun

theorem PRunH.out {L : List Oper} {K : Env → Prop} : ∀ {l : List Oper} {n : Nat} {done : List (Nat × POp)} {acc : Env} {pre : List POp}, pre.length = n → Numbered pre n done → acc = (pre.map fun o => (o.dst, o.t)).reverse ++ env → PRunH P Γ H C B L env K n done acc l →
  ∃ all : List POp, pre <+: all ∧ (all.drop n).map POp.oper = l ∧ K ((all.map fun o => (o.dst, o.t)).reverse ++ env) ∧
   ∀ i, n ≤ i → ∀ o, all[i]? = some o → ∃ done, Numbered all i done ∧ PStepH P Γ H C B (others i 0 L) env done o
 |[], n, done, acc, pre, hn, _, hacc, h => ⟨pre, List.prefix_refl _, by rw [← hn]; simp, by rw [← hacc]; exact h, fun i hi o ho => by rw [List.getElem?_eq_none (by omega)] at ho; cases ho⟩
 |o :: l, n, done, acc, pre, hn, hd, hacc, ⟨p, hp, hv, hk⟩ => by
  have hd' : Numbered (pre ++ [p]) (n + 1) ((n, p) :: done) := by
   intro j q hq
   rcases getP_cons hq with ⟨rfl, rfl⟩ | hq
   ·exact ⟨by omega, by rw [List.getElem?_append_right (by omega)]; simp [hn]⟩
   ·obtain ⟨h1, h2⟩ := hd j q hq
    exact ⟨by omega, by rw [List.getElem?_append_left (by omega)]; exact h2⟩
  obtain ⟨all, h1, h2, h3, h4⟩ := PRunH.out (pre := pre ++ [p]) (by simp [hn]) hd' (by rw [hacc]; simp) hk
  have hat : all[n]? = some p := by
   obtain ⟨r, rfl⟩ := h1
   rw [List.getElem?_append_left (by simp; omega), List.getElem?_append_right (by omega)]
   simp [hn]
  have hlt : n < all.length := (List.getElem?_eq_some_iff.1 hat).1
  refine ⟨all, (List.prefix_append pre [p]).trans h1, ?_, h3, ?_⟩
  ·rw [List.drop_eq_getElem_cons hlt, List.map_cons, h2]
   have : all[n] = p := (List.getElem?_eq_some_iff.1 hat).2
   rw [this, hp]
  ·intro i hi q hq
   by_cases e : i = n
   ·subst e
    rw [hat] at hq
    cases hq
    refine ⟨done, ?_, hv⟩
    intro j r hr
    obtain ⟨g1, g2⟩ := hd j r hr
    refine ⟨g1, ?_⟩
    obtain ⟨x, rfl⟩ := (List.prefix_append pre [p]).trans h1
    rw [List.getElem?_append_left (by omega)]
    exact g2
   ·exact h4 i (by omega) q hq

/-- the state while such a region is under way -/
structure MidH (P : Program) (Γ : Ctx) (H : Nat → List Chunk) (C : Nat) (env : Env) (all : List POp) (tot : Nat) (listed : Array Bool) (a : Act) (w : World) : Prop where
 den : Den Γ [] (H (C * (tot - (listed.toList.filter (! ·)).length))) a w
 size : listed.size = tot
 keep : ∀ s t, look env s = some t → (∀ (k : Nat) o, all[k]? = some o → o.dst = s → listed[k]? ≠ some true) → t.rd w (av Γ.M (H 0)) (a.tmps.getD s undef)
 done : ∀ (i : Nat) o, listed[i]? = some true → all[i]? = some o → o.t.rd w (av Γ.M (H 0)) (a.tmps.getD o.dst undef)
 closed : ∀ (k : Nat) o, listed[k]? = some true → all[k]? = some o → ∀ j ∈ preds o.af, listed[j]? = some true
 tail : ∀ k : Nat, all.length ≤ k → listed[k]? ≠ some true

theorem Cw.region_atH {id m : Nat} {l : List Oper} {env : Env} (hA : ∀ k, av Γ.M (H k) = av Γ.M (H 0)) (hM : ∀ k k', k ≤ k' → ∀ env a w, Den Γ env (H k) a w → Den Γ env (H k') a w) (hB : B = C * l.length) (hml : m ≤ l.length) (hm : P.follows .mixedOrders = true) (hb : backOk l = true) (hnd : nodupB (dsts (l.take m)) = true) (hlt : (dsts (l.take m)).all (Nat.blt · Γ.n) = true) (htl : tailOk l m = true)
  (h : PRunH P Γ H C B l env (fun acc => Ops P Γ l.toArray (l.drop m) acc (H (C * m)) Q) 0 [] env (l.take m)) : Cw P Γ (.region id l.toArray true) env (H 0) Q := by
 unfold Cw
 intro a w d
 obtain ⟨all, h1, h2, h3, h4⟩ := PRunH.out (pre := []) rfl (fun j p h => by simp [getP] at h) rfl h
 replace h2 : all.map POp.oper = l.take m := by simpa using h2
 replace h4 := fun (i : Nat) => h4 i (Nat.zero_le i)
 have hal : all.length = m := by
  have := congrArg List.length h2
  simp at this
  omega
 have hget : ∀ (i : Nat) o, all[i]? = some o → l[i]? = some o.oper := fun i o ho => by
  have hi := (List.getElem?_eq_some_iff.1 ho).1
  have : (all.map POp.oper)[i]? = some o.oper := by simp [ho]
  rw [h2, List.getElem?_take] at this
  split at this
  ·exact this
  ·cases this
 have hdst : dsts (l.take m) = all.map (·.dst) := by
  rw [← h2]
  simp only [dsts, List.filterMap_map]
  clear h1 h2 h3 h4 hget hal
  induction all with
  |nil => rfl
  |cons o all ih => simp [POp.oper]; exact ih
 have hnodup := nodupB_iff hnd
 rw [hdst] at hnodup
 have hltn : ∀ o ∈ all, o.dst < Γ.n := fun o ho => by
  rw [hdst] at hlt
  have := List.all_eq_true.1 hlt o.dst (List.mem_map_of_mem ho)
  simpa [Nat.blt_eq] using this
 have hback : ∀ (i : Nat) o, l[i]? = some o → ∀ j ∈ preds o.after, j < i := by
  intro i o ho j hj
  obtain ⟨e, he, hbd, rfl⟩ := mem_preds.1 hj
  have := backFrom_at (k := 0) (i := i) (o := o) hb ho e he hbd
  omega
 have htail : ∀ (j : Nat) o, (l.drop m)[j]? = some o → o.guard = none ∧ (0 < j → m + j - 1 ∈ preds o.after) ∧ ∀ i ∈ preds o.after, i < m + j := by
  intro j o ho
  obtain ⟨g1, g2, _⟩ := tailOk_at htl ho
  exact ⟨g1, g2, hback (m + j) o (by simpa using ho)⟩
 -- when all of the first part are done
 have fin : ∀ (fuel : Nat) (listed : Array Bool) (a : Act) (w : World), MidH P Γ H C env all l.length listed a w → (∀ i, i < m → listed[i]? = some true) → l.length - m ≤ (listed.toList.filter (! ·)).length → l.length - m ≤ fuel → wpAnyIn (fen Γ) 9 P .any l.toArray (Lift Γ Q) fuel listed a w := by
  intro fuel listed a w hmid hall hf2 hf
  refine tail_any (l.drop m) m fuel listed a w (fun j => by simp) htail hmid.size hall ?_ (by simp; omega) (by simpa using hf) ?_
  ·intro i hi hil
   have hne := hmid.tail i (by omega)
   have hsz := hmid.size
   cases hc : listed[i]? with
   |none => rw [Array.getElem?_eq_none_iff] at hc; omega
   |some b => cases b with
    |false => rfl
    |true => exact absurd hc hne
  ·unfold Ops at h3
   refine h3 a w ?_
   have dd := hM _ (C * m) (Nat.mul_le_mul_left C (by omega)) _ _ _ hmid.den
   refine ⟨dd.nodefer, dd.tmps, ?_, dd.chunks, dd.nodup, dd.fresh, dd.below, dd.frame⟩
   intro i t hlk
   by_cases hin : i ∈ all.map (·.dst)
   ·have : ∀ L : List POp, (∀ o ∈ L, ∃ j : Nat, all[j]? = some o) → i ∈ L.map (·.dst) → look ((L.map fun o => (o.dst, o.t)) ++ env) i = some t → ∃ (j : Nat) (o : POp), all[j]? = some o ∧ o.dst = i ∧ o.t = t := by
     intro L
     induction L with
     |nil => intro _ h; simp at h
     |cons o L ihL =>
      intro hL hm hlk
      by_cases e : o.dst = i
      ·rw [List.map_cons, List.cons_append, ← e, look_cons_same] at hlk
       cases hlk
       obtain ⟨j, hj⟩ := hL o (by simp)
       exact ⟨j, o, hj, e, rfl⟩
      ·rw [List.map_cons, List.cons_append, look_cons_ne _ _ e] at hlk
       refine ihL (fun o ho => hL o (by simp [ho])) ?_ hlk
       simp only [List.map_cons, List.mem_cons] at hm
       rcases hm with hm | hm
       ·exact absurd hm.symm e
       ·exact hm
    rw [← List.map_reverse] at hlk
    obtain ⟨j, o, hj, rfl, rfl⟩ := this all.reverse (fun o ho => List.getElem?_of_mem (List.mem_reverse.1 ho)) (by simpa using hin) hlk
    rw [hA]
    exact hmid.done j o (hall j (by have := (List.getElem?_eq_some_iff.1 hj).1; omega)) hj
   ·rcases look_app hlk with ⟨u, hu, rfl⟩ | hlk
    ·exfalso
     rw [List.mem_reverse, List.mem_map] at hu
     obtain ⟨o, ho, e⟩ := hu
     simp only [Prod.mk.injEq] at e
     exact hin (by rw [← e.1]; exact List.mem_map_of_mem ho)
    ·rw [hA]
     refine hmid.keep i t hlk ?_
     intro k o ho e
     exact absurd (by rw [← e]; exact List.mem_map_of_mem (List.mem_of_getElem? ho)) hin
 have main : ∀ (fuel : Nat) (listed : Array Bool) (a : Act) (w : World), MidH P Γ H C env all l.length listed a w → (listed.toList.filter (! ·)).length ≤ fuel → l.length - m ≤ (listed.toList.filter (! ·)).length → wpAnyIn (fen Γ) 9 P .any l.toArray (Lift Γ Q) fuel listed a w := by
  intro fuel
  induction fuel with
  |zero =>
   intro listed a w hmid hf hf2
   have hall : ∀ i, i < m → listed[i]? = some true := by
    intro i hi
    have hli : i < listed.size := by rw [hmid.size]; omega
    cases hc : listed[i]'hli with
    |true => rw [Array.getElem?_eq_getElem hli, hc]
    |false =>
     exfalso
     have : false ∈ listed.toList.filter (! ·) := List.mem_filter.2 ⟨by rw [← hc]; simp, rfl⟩
     have := List.length_pos_of_mem this
     omega
   exact fin 0 listed a w hmid hall hf2 (by omega)
  |succ fuel ih =>
   intro listed a w hmid hf hf2
   by_cases hall : ∀ i, i < m → listed[i]? = some true
   ·exact fin (fuel + 1) listed a w hmid hall hf2 (by omega)
   have hsome : ∃ i, i < m ∧ listed[i]? = some false ∧ ∀ j, j < i → listed[j]? = some true := by
    have : ∀ n, n ≤ m → (∀ j, j < n → listed[j]? = some true) ∨ ∃ i, i < m ∧ listed[i]? = some false ∧ ∀ j, j < i → listed[j]? = some true := by
     intro n
     induction n with
     |zero => intro _; exact .inl (fun j hj => by omega)
     |succ n ihn =>
      intro hn
      rcases ihn (by omega) with h | h
      ·have hli : n < listed.size := by rw [hmid.size]; omega
       cases hc : listed[n]'hli with
       |true =>
        refine .inl fun j hj => ?_
        by_cases e : j = n
        ·subst e; rw [Array.getElem?_eq_getElem hli, hc]
        ·exact h j (by omega)
       |false => exact .inr ⟨n, by omega, by rw [Array.getElem?_eq_getElem hli, hc], h⟩
      ·exact .inr h
    rcases this m (Nat.le_refl _) with h | h
    ·exact absurd h hall
    ·exact h
   obtain ⟨i0, hi0, hl0, hp0⟩ := hsome
   refine ⟨fun hr => ?_, ?_⟩
   ·exfalso
    have : i0 ∈ Region.ready .any l.toArray listed := by
     refine mem_ready.2 ⟨_, List.getElem?_eq_getElem (by omega), ?_, ?_⟩
     ·rw [Array.getD_eq_getD_getElem?, hl0]; rfl
     ·intro j hj
      rw [Array.getD_eq_getD_getElem?, hp0 j (hback i0 _ (List.getElem?_eq_getElem (by omega)) j hj)]; rfl
    rw [hr] at this
    cases this
   intro i hi
   obtain ⟨oi, hoi, hl2, hp2⟩ := mem_ready.1 hi
   have hil := (List.getElem?_eq_some_iff.1 hoi).1
   have hia : i < m := by
    rcases Nat.lt_or_ge i m with h | h
    ·exact h
    ·exfalso
     have hoi' : (l.drop m)[i - m]? = some oi := by rw [List.getElem?_drop, show m + (i - m) = i by omega]; exact hoi
     have hlst : ∀ j ∈ preds oi.after, listed[j]? = some true := by
      intro j hj
      have := hp2 j hj
      rw [Array.getD_eq_getD_getElem?] at this
      cases hl : listed[j]? with
      |none => rw [hl] at this; simp at this
      |some b => rw [hl] at this; simp at this; rw [this]
     obtain ⟨_, g2, g3⟩ := tailOk_at htl hoi'
     by_cases him : i = m
     ·have hcl : ∀ q ∈ cloFrom l m (preds oi.after), listed[q]? = some true := cloFrom_listed (R := fun q => listed[q]? = some true) hlst (fun k o hk hR hlk j hj => by
       have hka : k < all.length := by omega
       have hko : all[k]? = some all[k] := List.getElem?_eq_getElem hka
       have hke := hget k _ hko
       rw [hlk] at hke
       cases hke
       exact hmid.closed k all[k] hR hko j hj)
      have := hcl i0 (g3 (by omega) i0 hi0)
      rw [hl0] at this
      cases this
     ·exact hmid.tail (m + (i - m) - 1) (by omega) (hlst _ (g2 (by omega)))
   have hia' : i < all.length := by omega
   have ho : all[i]? = some all[i] := List.getElem?_eq_getElem hia'
   have hli : i < listed.size := by rw [hmid.size]; omega
   have hc : listed[i]'hli = false := by simpa [hli] using hl2
   have hoe := hget i _ ho
   rw [hoi] at hoe
   cases hoe
   obtain ⟨done, hnum, hov⟩ := h4 i all[i] ho
   have hpred : ∀ j ∈ preds (all[i]).af, listed[j]? = some true := by
    intro j hj
    have := hp2 j hj
    rw [Array.getD_eq_getD_getElem?] at this
    cases hl : listed[j]? with
    |none => rw [hl] at this; simp at this
    |some b => rw [hl] at this; simp at this; rw [this]
   have hden : Den Γ (envAt done (all[i]).af (others i 0 l) env) (H (C * (l.length - (listed.toList.filter (! ·)).length))) a w := by
    have dd := hmid.den
    refine ⟨dd.nodefer, dd.tmps, ?_, dd.chunks, dd.nodup, dd.fresh, dd.below, dd.frame⟩
    intro q t hlk
    rw [hA]
    rcases look_predB hlk with ⟨x, hx, hbd, o, hoj, rfl, rfl⟩ | hlk
    ·obtain ⟨_, hoj'⟩ := hnum _ _ hoj
     exact hmid.done x.on o (hpred x.on (mem_preds.2 ⟨x, hx, hbd, rfl⟩)) hoj'
    ·rcases look_anyOf hlk with rfl | ⟨h5, h6⟩
     ·exact tr_any_self
     ·refine hmid.keep q t h5 ?_
      intro k o hok hd hlk2
      rcases others_spec (hget k o hok) (d := q) (by simp [POp.oper, hd]) h6 with h | h
      ·have : k = i := by omega
       subst this
       rw [Array.getElem?_eq_getElem hli, hc] at hlk2
       simp at hlk2
      ·have := hmid.closed k o hlk2 hok i h
       rw [Array.getElem?_eq_getElem hli, hc] at this
       simp at this
   have hop : l.toArray[i]? = some (all[i]).oper := by simpa using hoi
   have hin : all[i] ∈ all := List.getElem_mem hia'
   have hyield : ∀ (j : Nat) (q : POp) (c : Bool), j ∈ preds (all[i]).af → getP done j = some q → q.t = Tr.bool c → yielded l.toArray a.tmps j = some c := by
    intro j q c hj hq hc
    obtain ⟨_, hqj⟩ := hnum _ _ hq
    have hval := hmid.done j q (hpred j hj) hqj
    rw [hc] at hval
    have hval' : a.tmps.getD q.dst undef = .bool c := rd_raw hval
    have hs : q.dst < a.tmps.size := by rw [hmid.den.tmps]; exact hltn _ (List.mem_of_getElem? hqj)
    unfold yielded
    rw [List.getElem?_toArray, hget j q hqj]
    rw [Array.getD_eq_getD_getElem?, Array.getElem?_eq_getElem hs] at hval'
    simp only [Option.getD_some] at hval'
    simp [POp.oper, hs, hval']
   have hyieldU : ∀ (j : Nat) (q : POp), j ∈ preds (all[i]).af → getP done j = some q → q.t = Tr.raw undef → yielded l.toArray a.tmps j = none := by
    intro j q hj hq hc
    obtain ⟨_, hqj⟩ := hnum _ _ hq
    have hval := hmid.done j q (hpred j hj) hqj
    rw [hc] at hval
    have hval' : a.tmps.getD q.dst undef = undef := rd_raw hval
    have hs : q.dst < a.tmps.size := by rw [hmid.den.tmps]; exact hltn _ (List.mem_of_getElem? hqj)
    unfold yielded
    rw [List.getElem?_toArray, hget j q hqj]
    rw [Array.getD_eq_getD_getElem?, Array.getElem?_eq_getElem hs] at hval'
    simp only [Option.getD_some] at hval'
    simp [POp.oper, hs, hval', undef]
   have hkk : (listed.toList.filter (! ·)).length ≤ l.length := by
    have h9 := List.length_filter_le (fun x : Bool => !x) listed.toList
    have h10 := hmid.size
    have h11 : listed.toList.length = listed.size := Array.length_toList
    omega
   have hkp : 1 ≤ (listed.toList.filter (! ·)).length := List.length_pos_of_mem (List.mem_filter.2 ⟨by rw [← hc]; simp, rfl⟩ : false ∈ listed.toList.filter (! ·))
   obtain ⟨kk, hkd⟩ : ∃ kk, kk = C * (l.length - (listed.toList.filter (! ·)).length) := ⟨_, rfl⟩
   have hkB : kk + C ≤ B := by
    rw [hkd, hB, ← Nat.mul_succ]
    exact Nat.mul_le_mul_left C (by omega)
   have hmden := hmid.den
   rw [← hkd] at hden hmden
   have hgoal : (∀ v w', (all[i]).t.rd w' (av Γ.M (H 0)) v → (∀ env2, Den Γ env2 (H kk) a w → Den Γ env2 (H (kk + C)) a w') → wpAnyIn (fen Γ) 9 P .any l.toArray (Lift Γ Q) fuel (listed.setIfInBounds i true) (a.put (all[i]).oper.dst v) w') → wpOpIn (fen Γ) 9 P l.toArray (Lift Γ Q) i (wpAnyIn (fen Γ) 9 P .any l.toArray (Lift Γ Q) fuel (listed.setIfInBounds i true)) a w := by
    intro hk
    unfold wpOpIn
    simp only [hop]
    rcases hov with ⟨hg, hv⟩ | ⟨hg, ht⟩
    ·have hw : Region.wanted (all[i]).oper (yielded l.toArray a.tmps) = true := by
      unfold GOk at hg
      unfold Region.wanted
      cases hgd : (all[i]).g with
      |none => simp [POp.oper, hgd]
      |some jb =>
       obtain ⟨j, b⟩ := jb
       rw [hgd] at hg
       obtain ⟨h1, q, h2, h3⟩ := hg
       simp [POp.oper, hgd, hyield j q b h1 h2 h3]
     rw [if_pos hw]
     exact hv kk hkB a w hden (all[i]).dst (all[i]).pos (all[i]).af (all[i]).g _ _ hk
    ·have hw : Region.wanted (all[i]).oper (yielded l.toArray a.tmps) = false := by
      unfold GNo at hg
      unfold Region.wanted
      cases hgd : (all[i]).g with
      |none => rw [hgd] at hg; exact hg.elim
      |some jb =>
       obtain ⟨j, b⟩ := jb
       rw [hgd] at hg
       obtain ⟨h1, q, h2, h3⟩ := hg
       rcases h3 with h3 | h3
       ·simp [POp.oper, hgd, hyield j q (!b) h1 h2 h3]
       ·simp [POp.oper, hgd, hyieldU j q h1 h2 h3]
     rw [if_neg (by simp [hw])]
     exact ⟨fun _ _ => trivial, hk undef w (by rw [ht]; exact raw_self' _) fun env2 h => hM kk (kk + C) (by omega) env2 a w h⟩
   have hfact : ∀ {w' : World}, (∀ env2, Den Γ env2 (H kk) a w → Den Γ env2 (H (kk + C)) a w') → ∀ {s : Nat} {t : Tr}, t.rd w (av Γ.M (H 0)) (a.tmps.getD s undef) → t.rd w' (av Γ.M (H 0)) (a.tmps.getD s undef) := by
    intro w' hp s t ht
    have dd := hmden
    have d1 : Den Γ [(s, t)] (H kk) a w := ⟨dd.nodefer, dd.tmps, fun i u hl => by
     by_cases e : s = i
     ·subst e; rw [look_cons_same] at hl; cases hl; rw [hA]; exact ht
     ·rw [look_cons_ne _ _ e] at hl; simp [look] at hl, dd.chunks, dd.nodup, dd.fresh, dd.below, dd.frame⟩
    have := (hp _ d1).env s t (look_cons_same _ _ _)
    rw [hA] at this
    exact this
   have hset : ∀ j : Nat, (listed.setIfInBounds i true)[j]? = some true → j = i ∨ listed[j]? = some true := by
    intro j hj
    by_cases e : i = j
    ·exact .inl e.symm
    ·rw [Array.getElem?_setIfInBounds_ne e] at hj
     exact .inr hj
   have hset2 : ∀ j : Nat, listed[j]? = some true → (listed.setIfInBounds i true)[j]? = some true := by
    intro j hj
    by_cases e : i = j
    ·subst e
     rw [Array.getElem?_setIfInBounds_self]
     simp [hli]
    ·rw [Array.getElem?_setIfInBounds_ne e]
     exact hj
   have hs : (all[i]).dst < a.tmps.size := by rw [hmid.den.tmps]; exact hltn _ hin
   have hfs := filter_set listed.toList i (by simp [hli, hc])
   have hcnt : l.length - m ≤ ((listed.setIfInBounds i true).toList.filter (! ·)).length := by
    -- those of the second part are not done
    have hm2 : ∀ (L : List Bool) (k : Nat), k ≤ L.length → (∀ j, k ≤ j → L[j]? ≠ some true) → L.length - k ≤ (L.filter (! ·)).length := by
     intro L
     induction L with
     |nil => intro k _ _; simp
     |cons b L ihL =>
      intro k hk hne
      cases k with
      |zero =>
       have hb : b = false := by cases b with | false => rfl | true => exact absurd (by simp) (hne 0 (Nat.le_refl _))
       have := ihL 0 (Nat.zero_le _) (fun j _ => by simpa using hne (j + 1) (Nat.zero_le _))
       subst hb
       simp at this ⊢
       omega
      |succ k =>
       have := ihL k (by simpa using hk) (fun j hj => by simpa using hne (j + 1) (by omega))
       cases b <;> simp <;> omega
    have hsz : (listed.setIfInBounds i true).toList.length = l.length := by simpa using hmid.size
    have := hm2 (listed.setIfInBounds i true).toList m (by omega) (fun j hj hc => by
     rw [Array.getElem?_toList] at hc
     rcases hset j hc with h | h
     ·omega
     ·exact hmid.tail j (by omega) h)
    omega
   refine hgoal fun v w' hrd hpres => ih _ _ _ ⟨?_, by simpa using hmid.size, ?_, ?_, ?_, ?_⟩ ?_ hcnt
   ·have dd := hpres _ hmden
    have hidx : kk + C ≤ C * (l.length - ((listed.setIfInBounds i true).toList.filter (! ·)).length) := by
     rw [Array.toList_setIfInBounds, hkd, ← Nat.mul_succ]
     exact Nat.mul_le_mul_left C (by omega)
    have dd := hM _ _ hidx _ _ _ dd
    exact ⟨dd.nodefer, by simpa [POp.oper, Act.put] using dd.tmps, fun q t hlk => by simp [look] at hlk, dd.chunks, dd.nodup, dd.fresh, dd.below, dd.frame⟩
   ·intro s t hlk hno
    have hne : (all[i]).dst ≠ s := fun e => hno i _ ho e (by rw [Array.getElem?_setIfInBounds_self]; simp [hli])
    have := hfact hpres (hmid.keep s t hlk (fun k o hok hd hl => hno k o hok hd (hset2 k hl)))
    simpa [POp.oper, Act.put, Array.getElem?_setIfInBounds_ne hne] using this
   ·intro j o hj hoj
    by_cases e : i = j
    ·subst e
     rw [ho] at hoj
     cases hoj
     simpa [POp.oper, Act.put, hs] using hrd
    ·rw [Array.getElem?_setIfInBounds_ne e] at hj
     have hne : (all[i]).dst ≠ o.dst := by
      intro ed
      exact e (nodup_get hnodup (x := o.dst) (by simp [ho, ed]) (by simp [hoj]))
     have := hfact hpres (hmid.done j o hj hoj)
     simpa [POp.oper, Act.put, Array.getElem?_setIfInBounds_ne hne] using this
   ·intro k o hk hok j hj
    refine hset2 j ?_
    rcases hset k hk with rfl | h
    ·rw [ho] at hok
     cases hok
     exact hpred j hj
    ·exact hmid.closed k o h hok j hj
   ·intro k hk h
    rcases hset k h with rfl | h
    ·omega
    ·exact hmid.tail k hk h
   ·rw [Array.toList_setIfInBounds]
    omega
 refine wpIn_region_any hm ?_
 have dd := hM 0 (C * (l.length - ((Array.replicate l.toArray.size false).toList.filter (! ·)).length)) (Nat.zero_le _) _ _ _ d.drew
 have hrep : ∀ i : Nat, (Array.replicate l.toArray.size false)[i]? ≠ some true := by
  intro i hi
  rw [Array.getElem?_replicate] at hi
  split at hi <;> simp at hi
 refine main _ _ _ _ ⟨?_, by simp, ?_, ?_, ?_, ?_⟩ ?_ ?_
 ·exact ⟨dd.nodefer, dd.tmps, fun i t hlk => by simp [look] at hlk, dd.chunks, dd.nodup, dd.fresh, dd.below, dd.frame⟩
 ·intro s t hlk _
  have := dd.env s t hlk
  rw [hA] at this
  exact this
 ·intro i o hi _
  exact absurd hi (hrep i)
 ·intro k o hk
  exact absurd hk (hrep k)
 ·intro k _ h
  exact hrep k h
 ·simp
 ·simp

/-- from a list of operations on; acc: the slots as in the order of the text -/
def PSeqH (P : Program) (Γ : Ctx) (H : Nat → List Chunk) (C B : Nat) (K : Env → Prop) : Nat → List (Nat × POp) → Env → List Oper → Prop
 |_, _, acc, [] => K acc
 |n, done, acc, o :: l => ∃ p : POp, p.oper = o ∧ ((GOk done p ∧ OpH P Γ p.op p.ty (rst (slotsOf p.op) acc) H C B p.t) ∨ (GNo done p ∧ p.t = Tr.raw undef)) ∧ PSeqH P Γ H C B K (n + 1) ((n, p) :: done) ((p.dst, p.t) :: acc) l

section pseq
variable {K : Env → Prop} {n : Nat} {done : List (Nat × POp)} {acc : Env} {d : Nat} {op : Op} {ty : TypeId} {pos : String} {af : Array Edge} {l : List Oper} {t : Tr}
theorem PSeqH.nil (h : K acc) : PSeqH P Γ H C B K n done acc [] := h
theorem PSeqH.cons (h : OpH P Γ op ty (rst (slotsOf op) acc) H C B t) (k : PSeqH P Γ H C B K (n + 1) ((n, ⟨d, op, ty, pos, af, none, t⟩) :: done) ((d, t) :: acc) l) :
  PSeqH P Γ H C B K n done acc (⟨some d, op, ty, pos, af, none⟩ :: l) := ⟨⟨d, op, ty, pos, af, none, t⟩, rfl, .inl ⟨trivial, h⟩, k⟩
end pseq

theorem PSeqH.run {L : List Oper} {m : Nat} (hb : backOk L = true) (hnd : nodupB (dsts (L.take m)) = true) (hs : ssaFrom L 0 (L.take m) = true) {K : Env → Prop} : ∀ {l : List Oper} {n : Nat} {done : List (Nat × POp)} {acc : Env}, Seq L env n done acc → (∀ j : Nat, l[j]? = (L.take m)[n + j]?) → PSeqH P Γ H C B K n done acc l → PRunH P Γ H C B L env K n done acc l
 |[], n, done, acc, _, _, h => h
 |o :: l, n, done, acc, hq, hl, ⟨p, h1, h2, h3⟩ => by
  have hn0 : (L.take m)[n]? = some o := by have := hl 0; simpa using this.symm
  have hnm : n < m := by
   rcases Nat.lt_or_ge n m with h | h
   ·exact h
   ·rw [List.getElem?_eq_none (by rw [List.length_take]; omega)] at hn0; cases hn0
  have hL : L[n]? = some o := by rw [List.getElem?_take, if_pos hnm] at hn0; exact hn0
  have hent : ∀ k a w, Den Γ (envAt done p.af (others n 0 L) env) (H k) a w → Den Γ (rst (slotsOf p.op) acc) (H k) a w := by
   subst h1
   intro k a w d
   refine ⟨d.nodefer, d.tmps, ?_, d.chunks, d.nodup, d.fresh, d.below, d.frame⟩
   intro s t hlk
   obtain ⟨hss, hla⟩ := rst_look hlk
   apply d.env s t
   have hck := ssaFrom_at hs hn0 s hss
   rw [Nat.zero_add] at hck
   have hbk := backFrom_at hb hL
   rw [Nat.zero_add] at hbk
   have hpre : ∀ k ∈ preds p.af, k < n := fun k hk => by
    obtain ⟨e, he, h6, rfl⟩ := mem_preds.1 hk
    exact hbk e he h6
   unfold envAt
   rcases hq.look s t hla with ⟨j, q, hj, rfl, rfl⟩ | ⟨hle, hno⟩
   ·obtain ⟨hjn, hjL⟩ := hq.at_ j q hj
    have hjm : (L.take m)[j]? = some q.oper := by rw [List.getElem?_take, if_pos (by omega)]; exact hjL
    have hjp : j ∈ preds p.af := by
     rcases hck with hck | ⟨k, hk, r, hr, hrd⟩
     ·rcases others_spec hjL (d := q.dst) rfl hck with h6 | h6
      ·omega
      ·exfalso
       obtain ⟨e, he, h7, h8⟩ := mem_preds.1 h6
       have := backFrom_at hb hjL e he h7
       omega
     ·have hkn := hpre k hk
      have hkm : (L.take m)[k]? = some r := by rw [List.getElem?_take, if_pos (by omega)]; exact hr
      have := dsts_inj (nodupB_iff hnd) hjm hkm (d := q.dst) rfl hrd
      rw [this]
      exact hk
    obtain ⟨e, he, h6, h7⟩ := mem_preds.1 hjp
    refine predB_some hj ⟨e, he, h6, h7⟩ ?_
    intro x hx q2 hq2 hd2
    obtain ⟨hxn, hxL⟩ := hq.at_ _ q2 hq2
    have hxm : (L.take m)[x.on]? = some q2.oper := by rw [List.getElem?_take, if_pos (by omega)]; exact hxL
    have := dsts_inj (nodupB_iff hnd) hxm hjm (d := q.dst) (by show some q2.dst = some q.dst; rw [hd2]) rfl
    rw [this, hj] at hq2
    cases hq2
    rfl
   ·rw [predB_none (fun x _ (q : POp) hq' => hno _ q hq')]
    have : s ∉ others n 0 L := by
     rcases hck with hck | ⟨k, hk, r, hr, hrd⟩
     ·exact hck
     ·exfalso
      obtain ⟨q, hqk⟩ := hq.all k (hpre k hk)
      obtain ⟨_, hkL⟩ := hq.at_ k q hqk
      rw [hr] at hkL
      cases hkL
      exact hno k q hqk (by simpa [POp.oper] using hrd)
    rw [look_anyOf_ne this]
    exact hle
  refine ⟨p, h1, h2.imp (fun ⟨h4, h5⟩ => ⟨h4, h5.ent hent⟩) id, PSeqH.run hb hnd hs ?_ ?_ h3⟩
  ·subst h1
   refine ⟨?_, ?_, ?_⟩
   ·intro j hj
    by_cases e : j = n
    ·subst e
     exact ⟨p, by simp [getP]⟩
    ·obtain ⟨q, hq'⟩ := hq.all j (by omega)
     refine ⟨q, ?_⟩
     simp only [getP]
     split
     ·rename_i hbq
      exact absurd (Nat.eq_of_beq_eq_true hbq).symm e
     ·exact hq'
   ·intro j q hj
    rcases getP_cons hj with ⟨rfl, rfl⟩ | hj
    ·exact ⟨by omega, hL⟩
    ·obtain ⟨h6, h7⟩ := hq.at_ j q hj
     exact ⟨by omega, h7⟩
   ·intro s t hlk
    have hnew : getP ((n, p) :: done) n = some p := by simp [getP]
    have hold : ∀ j q, getP done j = some q → getP ((n, p) :: done) j = some q := fun j q hj => by
     have := (hq.at_ j q hj).1
     simp only [getP]
     split
     ·rename_i hbq
      have := Nat.eq_of_beq_eq_true hbq
      omega
     ·exact hj
    by_cases e : p.dst = s
    ·subst e
     rw [look_cons_same] at hlk
     cases hlk
     exact .inl ⟨n, p, hnew, rfl, rfl⟩
    ·rw [look_cons_ne _ _ e] at hlk
     rcases hq.look s t hlk with ⟨j, q, hj, h6⟩ | ⟨h6, h7⟩
     ·exact .inl ⟨j, q, hold j q hj, h6⟩
     ·refine .inr ⟨h6, fun j q hj => ?_⟩
      rcases getP_cons hj with ⟨rfl, rfl⟩ | hj
      ·exact e
      ·exact h7 j q hj
  ·intro j
   have := hl (j + 1)
   rw [List.getElem?_cons_succ] at this
   rw [this]
   congr 1
   omega

theorem Cw.region_H {id m : Nat} {l : List Oper} {env : Env} (C : Nat) (hR : Row Γ H) (hm : P.follows .mixedOrders = true) (hb : (backOk l && (nodupB (dsts (l.take m)) && (ssaFrom l 0 (l.take m) && (tailOk l m && Nat.ble m l.length)))) = true) (hlt : (dsts (l.take m)).all (Nat.blt · Γ.n) = true)
  (h : PSeqH P Γ H C (C * l.length) (fun acc => Ops P Γ l.toArray (l.drop m) acc (H (C * m)) Q) 0 [] env (l.take m)) : Cw P Γ (.region id l.toArray true) env (H 0) Q := by
 simp only [Bool.and_eq_true] at hb
 exact Cw.region_atH hR.av hR.mono rfl (Nat.le_of_ble_eq_true hb.2.2.2.2) hm hb.1 hb.2.1 hlt hb.2.2.2.1 (PSeqH.run hb.1 hb.2.1 hb.2.2.1 Seq.start (fun j => by rw [Nat.zero_add]) h)
end drawH
end Lg
end
section
set_option linter.all false
set_option maxRecDepth 100000
set_option maxHeartbeats 8000000
namespace Lg
open Go

/-! ### no step of a machine takes a draw back -/
def GLe (n : Nat) : GStep → Prop
 | .go _ w _ => n ≤ w.drawn
 | .comm _ _ _ _ w _ => n ≤ w.drawn
 | .spawn _ _ w _ => n ≤ w.drawn
 | .count _ w _ => n ≤ w.drawn
 | .timer _ _ w _ => n ≤ w.drawn
 | .alone _ _ w _ => n ≤ w.drawn
 | .newcoro _ _ _ w _ => n ≤ w.drawn
 | .coroswitch _ _ _ w _ => n ≤ w.drawn
 | .collect _ w _ => n ≤ w.drawn
 | .watch _ w _ => n ≤ w.drawn
 | .ended _ _ _ => True
theorem GLe.after {n : Nat} {es : Array Event} {s : GStep} (h : GLe n s) : GLe n (GStep.after es s) := by cases s <;> exact h
section
variable {n : Nat} {p : Program} {w : World}
end
end Lg
end
section
set_option linter.all false
namespace Lg
open Go Go.RowKit

section strs
variable {P : Program} {Γ : Ctx} {env env' : Env} {cs cs' cf : List Chunk} {Q : Post} {R : Array Oper}
variable {i : Tmp} {ty : TypeId} {pos : String} {af : Array Edge} {rest : List Oper}
variable {x y z : Operand} {T T2 : TypeId} {k : IntKind} {p q : Int} {s u : ByteArray}

/-- strings in order -/
def strLt (a b : ByteArray) : Bool := Op.bytesLess a.toList b.toList
/-- a string's byte -/
def sby (s : ByteArray) (j : Nat) : Int := ((s.data.toList.getD j 0).toNat : Int)

theorem raw_self {w : World} {A : Nat → Prop} (v : Value) : (Tr.raw v).rd w A v := by unfold Tr.raw; rfl
theorem binOp_str (op : BinOp) (t : TypeId) (a b : ByteArray) : binOp op t (.string a) (.string b) = Op.stringOp op a b := by cases op <;> rfl
theorem eqGuard_str (op : BinOp) (t : TypeId) (x y : Operand) (a b : ByteArray) (w : World) : (eqGuard op t x y (.string a) (.string b)).run P w = .ok () w := by
 unfold eqGuard
 cases op <;> simp

theorem str_beq (a b : ByteArray) : (a.toList == b.toList) = decide (a = b) := by
 rw [ByteArray.toList_eq, ByteArray.toList_eq, Bool.eq_iff_iff, beq_iff_eq, decide_eq_true_iff]
 constructor
 ·intro h
  exact ByteArray.ext (Array.ext' h)
 ·rintro rfl; rfl

theorem OpV.binS {op : BinOp} {v : Value} (hx : ev env x = some (.str s)) (hy : ev env y = some (.str u)) (hb : Op.stringOp op s u = pure v) : OpV P Γ (.binOp op T x y T2) ty env cs (.raw v) :=
 by unfold OpV; exact (fun a w d => ⟨v, by
  have h1 : a.eval x = .string s := rd_raw (d.ev hx)
  have h2 : a.eval y = .string u := rd_raw (d.ev hy)
  simp [execOp, h1, h2, eqGuard_str, binOp_str, hb], raw_self _⟩)

theorem OpV.eqlS (hx : ev env x = some (.str s)) (hy : ev env y = some (.str u)) : OpV P Γ (.binOp .eql T x y T2) ty env cs (.bool (decide (s = u))) :=
 OpV.binS hx hy (by simp [Op.stringOp, ← str_beq])
theorem OpV.leqS (hx : ev env x = some (.str s)) (hy : ev env y = some (.str u)) : OpV P Γ (.binOp .leq T x y T2) ty env cs (.bool (strLt s u || decide (s = u))) :=
 OpV.binS hx hy (by simp [Op.stringOp, strLt, str_beq])
theorem OpV.eqlS_t (hx : ev env x = some (.str s)) (hy : ev env y = some (.str u)) (h : s = u) : OpV P Γ (.binOp .eql T x y T2) ty env cs (.bool true) := by
 have := OpV.eqlS (P := P) (Γ := Γ) (ty := ty) (cs := cs) (T := T) (T2 := T2) hx hy
 rwa [decide_eq_true h] at this
theorem OpV.eqlS_f (hx : ev env x = some (.str s)) (hy : ev env y = some (.str u)) (h : ¬ s = u) : OpV P Γ (.binOp .eql T x y T2) ty env cs (.bool false) := by
 have := OpV.eqlS (P := P) (Γ := Γ) (ty := ty) (cs := cs) (T := T) (T2 := T2) hx hy
 rwa [decide_eq_false h] at this
theorem Ops.eqlS_t (hx : ev env x = some (.str s)) (hy : ev env y = some (.str u)) (h : s = u) (hi : Nat.blt i Γ.n = true)
  (kk : Ops P Γ R rest ((i, .bool true) :: env) cs Q) : Ops P Γ R (⟨some i, .binOp .eql T x y T2, ty, pos, af, none⟩ :: rest) env cs Q := Ops.val' hi (OpV.eqlS_t hx hy h) kk
theorem Ops.eqlS_f (hx : ev env x = some (.str s)) (hy : ev env y = some (.str u)) (h : ¬ s = u) (hi : Nat.blt i Γ.n = true)
  (kk : Ops P Γ R rest ((i, .bool false) :: env) cs Q) : Ops P Γ R (⟨some i, .binOp .eql T x y T2, ty, pos, af, none⟩ :: rest) env cs Q := Ops.val' hi (OpV.eqlS_f hx hy h) kk
theorem Ops.leqS (hx : ev env x = some (.str s)) (hy : ev env y = some (.str u)) (hi : Nat.blt i Γ.n = true)
  (kk : Ops P Γ R rest ((i, .bool (strLt s u || decide (s = u))) :: env) cs Q) : Ops P Γ R (⟨some i, .binOp .leq T x y T2, ty, pos, af, none⟩ :: rest) env cs Q := Ops.val' hi (OpV.leqS hx hy) kk
theorem sby_get {j : Nat} (h : j < s.size) : sby s j = ((s[j]'h).toNat : Int) := by
 have h' : j < s.data.toList.length := by simpa using h
 unfold sby
 rw [List.getD_eq_getElem?_getD, List.getElem?_eq_getElem h']
 rfl

theorem OpV.indexS (hT : P.underlying T = some .string) (hx : ev env x = some (.str s)) (hy : ev env y = some (.raw (.int k p))) (h : 0 ≤ p ∧ p < s.size) : OpV P Γ (.index T x y) ty env cs (.raw (.int .u8 (sby s p.toNat))) :=
 by unfold OpV; exact (fun a w d => ⟨.int .u8 (sby s p.toNat), by
  have h1 : a.eval x = .string s := rd_raw (d.ev hx)
  have h2 : a.eval y = .int k p := rd_raw (d.ev hy)
  have h3 := run_index_string (P := P) w T s k p hT
  rw [dif_pos h] at h3
  simp only [execOp, h1, h2]
  rw [sby_get (show p.toNat < s.size by omega)]
  simp [h3], raw_self _⟩)
theorem OpV.indexS_n {j : Nat} (hT : P.underlying T = some .string) (hx : ev env x = some (.str s)) (hy : ev env y = some (.raw (.int k p))) (hj : p = Int.ofNat j) (h : j < s.size) : OpV P Γ (.index T x y) ty env cs (.raw (.int .u8 (sby s j))) := by
 subst hj
 have h2 : Int.ofNat j < (s.size : Int) := Int.ofNat_lt.2 h
 exact OpV.indexS hT hx hy ⟨Int.natCast_nonneg j, h2⟩
theorem Ops.indexS_n {j : Nat} (hT : P.underlying T = some .string) (hx : ev env x = some (.str s)) (hy : ev env y = some (.raw (.int k p))) (hj : p = Int.ofNat j) (h : j < s.size) (hi : Nat.blt i Γ.n = true)
  (kk : Ops P Γ R rest ((i, .raw (.int .u8 (sby s j))) :: env) cs Q) : Ops P Γ R (⟨some i, .index T x y, ty, pos, af, none⟩ :: rest) env cs Q := Ops.val' hi (OpV.indexS_n hT hx hy hj h) kk

theorem OpV.indexS_0 (hT : P.underlying T = some .string) (hx : ev env x = some (.str s)) (hy : ev env y = some (.raw (.int k p))) (hj : p = 0) (h : 0 < s.size) : OpV P Γ (.index T x y) ty env cs (.raw (.int .u8 (sby s 0))) := by
 subst hj
 exact OpV.indexS hT hx hy ⟨Int.le_refl _, by omega⟩
theorem Ops.indexS_0 (hT : P.underlying T = some .string) (hx : ev env x = some (.str s)) (hy : ev env y = some (.raw (.int k p))) (hj : p = 0) (h : 0 < s.size) (hi : Nat.blt i Γ.n = true)
  (kk : Ops P Γ R rest ((i, .raw (.int .u8 (sby s 0))) :: env) cs Q) : Ops P Γ R (⟨some i, .index T x y, ty, pos, af, none⟩ :: rest) env cs Q := Ops.val' hi (OpV.indexS_0 hT hx hy hj h) kk

theorem OpV.sliceS_h (hT : P.underlying T = some .string) (hx : ev env x = some (.str s)) (hz : ev env z = some (.raw (.int k q))) (h : 0 ≤ q ∧ q ≤ s.size) : OpV P Γ (.slice T x none (some z) none) ty env cs (.str (s.extract 0 q.toNat)) :=
 by unfold OpV; exact (fun a w d => ⟨.string (s.extract 0 q.toNat), by
  have h1 : a.eval x = .string s := rd_raw (d.ev hx)
  have h2 : a.eval z = .int k q := rd_raw (d.ev hz)
  simp [execOp, h1, h2, Instr.sliceAt, Instr.slice, Instr.sliceBounds, Instr.sliceBound, asIntOf, run_underlying hT, h], raw_self _⟩)
theorem Ops.sliceS_h (hT : P.underlying T = some .string) (hx : ev env x = some (.str s)) (hz : ev env z = some (.raw (.int k q))) (h : 0 ≤ q ∧ q ≤ s.size) (hi : Nat.blt i Γ.n = true)
  (kk : Ops P Γ R rest ((i, .str (s.extract 0 q.toNat)) :: env) cs Q) : Ops P Γ R (⟨some i, .slice T x none (some z) none, ty, pos, af, none⟩ :: rest) env cs Q := Ops.val' hi (OpV.sliceS_h hT hx hz h) kk

end strs

/-- a contract of the library's own: it turns no old block -/
theorem PFn.of_calls {P : Program} {f : FuncId} {args : List Value} {v : Value} (he : ∀ (vs : Array Value) (w : World), (callFunc f vs).run P w = .ok (.enter f vs) w)
  (h : ∀ w, Calls P f args.toArray w fun e w' => e = .returned v ∧ Below w.heap.size w w' ∧ (Strict → w.drawn ≤ w'.drawn)) : PFn P f (args.map Tr.raw) (· = .raw v) := by
 refine PFn.mk ?_
 unfold Spec
 refine ⟨he, fun M w vs hv _ _ _ hM => ?_⟩
 have : ∀ (as vs : List Value), RdL w (av M []) (as.map Tr.raw) vs → vs = as := by
  intro as
  induction as with
  |nil => intro vs h; exact h
  |cons a as ih =>
   rintro vs ⟨u, rest, rfl, h1, h2⟩
   rw [ih rest h2, rd_raw h1]
 rw [this args vs hv]
 refine (h w).mono ?_
 rintro e w' ⟨rfl, hb, hd⟩
 refine ⟨v, .raw v, [], rfl, ⟨rfl, rfl⟩, raw_self _, by simp, by simp [fps], by simp [fps], hb.os, hb.tape, hb.output, hb.size, fun b h1 _ => hb.block b h1, hd⟩
attribute [irreducible] strLt sby
end Lg
end
