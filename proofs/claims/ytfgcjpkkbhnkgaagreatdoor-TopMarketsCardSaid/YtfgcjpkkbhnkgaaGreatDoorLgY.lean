/- A part of the proof of a law of this seat: it adds no condition. By an AI agent. -/
import Derived.Test.YtfgcjpkkbhnkgaaGreatDoorLgX5
set_option linter.all false
namespace Lg
open Go

/-! ### regions whose order is open: as LgX, but what an operation yields may be said by what others have yielded -/
section y
variable {P : Program} {Γ : Ctx} {env base : Env} {cs : List Chunk} {Q : Post} {H : (Nat → Value) → (Nat → Bool) → List Chunk} {L : List Oper}

/-- what an operation does once those that it waits for are done -/
def YStep (P : Program) (Γ : Ctx) (H : (Nat → Value) → (Nat → Bool) → List Chunk) (L : List Oper) (Pf : Nat → (Nat → Value) → Prop) (i : Nat) (o : Oper) (acc : (Nat → Value) → Env) (T : (Nat → Value) → Tr) (Pv : (Nat → Value) → Prop) : Prop :=
 ∀ (ξ : Nat → Value) (S : Nat → Bool), S i = false → (∀ j ∈ preds o.after, S j = true) → (∀ k ok, L[k]? = some ok → S k = true → ∀ j ∈ preds ok.after, S j = true) → (∀ k, S k = true → Pf k ξ) →
  ∀ a w, Den Γ (rst (slotsOf o.op) (acc ξ)) (H ξ S) a w → ∀ (next : Act → World → Prop) (F : Exit → Act → World → Prop),
   (∀ v w', Pv (upd ξ i v) → (T (upd ξ i v)).rd w' (av Γ.M (H (upd ξ i v) (updD S i))) v → (∀ env2, Den Γ env2 (H ξ S) a w → Den Γ env2 (H (upd ξ i v) (updD S i)) a w') → next (a.put o.dst v) w') → Oper.wpIn (fen Γ) 9 P o a w next F

def accY (o : Oper) (T : (Nat → Value) → Tr) (acc : (Nat → Value) → Env) : (Nat → Value) → Env := fun ξ => match o.dst with
 |some d => (d, T ξ) :: acc ξ
 |none => acc ξ
def pfY (n : Nat) (Pv : (Nat → Value) → Prop) (Pf : Nat → (Nat → Value) → Prop) : Nat → (Nat → Value) → Prop := fun j ξ => match Nat.beq j n with
 |true => Pv ξ
 |false => Pf j ξ
def Clo (L : List Oper) (S : Nat → Bool) : Prop := ∀ k ok, L[k]? = some ok → S k = true → ∀ j ∈ preds ok.after, S j = true
/-- it speaks of the operation's own value, and of those that it waits for -/
def PvOkY (L : List Oper) (n : Nat) (Pv : (Nat → Value) → Prop) : Prop := ∀ ξ k v S, Clo L S → S n = true → S k = false → Pv ξ → Pv (upd ξ k v)
def TOk (L : List Oper) (n : Nat) (T : (Nat → Value) → Tr) : Prop := ∀ ξ k v S, Clo L S → S n = true → S k = false → T (upd ξ k v) = T ξ
theorem upd_S {S : Nat → Bool} {m k : Nat} (h1 : S m = true) (h2 : S k = false) (ξ : Nat → Value) (v : Value) : upd ξ k v m = ξ m := upd_ne ξ v (fun e => by subst e; rw [h1] at h2; cases h2)

def YSeq (P : Program) (Γ : Ctx) (H : (Nat → Value) → (Nat → Bool) → List Chunk) (L : List Oper) (K : Env → List Chunk → Prop) : Nat → ((Nat → Value) → Env) → (Nat → (Nat → Value) → Prop) → List Oper → Prop
 |_, acc, Pf, [] => ∀ ξ : Nat → Value, (∀ j, Pf j ξ) → K (acc ξ) (H ξ fun _ => true)
 |n, acc, Pf, o :: l => ∃ (T : (Nat → Value) → Tr) (Pv : (Nat → Value) → Prop), (PvOkY L n Pv ∧ TOk L n T) ∧ YStep P Γ H L Pf n o acc T Pv ∧ YSeq P Γ H L K (n + 1) (accY o T acc) (pfY n Pv Pf) l

structure YI (L : List Oper) (env : Env) (n : Nat) (acc : (Nat → Value) → Env) (Pf : Nat → (Nat → Value) → Prop) (T : Nat → (Nat → Value) → Tr) (Pv : Nat → (Nat → Value) → Prop) : Prop where
 look : ∀ ξ s t, Lg.look (acc ξ) s = some t → (∃ j oj, j < n ∧ L[j]? = some oj ∧ oj.dst = some s ∧ t = T j ξ) ∨ (Lg.look env s = some t ∧ ∀ j oj, j < n → L[j]? = some oj → oj.dst ≠ some s)
 pf : ∀ (k : Nat) (ξ : Nat → Value), (k < n → Pv k ξ) → Pf k ξ
theorem YI.agree {n : Nat} {acc : (Nat → Value) → Env} {Pf : Nat → (Nat → Value) → Prop} {T T' : Nat → (Nat → Value) → Tr} {Pv Pv' : Nat → (Nat → Value) → Prop} (h : YI L env n acc Pf T Pv) (e : ∀ j, j < n → T' j = T j ∧ Pv' j = Pv j) : YI L env n acc Pf T' Pv' := by
 refine ⟨fun ξ s t hl => ?_, fun k v hk => h.pf k v fun hkn => ?_⟩
 ·rcases h.look ξ s t hl with ⟨j, oj, h1, h2, h3, h4⟩ | h
  ·exact .inl ⟨j, oj, h1, h2, h3, by rw [(e j h1).1]; exact h4⟩
  ·exact .inr h
 ·rw [← (e k hkn).2]
  exact hk hkn

theorem YSeq.out {K : Env → List Chunk → Prop} : ∀ {l : List Oper} {n : Nat} {acc : (Nat → Value) → Env} {Pf : Nat → (Nat → Value) → Prop} {T0 : Nat → (Nat → Value) → Tr} {Pv0 : Nat → (Nat → Value) → Prop},
  (∀ i : Nat, l[i]? = L[n + i]?) → n + l.length = L.length → YI L env n acc Pf T0 Pv0 → YSeq P Γ H L K n acc Pf l →
  ∃ (T : Nat → (Nat → Value) → Tr) (Pv : Nat → (Nat → Value) → Prop), (∀ j, j < n → T j = T0 j ∧ Pv j = Pv0 j) ∧
   (∀ i o, n ≤ i → L[i]? = some o → ∃ acc Pf, YI L env i acc Pf T Pv ∧ (PvOkY L i (Pv i) ∧ TOk L i (T i)) ∧ YStep P Γ H L Pf i o acc (T i) (Pv i)) ∧
   (∃ acc Pf, YI L env L.length acc Pf T Pv ∧ ∀ ξ : Nat → Value, (∀ j, Pf j ξ) → K (acc ξ) (H ξ fun _ => true))
 |[], n, acc, Pf, T0, Pv0, hL, hn, hI, h => by
  simp at hn
  refine ⟨T0, Pv0, fun j _ => ⟨rfl, rfl⟩, fun i o hi ho => ?_, acc, Pf, by rw [← hn]; exact hI, h⟩
  have := (List.getElem?_eq_some_iff.1 ho).1
  omega
 |o :: l, n, acc, Pf, T0, Pv0, hL, hn, hI, ⟨T1, Pv1, hok, hst, hk⟩ => by
  have ho : L[n]? = some o := by have := hL 0; simpa using this.symm
  have hI' : YI L env (n + 1) (accY o T1 acc) (pfY n Pv1 Pf) (fun j => match Nat.beq j n with | true => T1 | false => T0 j) (fun j => match Nat.beq j n with | true => Pv1 | false => Pv0 j) := by
   refine ⟨fun ξ s t hl => ?_, fun k v hkv => ?_⟩
   ·have old : look (acc ξ) s = some t → (∀ d, o.dst = some d → d ≠ s) → (∃ j oj, j < n + 1 ∧ L[j]? = some oj ∧ oj.dst = some s ∧ t = (match Nat.beq j n with | true => T1 | false => T0 j) ξ) ∨ (look env s = some t ∧ ∀ j oj, j < n + 1 → L[j]? = some oj → oj.dst ≠ some s) := by
     intro hl hd
     rcases hI.look ξ s t hl with ⟨j, oj, h1, h2, h3, h4⟩ | ⟨h1, h2⟩
     ·refine .inl ⟨j, oj, by omega, h2, h3, ?_⟩
      rw [nbeq_ne (show j ≠ n by omega)]
      exact h4
     ·refine .inr ⟨h1, fun j oj hj hoj => ?_⟩
      by_cases e : j = n
      ·subst e
       rw [ho] at hoj
       cases hoj
       intro hd2
       exact hd s hd2 rfl
      ·exact h2 j oj (by omega) hoj
    unfold accY at hl
    cases hd : o.dst with
    |none =>
     rw [hd] at hl
     exact old hl (fun d h => by rw [hd] at h; cases h)
    |some d =>
     rw [hd] at hl
     by_cases e : d = s
     ·subst e
      simp only at hl
      rw [look_cons_same] at hl
      cases hl
      exact .inl ⟨n, o, by omega, ho, hd, by simp⟩
     ·simp only at hl
      rw [look_cons_ne _ _ e] at hl
      exact old hl (fun d' h => by rw [hd] at h; cases h; exact e)
   ·unfold pfY
    by_cases e : k = n
    ·subst e
     have := hkv (by omega)
     simpa using this
    ·have hb : Nat.beq k n = false := nbeq_ne e
     rw [hb]
     refine hI.pf k v fun hkn => ?_
     have := hkv (by omega)
     rw [hb] at this
     exact this
  obtain ⟨T, Pv, h1, h2, h3⟩ := YSeq.out (l := l) (n := n + 1) (by intro i; have := hL (i + 1); simpa [Nat.add_assoc, Nat.add_comm 1] using this) (by simp at hn; omega) hI' hk
  have hag : ∀ j, j < n → T j = T0 j ∧ Pv j = Pv0 j := by
   intro j hj
   have := h1 j (by omega)
   rw [nbeq_ne (show j ≠ n by omega)] at this
   exact this
  have hn1 := h1 n (by omega)
  simp only [Nat.beq_refl] at hn1
  refine ⟨T, Pv, hag, fun i o' hi ho' => ?_, h3⟩
  by_cases e : i = n
  ·subst e
   rw [ho] at ho'
   cases ho'
   exact ⟨acc, Pf, hI.agree hag, by rw [hn1.1, hn1.2]; exact hok, by rw [hn1.1, hn1.2]; exact hst⟩
  ·exact h2 i o' (by omega) ho'

structure MidY (Γ : Ctx) (H : (Nat → Value) → (Nat → Bool) → List Chunk) (L : List Oper) (env : Env) (T : Nat → (Nat → Value) → Tr) (Pv : Nat → (Nat → Value) → Prop) (ξ : Nat → Value) (listed : Array Bool) (a : Act) (w : World) : Prop where
 den : Den Γ [] (H ξ fun j => listed.getD j true) a w
 size : listed.size = L.length
 keep : ∀ s t, look env s = some t → (∀ k o, L[k]? = some o → listed.getD k true = true → o.dst ≠ some s) → t.rd w (av Γ.M (H ξ fun j => listed.getD j true)) (a.tmps.getD s undef)
 done : ∀ i o, L[i]? = some o → listed.getD i true = true → Pv i ξ ∧ ∀ d, o.dst = some d → a.tmps.getD d undef = ξ i ∧ (T i ξ).rd w (av Γ.M (H ξ fun j => listed.getD j true)) (ξ i)
 closed : ∀ k o, L[k]? = some o → listed.getD k true = true → ∀ j ∈ preds o.after, listed.getD j true = true

theorem Cw.region_Y {id : Nat} {l : List Oper} (H : (Nat → Value) → (Nat → Bool) → List Chunk) (hm : P.follows .mixedOrders = true) (hb : (backOk l && (nodupB (dsts l) && (ssaFrom l 0 l && noGuards l))) = true) (hlt : (dsts l).all (Nat.blt · Γ.n) = true)
  (hs : ∀ ξ, H ξ (fun j => Nat.ble l.length j) = cs) (h : YSeq P Γ H l (fun acc cs => ∃ env' cs', Ent Γ acc cs env' cs' ∧ Q .normal env' cs') 0 (fun _ => env) (fun _ _ => True) l) : Cw P Γ (.region id l.toArray true) env cs Q := by
 simp only [Bool.and_eq_true] at hb
 obtain ⟨hb, hnd, hssa, hg⟩ := hb
 have hnodup := nodupB_iff hnd
 unfold Cw
 intro a w d
 obtain ⟨T, Pv, _, hstep, accE, PfE, hIE, hK⟩ := YSeq.out (L := l) (env := env) (T0 := fun _ _ => Tr.any) (Pv0 := fun _ _ => True) (by intro i; simp) (by simp) ⟨fun ξ s t hl => .inr ⟨hl, fun j oj hj => absurd hj (by omega)⟩, fun k v _ => trivial⟩ h
 have hback : ∀ (i : Nat) o, l[i]? = some o → ∀ j ∈ preds o.after, j < i := by
  intro i o ho j hj
  obtain ⟨e, he, hbd, rfl⟩ := mem_preds.1 hj
  have := backFrom_at (k := 0) (i := i) (o := o) hb ho e he hbd
  omega
 have hltn : ∀ (i : Nat) o d, l[i]? = some o → o.dst = some d → d < Γ.n := fun i o d ho hd => by
  have := List.all_eq_true.1 hlt d (List.mem_filterMap.2 ⟨o, List.mem_of_getElem? ho, hd⟩)
  simpa [Nat.blt_eq] using this
 have hguard : ∀ (i : Nat) o, l[i]? = some o → o.guard = none := fun i o ho => guard_none (List.all_eq_true.1 hg o (List.mem_of_getElem? ho))
 have hgd : ∀ (listed : Array Bool) (i : Nat), i < listed.size → listed.getD i true = listed.getD i false := by
  intro listed i hi
  rw [Array.getD_eq_getD_getElem?, Array.getD_eq_getD_getElem?, Array.getElem?_eq_getElem hi]
  rfl
 have fin : ∀ (ξ : Nat → Value) (listed : Array Bool) (a : Act) (w : World), MidY Γ H l env T Pv ξ listed a w → (∀ i, i < l.length → listed.getD i true = true) → Lift Γ Q .normal a w := by
  intro ξ listed a w hmid hall
  have hS : (fun j => listed.getD j true) = fun _ => true := by
   funext j
   by_cases hj : j < l.length
   ·exact hall j hj
   ·rw [Array.getD_eq_getD_getElem?, Array.getElem?_eq_none (by rw [hmid.size]; omega)]
    rfl
  have hd := hmid.den
  have hdone := hmid.done
  have hkeep := hmid.keep
  rw [hS] at hd hdone hkeep
  have hPf : ∀ j, PfE j ξ := by
   intro j
   refine hIE.pf j _ fun hj => ?_
   obtain ⟨o, ho⟩ : ∃ o, l[j]? = some o := ⟨_, List.getElem?_eq_getElem hj⟩
   exact (hdone j o ho (hall j hj)).1
  obtain ⟨env', cs', hE, hq⟩ := hK ξ hPf
  unfold Ent at hE
  refine ⟨env', cs', hq, hE a w ⟨hd.nodefer, hd.tmps, ?_, hd.chunks, hd.nodup, hd.fresh, hd.below, hd.frame⟩⟩
  ·intro s t hl
   rcases hIE.look ξ s t hl with ⟨j, oj, h1, h2, h3, rfl⟩ | ⟨h1, h2⟩
   ·obtain ⟨e1, e2⟩ := (hdone j oj h2 (hall j h1)).2 s h3
    rw [e1]
    exact e2
   ·exact hkeep s t h1 fun k o hk _ => h2 k o (List.getElem?_eq_some_iff.1 hk).1 hk
 have main : ∀ (fuel : Nat) (ξ : Nat → Value) (listed : Array Bool) (a : Act) (w : World), MidY Γ H l env T Pv ξ listed a w → (listed.toList.filter (! ·)).length ≤ fuel → wpAnyIn (fen Γ) 9 P .any l.toArray (Lift Γ Q) fuel listed a w := by
  intro fuel
  have first : ∀ (listed : Array Bool), listed.size = l.length → (∀ i, i < l.length → listed.getD i true = true) ∨ ∃ i, i ∈ Region.ready .any l.toArray listed := by
   intro listed hsz
   have : ∀ n, n ≤ l.length → (∀ j, j < n → listed.getD j true = true) ∨ ∃ i, i < l.length ∧ listed.getD i true = false ∧ ∀ j, j < i → listed.getD j true = true := by
    intro n
    induction n with
    |zero => intro _; exact .inl (fun j hj => by omega)
    |succ n ihn =>
     intro hn
     rcases ihn (by omega) with h | h
     ·cases hc : listed.getD n true with
      |true =>
       refine .inl fun j hj => ?_
       by_cases e : j = n
       ·subst e; exact hc
       ·exact h j (by omega)
      |false => exact .inr ⟨n, by omega, hc, h⟩
     ·exact .inr h
   rcases this _ (Nat.le_refl _) with h | ⟨i, hi, h1, h2⟩
   ·exact .inl h
   ·refine .inr ⟨i, mem_ready.2 ⟨_, List.getElem?_eq_getElem hi, h1, fun j hj => ?_⟩⟩
    have := hback i _ (List.getElem?_eq_getElem hi) j hj
    rw [← hgd listed j (by omega)]
    exact h2 j this
  induction fuel with
  |zero =>
   intro ξ listed a w hmid hf
   have hall : ∀ i, i < l.length → listed.getD i true = true := by
    intro i hi
    have hli : i < listed.size := by rw [hmid.size]; omega
    rw [Array.getD_eq_getD_getElem?, Array.getElem?_eq_getElem hli]
    cases hc : listed[i]'hli with
    |true => rfl
    |false =>
     exfalso
     have : false ∈ listed.toList.filter (! ·) := List.mem_filter.2 ⟨by rw [← hc]; simp, rfl⟩
     have := List.length_pos_of_mem this
     omega
   refine ⟨?_, fin ξ listed a w hmid hall⟩
   refine List.eq_nil_iff_forall_not_mem.2 fun i hi => ?_
   obtain ⟨o, ho, h1, _⟩ := mem_ready.1 hi
   have h9 := hall i (List.getElem?_eq_some_iff.1 ho).1
   rw [h1] at h9
   cases h9
  |succ fuel ih =>
   intro ξ listed a w hmid hf
   refine ⟨fun hr => ?_, ?_⟩
   ·rcases first listed hmid.size with h | ⟨i, hi⟩
    ·exact fin ξ listed a w hmid h
    ·rw [hr] at hi; cases hi
   intro i hi
   obtain ⟨oi, hoi, hl2, hp2⟩ := mem_ready.1 hi
   have hil := (List.getElem?_eq_some_iff.1 hoi).1
   have hli : i < listed.size := by rw [hmid.size]; omega
   have hc : listed[i]'hli = false := by simpa [hli] using hl2
   obtain ⟨acc, Pf, hI, hokI, hx⟩ := hstep i oi (Nat.zero_le _) hoi
   have hpred : ∀ j ∈ preds oi.after, listed.getD j true = true := by
    intro j hj
    have := hback i oi hoi j hj
    rw [hgd listed j (by omega)]
    exact hp2 j hj
   have hnotafter : ∀ k ok, l[k]? = some ok → listed.getD k true = true → i ∉ preds ok.after := by
    intro k ok hk hlk hin
    have h9 := hmid.closed k ok hk hlk i hin
    rw [hl2] at h9
    cases h9
   have hS' : (fun j => (listed.setIfInBounds i true).getD j true) = updD (fun j => listed.getD j true) i := by
    funext j
    by_cases e : j = i
    ·subst e
     rw [updD_same, Array.getD_eq_getD_getElem?, Array.getElem?_setIfInBounds_self]
     simp [hli]
    ·rw [updD_ne _ e, Array.getD_eq_getD_getElem?, Array.getElem?_setIfInBounds_ne (Ne.symm e), ← Array.getD_eq_getD_getElem?]
   generalize hSS : (fun j => listed.getD j true) = S at *
   have hSj : ∀ j, listed.getD j true = S j := fun j => by rw [← hSS]
   have hden : Den Γ (rst (slotsOf oi.op) (acc ξ)) (H ξ S) a w := by
    have dd := hmid.den
    have hdone := hmid.done
    have hkeep := hmid.keep
    rw [hSS] at dd hdone hkeep
    refine ⟨dd.nodefer, dd.tmps, ?_, dd.chunks, dd.nodup, dd.fresh, dd.below, dd.frame⟩
    intro s t hlk
    obtain ⟨hs, hlk⟩ := rst_look hlk
    have hss := ssaFrom_at hssa hoi s hs
    rw [Nat.zero_add] at hss
    rcases hI.look ξ s t hlk with ⟨j, oj, h1, h2, h3, rfl⟩ | ⟨h1, h2⟩
    ·have hjl : listed.getD j true = true := by
      rcases hss with h | ⟨k, hk, p, hkp, hpd⟩
      ·exfalso
       rcases others_spec h2 h3 h with h | h
       ·omega
       ·have := hback j oj h2 i h
        omega
      ·have := nodup_dst hnodup hkp h2 hpd h3
       subst this
       exact hpred k hk
     obtain ⟨e1, e2⟩ := (hdone j oj h2 hjl).2 s h3
     rw [e1]
     exact e2
    ·refine hkeep s t h1 fun k ok hk hlk hd => ?_
     rcases Nat.lt_trichotomy k i with h | rfl | h
     ·exact h2 k ok h hk hd
     ·rw [hl2] at hlk
      cases hlk
     ·rcases hss with h3 | ⟨k', hk', p, hkp, hpd⟩
      ·rcases others_spec hk hd h3 with h | h
       ·omega
       ·exact hnotafter k ok hk hlk h
      ·exact h2 k' p (hback i oi hoi k' hk') hkp hpd
   have hmden := hmid.den
   rw [hSS] at hmden
   have hx := hx ξ S (by rw [← hSj]; exact hl2) (fun j hj => by rw [← hSj]; exact hpred j hj) (fun k ok hk h j hj => by rw [← hSj] at h ⊢; exact hmid.closed k ok hk h j hj)
    (fun k hk => hI.pf k _ fun hki => by
     obtain ⟨ok, hok⟩ : ∃ ok, l[k]? = some ok := ⟨_, List.getElem?_eq_getElem (by omega)⟩
     exact (hmid.done k ok hok (by rw [hSj]; exact hk)).1) a w hden
   have hop : l.toArray[i]? = some oi := by simpa using hoi
   unfold wpOpIn
   simp only [hop]
   rw [if_pos (by unfold Region.wanted; rw [hguard i oi hoi])]
   refine (hx _ _ fun v w' hPv hrd hpres => ih (upd ξ i v) _ _ _ ?_ ?_)
   ·have hfact : ∀ {s : Nat} {t : Tr}, t.rd w (av Γ.M (H ξ S)) (a.tmps.getD s undef) → t.rd w' (av Γ.M (H (upd ξ i v) (updD S i))) (a.tmps.getD s undef) := by
     intro s t ht
     have dd := hmden
     have d1 : Den Γ [(s, t)] (H ξ S) a w := ⟨dd.nodefer, dd.tmps, fun i u hl => by
      by_cases e : s = i
      ·subst e; rw [look_cons_same] at hl; cases hl; exact ht
      ·rw [look_cons_ne _ _ e] at hl; simp [look] at hl, dd.chunks, dd.nodup, dd.fresh, dd.below, dd.frame⟩
     exact (hpres _ d1).env s t (look_cons_same _ _ _)
    have hput : ∀ s, oi.dst ≠ some s → (a.put oi.dst v).tmps.getD s undef = a.tmps.getD s undef := by
     intro s hs
     cases hd : oi.dst with
     |none => rfl
     |some x =>
      have hne : x ≠ s := fun e => hs (by rw [hd, e])
      simp [Act.put, Array.getElem?_setIfInBounds_ne hne]
    have hset : ∀ k, (listed.setIfInBounds i true).getD k true = true → k = i ∨ S k = true := by
     intro k hk
     by_cases e : k = i
     ·exact .inl e
     ·refine .inr ?_
      have := congrFun hS' k
      try simp only at this
      rw [hk, updD_ne _ e] at this
      exact this.symm
    have hset2 : ∀ k, S k = true → (listed.setIfInBounds i true).getD k true = true := by
     intro k hk
     have := congrFun hS' k
     try simp only at this
     rw [this]
     by_cases e : k = i
     ·rw [e, updD_same]
     ·rw [updD_ne _ e]; exact hk
    have hkeep := hmid.keep
    have hdone := hmid.done
    rw [hSS] at hkeep hdone
    refine ⟨?_, by simpa using hmid.size, ?_, ?_, ?_⟩
    ·rw [hS']
     have dd := hpres _ hmden
     cases oi.dst with
     |none => exact ⟨dd.nodefer, dd.tmps, fun q t hlk => by simp [look] at hlk, dd.chunks, dd.nodup, dd.fresh, dd.below, dd.frame⟩
     |some x => exact ⟨dd.nodefer, by simpa [Act.put] using dd.tmps, fun q t hlk => by simp [look] at hlk, dd.chunks, dd.nodup, dd.fresh, dd.below, dd.frame⟩
    ·intro s t hlk hno
     rw [hS']
     rw [hput s (hno i oi hoi (by
      have := congrFun hS' i
      try simp only at this
      rw [this, updD_same]))]
     exact hfact (hkeep s t hlk fun k o hk hl => hno k o hk (hset2 k (by rw [← hSj]; exact hl)))
    ·intro j o hoj hj
     rw [hS']
     by_cases e : j = i
     ·subst e
      rw [hoi] at hoj
      cases hoj
      rw [upd_same]
      refine ⟨hPv, fun d hd => ⟨?_, hrd⟩⟩
      have hs : d < a.tmps.size := by rw [hmden.tmps]; exact hltn j oi d hoi hd
      rw [hd]
      simp [Act.put, hs]
     ·have hj' : listed.getD j true = true := by
       rcases hset j hj with h | h
       ·exact absurd h e
       ·rw [hSj]; exact h
      rw [upd_ne _ _ e]
      obtain ⟨g1, g2⟩ := hdone j o hoj hj'
      obtain ⟨_, _, _, ⟨hokJ, hokT⟩, _⟩ := hstep j o (Nat.zero_le _) hoj
      have hclo : Clo l S := fun k ok hk h j hj => by rw [← hSj] at h ⊢; exact hmid.closed k ok hk h j hj
      have hsj : S j = true := by rw [← hSj]; exact hj'
      have hsi : S i = false := by rw [← hSj]; exact hl2
      rw [hokT ξ i v S hclo hsj hsi]
      refine ⟨hokJ ξ i v S hclo hsj hsi g1, fun d hd => ?_⟩
      obtain ⟨g3, g4⟩ := g2 d hd
      have hne : oi.dst ≠ some d := fun e2 => e (nodup_dst hnodup hoj hoi hd e2)
      rw [hput d hne]
      refine ⟨g3, ?_⟩
      have := hfact (s := d) (t := T j ξ) (by rw [g3]; exact g4)
      rwa [g3] at this
    ·intro k o hk hkl j hj
     rcases hset k hkl with rfl | h
     ·rw [hoi] at hk
      cases hk
      exact hset2 j (by rw [← hSj]; exact hpred j hj)
     ·refine hset2 j ?_
      rw [← hSj]
      exact hmid.closed k o hk (by rw [hSj]; exact h) j hj
   ·have hfs := filter_set listed.toList i (by simp [hli, hc])
    rw [Array.toList_setIfInBounds]
    omega
 refine wpIn_region_any hm ?_
 have hS0 : (fun j => (Array.replicate l.toArray.size false).getD j true) = fun j => Nat.ble l.length j := by
  funext j
  rw [Array.getD_eq_getD_getElem?, Array.getElem?_replicate]
  by_cases hj : j < l.length
  ·have hb : Nat.ble l.length j = false := by rw [← Bool.not_eq_true]; intro h; have := Nat.le_of_ble_eq_true h; omega
   rw [hb]
   simp [hj]
  ·have hb : Nat.ble l.length j = true := Nat.ble_eq_true_of_le (by omega)
   rw [hb]
   simp [hj]
 have hno : ∀ k o, l[k]? = some o → (Array.replicate l.toArray.size false).getD k true = true → False := by
  intro k o hk hkl
  have := congrFun hS0 k
  try simp only at this
  rw [this] at hkl
  have := Nat.le_of_ble_eq_true hkl
  have := (List.getElem?_eq_some_iff.1 hk).1
  omega
 have dd := d.drew
 refine main _ (fun _ => undef) _ _ _ ⟨?_, by simp, ?_, fun i o ho hi => (hno i o ho hi).elim, fun k o hk hkl => (hno k o hk hkl).elim⟩ (by simp)
 ·rw [hS0, hs]
  exact ⟨dd.nodefer, dd.tmps, fun i t hlk => by simp [look] at hlk, dd.chunks, dd.nodup, dd.fresh, dd.below, dd.frame⟩
 ·intro s t hlk _
  rw [hS0, hs]
  exact dd.env s t hlk

/-! ### its rules -/
variable {cf : List Chunk} {K : Env → List Chunk → Prop} {n : Nat} {l : List Oper} {Pf : Nat → (Nat → Value) → Prop} {i d : Nat} {op : Op} {ty : TypeId} {pos : String} {af : Array Edge} {acc : (Nat → Value) → Env}
theorem YSeq.nil (h : ∀ ξ : Nat → Value, (∀ j, Pf j ξ) → K (acc ξ) (H ξ fun _ => true)) : YSeq P Γ H L K n acc Pf [] := h
theorem YSeq.cons {o : Oper} {T : (Nat → Value) → Tr} {Pv : (Nat → Value) → Prop} (ok : PvOkY L n Pv) (ok2 : TOk L n T) (h : YStep P Γ H L Pf n o acc T Pv) (k : YSeq P Γ H L K (n + 1) (accY o T acc) (pfY n Pv Pf) l) : YSeq P Γ H L K n acc Pf (o :: l) := ⟨T, Pv, ⟨ok, ok2⟩, h, k⟩
theorem PvOkY.triv : PvOkY L n (fun _ => True) := fun _ _ _ _ _ _ _ _ => trivial
theorem PvOkY.own {p : Value → Prop} : PvOkY L n (fun ξ => p (ξ n)) := fun ξ k v S _ h1 h2 h => by
 show p (upd ξ k v n)
 rw [upd_S h1 h2]
 exact h
theorem TOk.own {T : Value → Tr} : TOk L n (fun ξ => T (ξ n)) := fun ξ k v S _ h1 h2 => by
 show T (upd ξ k v n) = T (ξ n)
 rw [upd_S h1 h2]
theorem TOk.const {t : Tr} : TOk L n (fun _ => t) := fun _ _ _ _ _ _ _ => rfl
/-- an operation that turns no memory that is owned -/
theorem YSeq.w {t : (Nat → Value) → Tr} (hH : ∀ ξ S v, H (upd ξ n v) (updD S n) = H ξ S)
  (h : ∀ (ξ : Nat → Value) (S : Nat → Bool), S n = false → (∀ j ∈ preds af, S j = true) → Clo L S → (∀ k, S k = true → Pf k ξ) → OpW P Γ op ty (rst (slotsOf op) (acc ξ)) (H ξ S) (t ξ))
  (ht : ∀ ξ v, t (upd ξ n v) = t ξ) (hT : TOk L n t)
  (k : YSeq P Γ H L K (n + 1) (fun ξ => (d, t ξ) :: acc ξ) (pfY n (fun _ => True) Pf) l) : YSeq P Γ H L K n acc Pf (⟨some d, op, ty, pos, af, none⟩ :: l) := by
 refine YSeq.cons PvOkY.triv hT ?_ k
 unfold YStep
 intro ξ S h1 h2 h3 h4 a w dd next F hk
 have h := h ξ S h1 h2 h3 h4
 unfold OpW at h
 refine h a w dd d pos af none next F fun v w' hv hp => hk v w' trivial ?_ ?_
 ·rw [hH, ht]; exact hv
 ·intro env2 d2
  rw [hH]
  exact hp env2 d2
theorem YSeq.alloc {T : TypeId} {zs : List Value} [hz : TyZero P T zs] (hH : ∀ (ξ : Nat → Value) (S : Nat → Bool) (b : Nat), S n = false → Clo L S → (H (upd ξ n (.pointer (some ⟨b, 0, none⟩))) (updD S n)).Perm (Chunk.box b T (zs.map Tr.raw) :: H ξ S))
  (k : YSeq P Γ H L K (n + 1) (fun ξ => (d, Tr.raw (.pointer (some ⟨blk (ξ n), 0, none⟩))) :: acc ξ) (pfY n (fun _ => True) Pf) l) : YSeq P Γ H L K n acc Pf (⟨some d, .alloc T, ty, pos, af, none⟩ :: l) := by
 refine YSeq.cons PvOkY.triv (TOk.own (T := fun v => Tr.raw (.pointer (some ⟨blk v, 0, none⟩)))) ?_ k
 unfold YStep
 intro ξ S h1 h2 h3 h4 a w dd next F hk
 obtain ⟨ti, zv, e1, e2, e3⟩ := hz.h
 have hrun : (execOp a.eval ⟨some d, .alloc T, ty, pos, af, none⟩).run P w = .ok (.value (.pointer (some ⟨w.heap.size, 0, none⟩))) (w.alloc (.cells zv.cells T)) := by
  simp [execOp, Instr.alloc, zeroValue, typeInfo, e1, e2, newVar, newRow] <;> rfl
 refine opIn_of_run hrun ⟨(by intro d h; cases h), (by intro x y h; cases h)⟩ ?_
 refine hk _ _ trivial ?_ fun env2 d2 => ?_
 ·simp only [upd_same, blk]
  exact raw_self _
 have hd := d2.newblock zv.cells T (ts := zs.map Tr.raw) (by rw [e3]; exact rdc_raw hz.one)
 exact hd.perm (hH ξ S _ h1 h3).symm
theorem YSeq.store {T : TypeId} {x y : Operand} {m : Nat} [hT : TySz P T m]
  (h : ∀ (ξ : Nat → Value) (S : Nat → Bool), S n = false → (∀ j ∈ preds af, S j = true) → Clo L S → (∀ k, S k = true → Pf k ξ) →
   ∃ (b o : Nat) (e : TypeId) (ts us : List Tr) (t : Tr) (cf : List Chunk), ev (rst (slotsOf (.store T x y)) (acc ξ)) x = some (.raw (.pointer (some ⟨b, o, none⟩))) ∧ ev (rst (slotsOf (.store T x y)) (acc ξ)) y = some t ∧ RowT t us ∧ (H ξ S).Perm (Chunk.box b e ts :: cf) ∧ us.length = m ∧ o + m ≤ ts.length ∧ (H (upd ξ n undef) (updD S n)).Perm (Chunk.box b e (ts.take o ++ us ++ ts.drop (o + m)) :: cf))
  (k : YSeq P Γ H L K (n + 1) acc (pfY n (fun _ => True) Pf) l) : YSeq P Γ H L K n acc Pf (⟨none, .store T x y, ty, pos, af, none⟩ :: l) := by
 refine YSeq.cons PvOkY.triv (TOk.const (t := Tr.any)) ?_ k
 unfold YStep
 intro ξ S h1 h2 h3 h4 a w d next F hk
 obtain ⟨b, o, e, ts, us, t, cf, hx, hy, hr, hp, hn, ho, hq⟩ := h ξ S h1 h2 h3 h4
 have hv := rd_raw (d.ev hx)
 have hu := hr.h _ _ _ (d.ev hy)
 have hbx := d.has hp
 generalize hA : av Γ.M (H ξ S) = A at *
 have hbx2 := hbx
 unfold Chunk.box at hbx2
 obtain ⟨cur, hb, hc⟩ := hbx2
 have hl : (a.eval y).cells.size = m := by rw [← Array.length_toList, hu.length, hn]
 have hcl := hc.length
 have hrun := run_storeAt (P := P) (T := T) (w := w) (off := o) (v := a.eval y) hb hT.size hl (by simp at hcl; omega) hu.one
 have hx2 : (execOp a.eval ⟨none, .store T x y, ty, pos, af, none⟩).run P w = .ok .skip (w.setRow b (cur.toList.take o ++ (a.eval y).cells.toList ++ cur.toList.drop (o + m)).toArray) := by simp [execOp, hv, hrun] <;> rfl
 refine opIn_of_run hx2 ⟨(by intro d h; cases h), (by intro x y h; cases h)⟩ ?_
 refine hk _ _ trivial tr_any_self fun env2 d2 => ?_
 have ea := av_perm hp Γ.M
 refine Den.perm ?_ hq.symm
 refine (d2.perm hp).store (cur := cur.toList) (e := e) (by unfold Chunk.box; rfl) (by unfold Chunk.box; rfl) (by simpa using hb) ?_
 intro hs hg _
 generalize hA2 : av Γ.M (Chunk.box b e (ts.take o ++ us ++ ts.drop (o + m)) :: cf) = A2 at *
 unfold Chunk.box
 exact ⟨_, hg, by
  have h1 := ((hc.take o).app hu).app (hc.drop (o + m))
  rw [← hA, ea] at h1
  have h2 := h1.mono hs
  simpa only [List.append_assoc] using h2⟩
/-- any call: T says what it yields -/
theorem YSeq.call {f : FuncId} {ol : List Operand} {ts : Array TypeId} {T : (Nat → Value) → Tr} {Pv : (Nat → Value) → Prop} (ok : PvOkY L n Pv) (ok2 : TOk L n T)
  (h : ∀ (ξ : Nat → Value) (S : Nat → Bool), S n = false → (∀ j ∈ preds af, S j = true) → Clo L S → (∀ k, S k = true → Pf k ξ) →
   ∃ (args : List Tr) (cin cf : List Chunk) (post : Tr → List Chunk → Prop), Spec P f args cin post ∧ Evs (rst (slotsOf (.call ⟨.value (.func f), ol.toArray, ts⟩)) (acc ξ)) ol args ∧ (H ξ S).Perm (cin ++ cf) ∧
    ∀ r cs', post r cs' → ∀ w A v, r.rd w A v → (T (upd ξ n v)).rd w A v ∧ Pv (upd ξ n v) ∧ (H (upd ξ n v) (updD S n)).Perm (cs' ++ cf))
  (k : YSeq P Γ H L K (n + 1) (fun ξ => (d, T ξ) :: acc ξ) (pfY n Pv Pf) l) : YSeq P Γ H L K n acc Pf (⟨some d, .call ⟨.value (.func f), ol.toArray, ts⟩, ty, pos, af, none⟩ :: l) := by
 refine YSeq.cons ok ok2 ?_ k
 unfold YStep
 intro ξ S h1 h2 h3 h4 a w dd next F hk
 obtain ⟨args, cin, cf, post, hs, ha, hp, hq⟩ := h ξ S h1 h2 h3 h4
 have hcc := call_core2 (cf := cf) hs dd hp (ha.rd dd)
 have hrun : (execOp a.eval ⟨some d, .call ⟨.value (.func f), ol.toArray, ts⟩, ty, pos, af, none⟩).run P w = .ok (.enter f (ol.map a.eval).toArray) w := by
  unfold Spec at hs
  have := hs.1 (ol.map a.eval).toArray w
  simp [execOp, resolve, invoke, Deferred.ofValue, Act.eval, this]
 refine opIn_of_run hrun ⟨(by intro d h; cases h), (by intro x y h; cases h)⟩ ?_
 refine hcc.mono ?_
 rintro e w' ⟨v, r, cs', rfl, hpo, hrd, hd⟩
 obtain ⟨g1, g2, g3⟩ := hq r cs' hpo _ _ _ hrd
 refine hk _ _ g2 ?_ fun env2 h2 => (hd env2 h2).perm g3.symm
 rw [av_perm g3]
 exact g1
/-- a call that hands out a slice -/
theorem YSeq.callO {f : FuncId} {ol : List Operand} {ts : Array TypeId} {kk E : Nat} (m : Nat)
  (h : ∀ (ξ : Nat → Value) (S : Nat → Bool), S n = false → (∀ j ∈ preds af, S j = true) → Clo L S → (∀ k, S k = true → Pf k ξ) →
   ∃ (args : List Tr) (rows : List (List Tr)), PFnO P f args kk E (· = rows) ∧ Evs (rst (slotsOf (.call ⟨.value (.func f), ol.toArray, ts⟩)) (acc ξ)) ol args ∧ rows.length = m ∧ ∀ ad cap, (H (upd ξ n (.slice ad m cap)) (updD S n)).Perm (Chunk.own ad cap kk E rows :: H ξ S))
  (k : YSeq P Γ H L K (n + 1) (fun ξ => (d, Tr.raw (.slice (vAd (ξ n)) m (vCap (ξ n)))) :: acc ξ) (pfY n (fun _ => True) Pf) l) : YSeq P Γ H L K n acc Pf (⟨some d, .call ⟨.value (.func f), ol.toArray, ts⟩, ty, pos, af, none⟩ :: l) := by
 refine YSeq.call PvOkY.triv (TOk.own (T := fun v => Tr.raw (.slice (vAd v) m (vCap v)))) ?_ k
 intro ξ S h1 h2 h3 h4
 obtain ⟨args, rows, hs, ha, hm, hp⟩ := h ξ S h1 h2 h3 h4
 subst hm
 unfold PFnO at hs
 refine ⟨args, [], H ξ S, _, hs, ha, List.Perm.refl _, ?_⟩
 rintro r cs' ⟨ad, cap, rows', rfl, rfl, rfl⟩ w A v hr
 have hv := rd_raw hr
 subst hv
 refine ⟨?_, trivial, hp ad cap⟩
 simp only [upd_same, vAd, vCap]
 exact raw_self _
/-- a call that writes nothing -/
theorem YSeq.callV {f : FuncId} {ol : List Operand} {ts : Array TypeId} {t : (Nat → Value) → Tr} (hH : ∀ ξ S v, H (upd ξ n v) (updD S n) = H ξ S)
  (h : ∀ (ξ : Nat → Value) (S : Nat → Bool), S n = false → (∀ j ∈ preds af, S j = true) → Clo L S → (∀ k, S k = true → Pf k ξ) →
   ∃ (args : List Tr), Evs (rst (slotsOf (.call ⟨.value (.func f), ol.toArray, ts⟩)) (acc ξ)) ol args ∧ PFn P f args (· = t ξ))
  (ht : ∀ ξ v, t (upd ξ n v) = t ξ) (hT : TOk L n t)
  (k : YSeq P Γ H L K (n + 1) (fun ξ => (d, t ξ) :: acc ξ) (pfY n (fun _ => True) Pf) l) : YSeq P Γ H L K n acc Pf (⟨some d, .call ⟨.value (.func f), ol.toArray, ts⟩, ty, pos, af, none⟩ :: l) := by
 refine YSeq.call PvOkY.triv hT ?_ k
 intro ξ S h1 h2 h3 h4
 obtain ⟨args, ha, hs⟩ := h ξ S h1 h2 h3 h4
 unfold PFn at hs
 refine ⟨args, [], H ξ S, _, hs, ha, List.Perm.refl _, ?_⟩
 rintro r cs' ⟨rfl, rfl⟩ w A v hr
 exact ⟨by rw [ht]; exact hr, trivial, by rw [hH]; exact List.Perm.refl _⟩
end y
end Lg
