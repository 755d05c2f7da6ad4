/- A part of the proof of a law of this seat: it adds no condition. By an AI agent. -/
import Derived.Laws.Small
import Derived.Lib.Overlaps
import Derived.Lib.AppendZerosOnto
import Derived.Test.YtflfdomajimpjaaDoorLgX5
section
set_option linter.all false
namespace Lg
open Go

/-! ### regions whose order is open: as LgX, but what an operation yields may be said by what others have yielded -/
section y
variable {P : Program} {Γ : Ctx} {env base : Env} {cs : List Chunk} {Q : Post} {H : (Nat → Value) → (Nat → Bool) → List Chunk} {L : List Oper}

/-- what an operation does once those that it waits for are done -/
def YStep (P : Program) (Γ : Ctx) (H : (Nat → Value) → (Nat → Bool) → List Chunk) (L : List Oper) (Pf : Nat → (Nat → Value) → Prop) (i : Nat) (o : Oper) (acc : (Nat → Value) → Env) (T : (Nat → Value) → Tr) (Pv : (Nat → Value) → Prop) : Prop :=
  ∀ (ξ : Nat → Value) (S : Nat → Bool), S i = false → (∀ j ∈ preds o.after, S j = true) → (∀ k ok, L[k]? = some ok → S k = true → ∀ j ∈ preds ok.after, S j = true) → (∀ k, S k = true → Pf k ξ) →
    ∀ a w, Den Γ (rst (slotsOf o.op) (acc ξ)) (H ξ S) a w → ∀ (next : Act → World → Prop) (F : Exit → Act → World → Prop),
      (∀ v w', Pv (upd ξ i v) → (T (upd ξ i v)).rd w' (av Γ.M (H (upd ξ i v) (updD S i))) v → (∀ env2, Den Γ env2 (H ξ S) a w → Den Γ env2 (H (upd ξ i v) (updD S i)) a w') → next (a.put o.dst v) w') → Oper.wp P o a w next F

def accY (o : Oper) (T : (Nat → Value) → Tr) (acc : (Nat → Value) → Env) : (Nat → Value) → Env := fun ξ => match o.dst with
  | some d => (d, T ξ) :: acc ξ
  | none => acc ξ
def pfY (n : Nat) (Pv : (Nat → Value) → Prop) (Pf : Nat → (Nat → Value) → Prop) : Nat → (Nat → Value) → Prop := fun j ξ => match Nat.beq j n with
  | true => Pv ξ
  | false => Pf j ξ
def Clo (L : List Oper) (S : Nat → Bool) : Prop := ∀ k ok, L[k]? = some ok → S k = true → ∀ j ∈ preds ok.after, S j = true
/-- it speaks of the operation's own value, and of those that it waits for -/
def PvOkY (L : List Oper) (n : Nat) (Pv : (Nat → Value) → Prop) : Prop := ∀ ξ k v S, Clo L S → S n = true → S k = false → Pv ξ → Pv (upd ξ k v)
def TOk (L : List Oper) (n : Nat) (T : (Nat → Value) → Tr) : Prop := ∀ ξ k v S, Clo L S → S n = true → S k = false → T (upd ξ k v) = T ξ
theorem upd_S {S : Nat → Bool} {m k : Nat} (h1 : S m = true) (h2 : S k = false) (ξ : Nat → Value) (v : Value) : upd ξ k v m = ξ m := upd_ne ξ v (fun e => by subst e; rw [h1] at h2; cases h2)

def YSeq (P : Program) (Γ : Ctx) (H : (Nat → Value) → (Nat → Bool) → List Chunk) (L : List Oper) (K : Env → List Chunk → Prop) : Nat → ((Nat → Value) → Env) → (Nat → (Nat → Value) → Prop) → List Oper → Prop
  | _, acc, Pf, [] => ∀ ξ : Nat → Value, (∀ j, Pf j ξ) → K (acc ξ) (H ξ fun _ => true)
  | n, acc, Pf, o :: l => ∃ (T : (Nat → Value) → Tr) (Pv : (Nat → Value) → Prop), (PvOkY L n Pv ∧ TOk L n T) ∧ YStep P Γ H L Pf n o acc T Pv ∧ YSeq P Γ H L K (n + 1) (accY o T acc) (pfY n Pv Pf) l

structure YI (L : List Oper) (env : Env) (n : Nat) (acc : (Nat → Value) → Env) (Pf : Nat → (Nat → Value) → Prop) (T : Nat → (Nat → Value) → Tr) (Pv : Nat → (Nat → Value) → Prop) : Prop where
  look : ∀ ξ s t, Lg.look (acc ξ) s = some t → (∃ j oj, j < n ∧ L[j]? = some oj ∧ oj.dst = some s ∧ t = T j ξ) ∨ (Lg.look env s = some t ∧ ∀ j oj, j < n → L[j]? = some oj → oj.dst ≠ some s)
  pf : ∀ (k : Nat) (ξ : Nat → Value), (k < n → Pv k ξ) → Pf k ξ
theorem YI.agree {n : Nat} {acc : (Nat → Value) → Env} {Pf : Nat → (Nat → Value) → Prop} {T T' : Nat → (Nat → Value) → Tr} {Pv Pv' : Nat → (Nat → Value) → Prop} (h : YI L env n acc Pf T Pv) (e : ∀ j, j < n → T' j = T j ∧ Pv' j = Pv j) : YI L env n acc Pf T' Pv' := by
  refine ⟨fun ξ s t hl => ?_, fun k v hk => h.pf k v fun hkn => ?_⟩
  · rcases h.look ξ s t hl with ⟨j, oj, h1, h2, h3, h4⟩ | h
    · exact .inl ⟨j, oj, h1, h2, h3, by rw [(e j h1).1]; exact h4⟩
    · exact .inr h
  · rw [← (e k hkn).2]
    exact hk hkn

theorem YSeq.out {K : Env → List Chunk → Prop} : ∀ {l : List Oper} {n : Nat} {acc : (Nat → Value) → Env} {Pf : Nat → (Nat → Value) → Prop} {T0 : Nat → (Nat → Value) → Tr} {Pv0 : Nat → (Nat → Value) → Prop},
    (∀ i : Nat, l[i]? = L[n + i]?) → n + l.length = L.length → YI L env n acc Pf T0 Pv0 → YSeq P Γ H L K n acc Pf l →
    ∃ (T : Nat → (Nat → Value) → Tr) (Pv : Nat → (Nat → Value) → Prop), (∀ j, j < n → T j = T0 j ∧ Pv j = Pv0 j) ∧
      (∀ i o, n ≤ i → L[i]? = some o → ∃ acc Pf, YI L env i acc Pf T Pv ∧ (PvOkY L i (Pv i) ∧ TOk L i (T i)) ∧ YStep P Γ H L Pf i o acc (T i) (Pv i)) ∧
      (∃ acc Pf, YI L env L.length acc Pf T Pv ∧ ∀ ξ : Nat → Value, (∀ j, Pf j ξ) → K (acc ξ) (H ξ fun _ => true))
  | [], n, acc, Pf, T0, Pv0, hL, hn, hI, h => by
    simp at hn
    refine ⟨T0, Pv0, fun j _ => ⟨rfl, rfl⟩, fun i o hi ho => ?_, acc, Pf, by rw [← hn]; exact hI, h⟩
    have := (List.getElem?_eq_some_iff.1 ho).1
    omega
  | o :: l, n, acc, Pf, T0, Pv0, hL, hn, hI, ⟨T1, Pv1, hok, hst, hk⟩ => by
    have ho : L[n]? = some o := by have := hL 0; simpa using this.symm
    have hI' : YI L env (n + 1) (accY o T1 acc) (pfY n Pv1 Pf) (fun j => match Nat.beq j n with | true => T1 | false => T0 j) (fun j => match Nat.beq j n with | true => Pv1 | false => Pv0 j) := by
      refine ⟨fun ξ s t hl => ?_, fun k v hkv => ?_⟩
      · have old : look (acc ξ) s = some t → (∀ d, o.dst = some d → d ≠ s) → (∃ j oj, j < n + 1 ∧ L[j]? = some oj ∧ oj.dst = some s ∧ t = (match Nat.beq j n with | true => T1 | false => T0 j) ξ) ∨ (look env s = some t ∧ ∀ j oj, j < n + 1 → L[j]? = some oj → oj.dst ≠ some s) := by
          intro hl hd
          rcases hI.look ξ s t hl with ⟨j, oj, h1, h2, h3, h4⟩ | ⟨h1, h2⟩
          · refine .inl ⟨j, oj, by omega, h2, h3, ?_⟩
            rw [nbeq_ne (show j ≠ n by omega)]
            exact h4
          · refine .inr ⟨h1, fun j oj hj hoj => ?_⟩
            by_cases e : j = n
            · subst e
              rw [ho] at hoj
              cases hoj
              intro hd2
              exact hd s hd2 rfl
            · exact h2 j oj (by omega) hoj
        unfold accY at hl
        cases hd : o.dst with
        | none =>
          rw [hd] at hl
          exact old hl (fun d h => by rw [hd] at h; cases h)
        | some d =>
          rw [hd] at hl
          by_cases e : d = s
          · subst e
            simp only at hl
            rw [look_cons_same] at hl
            cases hl
            exact .inl ⟨n, o, by omega, ho, hd, by simp⟩
          · simp only at hl
            rw [look_cons_ne _ _ e] at hl
            exact old hl (fun d' h => by rw [hd] at h; cases h; exact e)
      · unfold pfY
        by_cases e : k = n
        · subst e
          have := hkv (by omega)
          simpa using this
        · have hb : Nat.beq k n = false := nbeq_ne e
          rw [hb]
          refine hI.pf k v fun hkn => ?_
          have := hkv (by omega)
          rw [hb] at this
          exact this
    obtain ⟨T, Pv, h1, h2, h3⟩ := YSeq.out (l := l) (n := n + 1) (by intro i; have := hL (i + 1); simpa [Nat.add_assoc, Nat.add_comm 1] using this) (by simp at hn; omega) hI' hk
    have hag : ∀ j, j < n → T j = T0 j ∧ Pv j = Pv0 j := by
      intro j hj
      have := h1 j (by omega)
      rw [nbeq_ne (show j ≠ n by omega)] at this
      exact this
    have hn1 := h1 n (by omega)
    simp only [Nat.beq_refl] at hn1
    refine ⟨T, Pv, hag, fun i o' hi ho' => ?_, h3⟩
    by_cases e : i = n
    · subst e
      rw [ho] at ho'
      cases ho'
      exact ⟨acc, Pf, hI.agree hag, by rw [hn1.1, hn1.2]; exact hok, by rw [hn1.1, hn1.2]; exact hst⟩
    · exact h2 i o' (by omega) ho'

structure MidY (Γ : Ctx) (H : (Nat → Value) → (Nat → Bool) → List Chunk) (L : List Oper) (env : Env) (T : Nat → (Nat → Value) → Tr) (Pv : Nat → (Nat → Value) → Prop) (ξ : Nat → Value) (listed : Array Bool) (a : Act) (w : World) : Prop where
  den : Den Γ [] (H ξ fun j => listed.getD j true) a w
  size : listed.size = L.length
  keep : ∀ s t, look env s = some t → (∀ k o, L[k]? = some o → listed.getD k true = true → o.dst ≠ some s) → t.rd w (av Γ.M (H ξ fun j => listed.getD j true)) (a.tmps.getD s undef)
  done : ∀ i o, L[i]? = some o → listed.getD i true = true → Pv i ξ ∧ ∀ d, o.dst = some d → a.tmps.getD d undef = ξ i ∧ (T i ξ).rd w (av Γ.M (H ξ fun j => listed.getD j true)) (ξ i)
  closed : ∀ k o, L[k]? = some o → listed.getD k true = true → ∀ j ∈ preds o.after, listed.getD j true = true

theorem Cw.region_Y {id : Nat} {l : List Oper} (H : (Nat → Value) → (Nat → Bool) → List Chunk) (hm : P.follows .mixedOrders = true) (hb : (backOk l && (nodupB (dsts l) && (ssaFrom l 0 l && noGuards l))) = true) (hlt : (dsts l).all (Nat.blt · Γ.n) = true)
    (hs : ∀ ξ, H ξ (fun j => Nat.ble l.length j) = cs) (h : YSeq P Γ H l (fun acc cs => ∃ env' cs', Ent Γ acc cs env' cs' ∧ Q .normal env' cs') 0 (fun _ => env) (fun _ _ => True) l) : Cw P Γ (.region id l.toArray true) env cs Q := by
  simp only [Bool.and_eq_true] at hb
  obtain ⟨hb, hnd, hssa, hg⟩ := hb
  have hnodup := nodupB_iff hnd
  unfold Cw
  intro a w d
  obtain ⟨T, Pv, _, hstep, accE, PfE, hIE, hK⟩ := YSeq.out (L := l) (env := env) (T0 := fun _ _ => Tr.any) (Pv0 := fun _ _ => True) (by intro i; simp) (by simp) ⟨fun ξ s t hl => .inr ⟨hl, fun j oj hj => absurd hj (by omega)⟩, fun k v _ => trivial⟩ h
  have hback : ∀ (i : Nat) o, l[i]? = some o → ∀ j ∈ preds o.after, j < i := by
    intro i o ho j hj
    obtain ⟨e, he, hbd, rfl⟩ := mem_preds.1 hj
    have := backFrom_at (k := 0) (i := i) (o := o) hb ho e he hbd
    omega
  have hltn : ∀ (i : Nat) o d, l[i]? = some o → o.dst = some d → d < Γ.n := fun i o d ho hd => by
    have := List.all_eq_true.1 hlt d (List.mem_filterMap.2 ⟨o, List.mem_of_getElem? ho, hd⟩)
    simpa [Nat.blt_eq] using this
  have hguard : ∀ (i : Nat) o, l[i]? = some o → o.guard = none := fun i o ho => guard_none (List.all_eq_true.1 hg o (List.mem_of_getElem? ho))
  have hgd : ∀ (listed : Array Bool) (i : Nat), i < listed.size → listed.getD i true = listed.getD i false := by
    intro listed i hi
    rw [Array.getD_eq_getD_getElem?, Array.getD_eq_getD_getElem?, Array.getElem?_eq_getElem hi]
    rfl
  have fin : ∀ (ξ : Nat → Value) (listed : Array Bool) (a : Act) (w : World), MidY Γ H l env T Pv ξ listed a w → (∀ i, i < l.length → listed.getD i true = true) → Lift Γ Q .normal a w := by
    intro ξ listed a w hmid hall
    have hS : (fun j => listed.getD j true) = fun _ => true := by
      funext j
      by_cases hj : j < l.length
      · exact hall j hj
      · rw [Array.getD_eq_getD_getElem?, Array.getElem?_eq_none (by rw [hmid.size]; omega)]
        rfl
    have hd := hmid.den
    have hdone := hmid.done
    have hkeep := hmid.keep
    rw [hS] at hd hdone hkeep
    have hPf : ∀ j, PfE j ξ := by
      intro j
      refine hIE.pf j _ fun hj => ?_
      obtain ⟨o, ho⟩ : ∃ o, l[j]? = some o := ⟨_, List.getElem?_eq_getElem hj⟩
      exact (hdone j o ho (hall j hj)).1
    obtain ⟨env', cs', hE, hq⟩ := hK ξ hPf
    unfold Ent at hE
    refine ⟨env', cs', hq, hE a w ⟨hd.nodefer, hd.tmps, ?_, hd.chunks, hd.nodup, hd.fresh, hd.below, hd.frame⟩⟩
    · intro s t hl
      rcases hIE.look ξ s t hl with ⟨j, oj, h1, h2, h3, rfl⟩ | ⟨h1, h2⟩
      · obtain ⟨e1, e2⟩ := (hdone j oj h2 (hall j h1)).2 s h3
        rw [e1]
        exact e2
      · exact hkeep s t h1 fun k o hk _ => h2 k o (List.getElem?_eq_some_iff.1 hk).1 hk
  have main : ∀ (fuel : Nat) (ξ : Nat → Value) (listed : Array Bool) (a : Act) (w : World), MidY Γ H l env T Pv ξ listed a w → (listed.toList.filter (! ·)).length ≤ fuel → wpAny P .any l.toArray (Lift Γ Q) fuel listed a w := by
    intro fuel
    have first : ∀ (listed : Array Bool), listed.size = l.length → (∀ i, i < l.length → listed.getD i true = true) ∨ ∃ i, i ∈ Region.ready .any l.toArray listed := by
      intro listed hsz
      have : ∀ n, n ≤ l.length → (∀ j, j < n → listed.getD j true = true) ∨ ∃ i, i < l.length ∧ listed.getD i true = false ∧ ∀ j, j < i → listed.getD j true = true := by
        intro n
        induction n with
        | zero => intro _; exact .inl (fun j hj => by omega)
        | succ n ihn =>
          intro hn
          rcases ihn (by omega) with h | h
          · cases hc : listed.getD n true with
            | true =>
              refine .inl fun j hj => ?_
              by_cases e : j = n
              · subst e; exact hc
              · exact h j (by omega)
            | false => exact .inr ⟨n, by omega, hc, h⟩
          · exact .inr h
      rcases this _ (Nat.le_refl _) with h | ⟨i, hi, h1, h2⟩
      · exact .inl h
      · refine .inr ⟨i, mem_ready.2 ⟨_, List.getElem?_eq_getElem hi, h1, fun j hj => ?_⟩⟩
        have := hback i _ (List.getElem?_eq_getElem hi) j hj
        rw [← hgd listed j (by omega)]
        exact h2 j this
    induction fuel with
    | zero =>
      intro ξ listed a w hmid hf
      have hall : ∀ i, i < l.length → listed.getD i true = true := by
        intro i hi
        have hli : i < listed.size := by rw [hmid.size]; omega
        rw [Array.getD_eq_getD_getElem?, Array.getElem?_eq_getElem hli]
        cases hc : listed[i]'hli with
        | true => rfl
        | false =>
          exfalso
          have : false ∈ listed.toList.filter (! ·) := List.mem_filter.2 ⟨by rw [← hc]; simp, rfl⟩
          have := List.length_pos_of_mem this
          omega
      refine ⟨?_, fin ξ listed a w hmid hall⟩
      refine List.eq_nil_iff_forall_not_mem.2 fun i hi => ?_
      obtain ⟨o, ho, h1, _⟩ := mem_ready.1 hi
      have h9 := hall i (List.getElem?_eq_some_iff.1 ho).1
      rw [h1] at h9
      cases h9
    | succ fuel ih =>
      intro ξ listed a w hmid hf
      refine ⟨fun hr => ?_, ?_⟩
      · rcases first listed hmid.size with h | ⟨i, hi⟩
        · exact fin ξ listed a w hmid h
        · rw [hr] at hi; cases hi
      intro i hi
      obtain ⟨oi, hoi, hl2, hp2⟩ := mem_ready.1 hi
      have hil := (List.getElem?_eq_some_iff.1 hoi).1
      have hli : i < listed.size := by rw [hmid.size]; omega
      have hc : listed[i]'hli = false := by simpa [hli] using hl2
      obtain ⟨acc, Pf, hI, hokI, hx⟩ := hstep i oi (Nat.zero_le _) hoi
      have hpred : ∀ j ∈ preds oi.after, listed.getD j true = true := by
        intro j hj
        have := hback i oi hoi j hj
        rw [hgd listed j (by omega)]
        exact hp2 j hj
      have hnotafter : ∀ k ok, l[k]? = some ok → listed.getD k true = true → i ∉ preds ok.after := by
        intro k ok hk hlk hin
        have h9 := hmid.closed k ok hk hlk i hin
        rw [hl2] at h9
        cases h9
      have hS' : (fun j => (listed.setIfInBounds i true).getD j true) = updD (fun j => listed.getD j true) i := by
        funext j
        by_cases e : j = i
        · subst e
          rw [updD_same, Array.getD_eq_getD_getElem?, Array.getElem?_setIfInBounds_self]
          simp [hli]
        · rw [updD_ne _ e, Array.getD_eq_getD_getElem?, Array.getElem?_setIfInBounds_ne (Ne.symm e), ← Array.getD_eq_getD_getElem?]
      generalize hSS : (fun j => listed.getD j true) = S at *
      have hSj : ∀ j, listed.getD j true = S j := fun j => by rw [← hSS]
      have hden : Den Γ (rst (slotsOf oi.op) (acc ξ)) (H ξ S) a w := by
        have dd := hmid.den
        have hdone := hmid.done
        have hkeep := hmid.keep
        rw [hSS] at dd hdone hkeep
        refine ⟨dd.nodefer, dd.tmps, ?_, dd.chunks, dd.nodup, dd.fresh, dd.below, dd.frame⟩
        intro s t hlk
        obtain ⟨hs, hlk⟩ := rst_look hlk
        have hss := ssaFrom_at hssa hoi s hs
        rw [Nat.zero_add] at hss
        rcases hI.look ξ s t hlk with ⟨j, oj, h1, h2, h3, rfl⟩ | ⟨h1, h2⟩
        · have hjl : listed.getD j true = true := by
            rcases hss with h | ⟨k, hk, p, hkp, hpd⟩
            · exfalso
              rcases others_spec h2 h3 h with h | h
              · omega
              · have := hback j oj h2 i h
                omega
            · have := nodup_dst hnodup hkp h2 hpd h3
              subst this
              exact hpred k hk
          obtain ⟨e1, e2⟩ := (hdone j oj h2 hjl).2 s h3
          rw [e1]
          exact e2
        · refine hkeep s t h1 fun k ok hk hlk hd => ?_
          rcases Nat.lt_trichotomy k i with h | rfl | h
          · exact h2 k ok h hk hd
          · rw [hl2] at hlk
            cases hlk
          · rcases hss with h3 | ⟨k', hk', p, hkp, hpd⟩
            · rcases others_spec hk hd h3 with h | h
              · omega
              · exact hnotafter k ok hk hlk h
            · exact h2 k' p (hback i oi hoi k' hk') hkp hpd
      have hmden := hmid.den
      rw [hSS] at hmden
      have hx := hx ξ S (by rw [← hSj]; exact hl2) (fun j hj => by rw [← hSj]; exact hpred j hj) (fun k ok hk h j hj => by rw [← hSj] at h ⊢; exact hmid.closed k ok hk h j hj)
        (fun k hk => hI.pf k _ fun hki => by
          obtain ⟨ok, hok⟩ : ∃ ok, l[k]? = some ok := ⟨_, List.getElem?_eq_getElem (by omega)⟩
          exact (hmid.done k ok hok (by rw [hSj]; exact hk)).1) a w hden
      have hop : l.toArray[i]? = some oi := by simpa using hoi
      unfold wpOp
      simp only [hop]
      rw [if_pos (by unfold Region.wanted; rw [hguard i oi hoi])]
      refine .inl (hx _ _ fun v w' hPv hrd hpres => ih (upd ξ i v) _ _ _ ?_ ?_)
      · have hfact : ∀ {s : Nat} {t : Tr}, t.rd w (av Γ.M (H ξ S)) (a.tmps.getD s undef) → t.rd w' (av Γ.M (H (upd ξ i v) (updD S i))) (a.tmps.getD s undef) := by
          intro s t ht
          have dd := hmden
          have d1 : Den Γ [(s, t)] (H ξ S) a w := ⟨dd.nodefer, dd.tmps, fun i u hl => by
            by_cases e : s = i
            · subst e; rw [look_cons_same] at hl; cases hl; exact ht
            · rw [look_cons_ne _ _ e] at hl; simp [look] at hl, dd.chunks, dd.nodup, dd.fresh, dd.below, dd.frame⟩
          exact (hpres _ d1).env s t (look_cons_same _ _ _)
        have hput : ∀ s, oi.dst ≠ some s → (a.put oi.dst v).tmps.getD s undef = a.tmps.getD s undef := by
          intro s hs
          cases hd : oi.dst with
          | none => rfl
          | some x =>
            have hne : x ≠ s := fun e => hs (by rw [hd, e])
            simp [Act.put, Array.getElem?_setIfInBounds_ne hne]
        have hset : ∀ k, (listed.setIfInBounds i true).getD k true = true → k = i ∨ S k = true := by
          intro k hk
          by_cases e : k = i
          · exact .inl e
          · refine .inr ?_
            have := congrFun hS' k
            try simp only at this
            rw [hk, updD_ne _ e] at this
            exact this.symm
        have hset2 : ∀ k, S k = true → (listed.setIfInBounds i true).getD k true = true := by
          intro k hk
          have := congrFun hS' k
          try simp only at this
          rw [this]
          by_cases e : k = i
          · rw [e, updD_same]
          · rw [updD_ne _ e]; exact hk
        have hkeep := hmid.keep
        have hdone := hmid.done
        rw [hSS] at hkeep hdone
        refine ⟨?_, by simpa using hmid.size, ?_, ?_, ?_⟩
        · rw [hS']
          have dd := hpres _ hmden
          cases oi.dst with
          | none => exact ⟨dd.nodefer, dd.tmps, fun q t hlk => by simp [look] at hlk, dd.chunks, dd.nodup, dd.fresh, dd.below, dd.frame⟩
          | some x => exact ⟨dd.nodefer, by simpa [Act.put] using dd.tmps, fun q t hlk => by simp [look] at hlk, dd.chunks, dd.nodup, dd.fresh, dd.below, dd.frame⟩
        · intro s t hlk hno
          rw [hS']
          rw [hput s (hno i oi hoi (by
            have := congrFun hS' i
            try simp only at this
            rw [this, updD_same]))]
          exact hfact (hkeep s t hlk fun k o hk hl => hno k o hk (hset2 k (by rw [← hSj]; exact hl)))
        · intro j o hoj hj
          rw [hS']
          by_cases e : j = i
          · subst e
            rw [hoi] at hoj
            cases hoj
            rw [upd_same]
            refine ⟨hPv, fun d hd => ⟨?_, hrd⟩⟩
            have hs : d < a.tmps.size := by rw [hmden.tmps]; exact hltn j oi d hoi hd
            rw [hd]
            simp [Act.put, hs]
          · have hj' : listed.getD j true = true := by
              rcases hset j hj with h | h
              · exact absurd h e
              · rw [hSj]; exact h
            rw [upd_ne _ _ e]
            obtain ⟨g1, g2⟩ := hdone j o hoj hj'
            obtain ⟨_, _, _, ⟨hokJ, hokT⟩, _⟩ := hstep j o (Nat.zero_le _) hoj
            have hclo : Clo l S := fun k ok hk h j hj => by rw [← hSj] at h ⊢; exact hmid.closed k ok hk h j hj
            have hsj : S j = true := by rw [← hSj]; exact hj'
            have hsi : S i = false := by rw [← hSj]; exact hl2
            rw [hokT ξ i v S hclo hsj hsi]
            refine ⟨hokJ ξ i v S hclo hsj hsi g1, fun d hd => ?_⟩
            obtain ⟨g3, g4⟩ := g2 d hd
            have hne : oi.dst ≠ some d := fun e2 => e (nodup_dst hnodup hoj hoi hd e2)
            rw [hput d hne]
            refine ⟨g3, ?_⟩
            have := hfact (s := d) (t := T j ξ) (by rw [g3]; exact g4)
            rwa [g3] at this
        · intro k o hk hkl j hj
          rcases hset k hkl with rfl | h
          · rw [hoi] at hk
            cases hk
            exact hset2 j (by rw [← hSj]; exact hpred j hj)
          · refine hset2 j ?_
            rw [← hSj]
            exact hmid.closed k o hk (by rw [hSj]; exact h) j hj
      · have hfs := filter_set listed.toList i (by simp [hli, hc])
        rw [Array.toList_setIfInBounds]
        omega
  refine wp_region_any hm ?_
  have hS0 : (fun j => (Array.replicate l.toArray.size false).getD j true) = fun j => Nat.ble l.length j := by
    funext j
    rw [Array.getD_eq_getD_getElem?, Array.getElem?_replicate]
    by_cases hj : j < l.length
    · have hb : Nat.ble l.length j = false := by rw [← Bool.not_eq_true]; intro h; have := Nat.le_of_ble_eq_true h; omega
      rw [hb]
      simp [hj]
    · have hb : Nat.ble l.length j = true := Nat.ble_eq_true_of_le (by omega)
      rw [hb]
      simp [hj]
  have hno : ∀ k o, l[k]? = some o → (Array.replicate l.toArray.size false).getD k true = true → False := by
    intro k o hk hkl
    have := congrFun hS0 k
    try simp only at this
    rw [this] at hkl
    have := Nat.le_of_ble_eq_true hkl
    have := (List.getElem?_eq_some_iff.1 hk).1
    omega
  have dd := d.drew
  refine main _ (fun _ => undef) _ _ _ ⟨?_, by simp, ?_, fun i o ho hi => (hno i o ho hi).elim, fun k o hk hkl => (hno k o hk hkl).elim⟩ (by simp)
  · rw [hS0, hs]
    exact ⟨dd.nodefer, dd.tmps, fun i t hlk => by simp [look] at hlk, dd.chunks, dd.nodup, dd.fresh, dd.below, dd.frame⟩
  · intro s t hlk _
    rw [hS0, hs]
    exact dd.env s t hlk

/-! ### its rules -/
def vInt : Value → Int
  | .int _ n => n
  | _ => 0
def vBool : Value → Bool
  | .bool b => b
  | _ => false
def vStr : Value → ByteArray
  | .string s => s
  | _ => ⟨#[]⟩
variable {cf : List Chunk} {K : Env → List Chunk → Prop} {n : Nat} {l : List Oper} {Pf : Nat → (Nat → Value) → Prop} {i d : Nat} {op : Op} {ty : TypeId} {pos : String} {af : Array Edge} {acc : (Nat → Value) → Env}
theorem YSeq.nil (h : ∀ ξ : Nat → Value, (∀ j, Pf j ξ) → K (acc ξ) (H ξ fun _ => true)) : YSeq P Γ H L K n acc Pf [] := h
theorem YSeq.cons {o : Oper} {T : (Nat → Value) → Tr} {Pv : (Nat → Value) → Prop} (ok : PvOkY L n Pv) (ok2 : TOk L n T) (h : YStep P Γ H L Pf n o acc T Pv) (k : YSeq P Γ H L K (n + 1) (accY o T acc) (pfY n Pv Pf) l) : YSeq P Γ H L K n acc Pf (o :: l) := ⟨T, Pv, ⟨ok, ok2⟩, h, k⟩
theorem PvOkY.triv : PvOkY L n (fun _ => True) := fun _ _ _ _ _ _ _ _ => trivial
theorem PvOkY.own {p : Value → Prop} : PvOkY L n (fun ξ => p (ξ n)) := fun ξ k v S _ h1 h2 h => by
  show p (upd ξ k v n)
  rw [upd_S h1 h2]
  exact h
theorem TOk.own {T : Value → Tr} : TOk L n (fun ξ => T (ξ n)) := fun ξ k v S _ h1 h2 => by
  show T (upd ξ k v n) = T (ξ n)
  rw [upd_S h1 h2]
theorem TOk.const {t : Tr} : TOk L n (fun _ => t) := fun _ _ _ _ _ _ _ => rfl
/-- an operation that turns no memory that is owned -/
theorem YSeq.w {t : (Nat → Value) → Tr} (hH : ∀ ξ S v, H (upd ξ n v) (updD S n) = H ξ S)
    (h : ∀ (ξ : Nat → Value) (S : Nat → Bool), S n = false → (∀ j ∈ preds af, S j = true) → Clo L S → (∀ k, S k = true → Pf k ξ) → OpW P Γ op ty (rst (slotsOf op) (acc ξ)) (H ξ S) (t ξ))
    (ht : ∀ ξ v, t (upd ξ n v) = t ξ) (hT : TOk L n t)
    (k : YSeq P Γ H L K (n + 1) (fun ξ => (d, t ξ) :: acc ξ) (pfY n (fun _ => True) Pf) l) : YSeq P Γ H L K n acc Pf (⟨some d, op, ty, pos, af, none⟩ :: l) := by
  refine YSeq.cons PvOkY.triv hT ?_ k
  unfold YStep
  intro ξ S h1 h2 h3 h4 a w dd next F hk
  have h := h ξ S h1 h2 h3 h4
  unfold OpW at h
  refine h a w dd d pos af none next F fun v w' hv hp => hk v w' trivial ?_ ?_
  · rw [hH, ht]; exact hv
  · intro env2 d2
    rw [hH]
    exact hp env2 d2
theorem YSeq.alloc {T : TypeId} {zs : List Value} [hz : TyZero P T zs] (hH : ∀ (ξ : Nat → Value) (S : Nat → Bool) (b : Nat), S n = false → Clo L S → (H (upd ξ n (.pointer (some ⟨b, 0, none⟩))) (updD S n)).Perm (Chunk.box b T (zs.map Tr.raw) :: H ξ S))
    (k : YSeq P Γ H L K (n + 1) (fun ξ => (d, Tr.raw (.pointer (some ⟨blk (ξ n), 0, none⟩))) :: acc ξ) (pfY n (fun _ => True) Pf) l) : YSeq P Γ H L K n acc Pf (⟨some d, .alloc T, ty, pos, af, none⟩ :: l) := by
  refine YSeq.cons PvOkY.triv (TOk.own (T := fun v => Tr.raw (.pointer (some ⟨blk v, 0, none⟩)))) ?_ k
  unfold YStep
  intro ξ S h1 h2 h3 h4 a w dd next F hk
  obtain ⟨ti, zv, e1, e2, e3⟩ := hz.h
  have hrun : (execOp a.eval ⟨some d, .alloc T, ty, pos, af, none⟩).run P w = .ok (.value (.pointer (some ⟨w.heap.size, 0, none⟩))) (w.alloc (.cells zv.cells T)) := by
    simp [execOp, Instr.alloc, zeroValue, typeInfo, e1, e2, newVar, newRow] <;> rfl
  unfold Oper.wp
  rw [hrun]
  refine hk _ _ trivial ?_ fun env2 d2 => ?_
  · simp only [upd_same, blk]
    exact raw_self _
  have hd := d2.newblock zv.cells T (ts := zs.map Tr.raw) (by rw [e3]; exact rdc_raw hz.one)
  exact hd.perm (hH ξ S _ h1 h3).symm
theorem YSeq.store {T : TypeId} {x y : Operand} {m : Nat} [hT : TySz P T m]
    (h : ∀ (ξ : Nat → Value) (S : Nat → Bool), S n = false → (∀ j ∈ preds af, S j = true) → Clo L S → (∀ k, S k = true → Pf k ξ) →
      ∃ (b o : Nat) (e : TypeId) (ts us : List Tr) (t : Tr) (cf : List Chunk), ev (rst (slotsOf (.store T x y)) (acc ξ)) x = some (.raw (.pointer (some ⟨b, o, none⟩))) ∧ ev (rst (slotsOf (.store T x y)) (acc ξ)) y = some t ∧ RowT t us ∧ (H ξ S).Perm (Chunk.box b e ts :: cf) ∧ us.length = m ∧ o + m ≤ ts.length ∧ (H (upd ξ n undef) (updD S n)).Perm (Chunk.box b e (ts.take o ++ us ++ ts.drop (o + m)) :: cf))
    (k : YSeq P Γ H L K (n + 1) acc (pfY n (fun _ => True) Pf) l) : YSeq P Γ H L K n acc Pf (⟨none, .store T x y, ty, pos, af, none⟩ :: l) := by
  refine YSeq.cons PvOkY.triv (TOk.const (t := Tr.any)) ?_ k
  unfold YStep
  intro ξ S h1 h2 h3 h4 a w d next F hk
  obtain ⟨b, o, e, ts, us, t, cf, hx, hy, hr, hp, hn, ho, hq⟩ := h ξ S h1 h2 h3 h4
  have hv := rd_raw (d.ev hx)
  have hu := hr.h _ _ _ (d.ev hy)
  have hbx := d.has hp
  generalize hA : av Γ.M (H ξ S) = A at *
  have hbx2 := hbx
  unfold Chunk.box at hbx2
  obtain ⟨cur, hb, hc⟩ := hbx2
  have hl : (a.eval y).cells.size = m := by rw [← Array.length_toList, hu.length, hn]
  have hcl := hc.length
  have hrun := run_storeAt (P := P) (T := T) (w := w) (off := o) (v := a.eval y) hb hT.size hl (by simp at hcl; omega) hu.one
  have hx2 : (execOp a.eval ⟨none, .store T x y, ty, pos, af, none⟩).run P w = .ok .skip (w.setRow b (cur.toList.take o ++ (a.eval y).cells.toList ++ cur.toList.drop (o + m)).toArray) := by simp [execOp, hv, hrun] <;> rfl
  unfold Oper.wp
  rw [hx2]
  refine hk _ _ trivial tr_any_self fun env2 d2 => ?_
  have ea := av_perm hp Γ.M
  refine Den.perm ?_ hq.symm
  refine (d2.perm hp).store (cur := cur.toList) (e := e) (by unfold Chunk.box; rfl) (by unfold Chunk.box; rfl) (by simpa using hb) ?_
  intro hs hg _
  generalize hA2 : av Γ.M (Chunk.box b e (ts.take o ++ us ++ ts.drop (o + m)) :: cf) = A2 at *
  unfold Chunk.box
  exact ⟨_, hg, by
    have h1 := ((hc.take o).app hu).app (hc.drop (o + m))
    rw [← hA, ea] at h1
    have h2 := h1.mono hs
    simpa only [List.append_assoc] using h2⟩
/-- any call: T says what it yields -/
theorem YSeq.call {f : FuncId} {ol : List Operand} {ts : Array TypeId} {T : (Nat → Value) → Tr} {Pv : (Nat → Value) → Prop} (ok : PvOkY L n Pv) (ok2 : TOk L n T)
    (h : ∀ (ξ : Nat → Value) (S : Nat → Bool), S n = false → (∀ j ∈ preds af, S j = true) → Clo L S → (∀ k, S k = true → Pf k ξ) →
      ∃ (args : List Tr) (cin cf : List Chunk) (post : Tr → List Chunk → Prop), Spec P f args cin post ∧ Evs (rst (slotsOf (.call ⟨.value (.func f), ol.toArray, ts⟩)) (acc ξ)) ol args ∧ (H ξ S).Perm (cin ++ cf) ∧
        ∀ r cs', post r cs' → ∀ w A v, r.rd w A v → (T (upd ξ n v)).rd w A v ∧ Pv (upd ξ n v) ∧ (H (upd ξ n v) (updD S n)).Perm (cs' ++ cf))
    (k : YSeq P Γ H L K (n + 1) (fun ξ => (d, T ξ) :: acc ξ) (pfY n Pv Pf) l) : YSeq P Γ H L K n acc Pf (⟨some d, .call ⟨.value (.func f), ol.toArray, ts⟩, ty, pos, af, none⟩ :: l) := by
  refine YSeq.cons ok ok2 ?_ k
  unfold YStep
  intro ξ S h1 h2 h3 h4 a w dd next F hk
  obtain ⟨args, cin, cf, post, hs, ha, hp, hq⟩ := h ξ S h1 h2 h3 h4
  have hcc := call_core2 (cf := cf) hs dd hp (ha.rd dd)
  have hrun : (execOp a.eval ⟨some d, .call ⟨.value (.func f), ol.toArray, ts⟩, ty, pos, af, none⟩).run P w = .ok (.enter f (ol.map a.eval).toArray) w := by
    unfold Spec at hs
    have := hs.1 (ol.map a.eval).toArray w
    simp [execOp, resolve, invoke, Deferred.ofValue, Act.eval, this]
  unfold Oper.wp
  rw [hrun]
  refine hcc.mono ?_
  rintro e w' ⟨v, r, cs', rfl, hpo, hrd, hd⟩
  obtain ⟨g1, g2, g3⟩ := hq r cs' hpo _ _ _ hrd
  refine hk _ _ g2 ?_ fun env2 h2 => (hd env2 h2).perm g3.symm
  rw [av_perm g3]
  exact g1
/-- a call that hands out a slice -/
theorem YSeq.callO {f : FuncId} {ol : List Operand} {ts : Array TypeId} {kk E : Nat} (m : Nat)
    (h : ∀ (ξ : Nat → Value) (S : Nat → Bool), S n = false → (∀ j ∈ preds af, S j = true) → Clo L S → (∀ k, S k = true → Pf k ξ) →
      ∃ (args : List Tr) (rows : List (List Tr)), PFnO P f args kk E (· = rows) ∧ Evs (rst (slotsOf (.call ⟨.value (.func f), ol.toArray, ts⟩)) (acc ξ)) ol args ∧ rows.length = m ∧ ∀ ad cap, (H (upd ξ n (.slice ad m cap)) (updD S n)).Perm (Chunk.own ad cap kk E rows :: H ξ S))
    (k : YSeq P Γ H L K (n + 1) (fun ξ => (d, Tr.raw (.slice (vAd (ξ n)) m (vCap (ξ n)))) :: acc ξ) (pfY n (fun _ => True) Pf) l) : YSeq P Γ H L K n acc Pf (⟨some d, .call ⟨.value (.func f), ol.toArray, ts⟩, ty, pos, af, none⟩ :: l) := by
  refine YSeq.call PvOkY.triv (TOk.own (T := fun v => Tr.raw (.slice (vAd v) m (vCap v)))) ?_ k
  intro ξ S h1 h2 h3 h4
  obtain ⟨args, rows, hs, ha, hm, hp⟩ := h ξ S h1 h2 h3 h4
  subst hm
  unfold PFnO at hs
  refine ⟨args, [], H ξ S, _, hs, ha, List.Perm.refl _, ?_⟩
  rintro r cs' ⟨ad, cap, rows', rfl, rfl, rfl⟩ w A v hr
  have hv := rd_raw hr
  subst hv
  refine ⟨?_, trivial, hp ad cap⟩
  simp only [upd_same, vAd, vCap]
  exact raw_self _
/-- a call that writes nothing -/
theorem YSeq.callV {f : FuncId} {ol : List Operand} {ts : Array TypeId} {t : (Nat → Value) → Tr} (hH : ∀ ξ S v, H (upd ξ n v) (updD S n) = H ξ S)
    (h : ∀ (ξ : Nat → Value) (S : Nat → Bool), S n = false → (∀ j ∈ preds af, S j = true) → Clo L S → (∀ k, S k = true → Pf k ξ) →
      ∃ (args : List Tr), Evs (rst (slotsOf (.call ⟨.value (.func f), ol.toArray, ts⟩)) (acc ξ)) ol args ∧ PFn P f args (· = t ξ))
    (ht : ∀ ξ v, t (upd ξ n v) = t ξ) (hT : TOk L n t)
    (k : YSeq P Γ H L K (n + 1) (fun ξ => (d, t ξ) :: acc ξ) (pfY n (fun _ => True) Pf) l) : YSeq P Γ H L K n acc Pf (⟨some d, .call ⟨.value (.func f), ol.toArray, ts⟩, ty, pos, af, none⟩ :: l) := by
  refine YSeq.call PvOkY.triv hT ?_ k
  intro ξ S h1 h2 h3 h4
  obtain ⟨args, ha, hs⟩ := h ξ S h1 h2 h3 h4
  unfold PFn at hs
  refine ⟨args, [], H ξ S, _, hs, ha, List.Perm.refl _, ?_⟩
  rintro r cs' ⟨rfl, rfl⟩ w A v hr
  exact ⟨by rw [ht]; exact hr, trivial, by rw [hH]; exact List.Perm.refl _⟩
/-- a call that draws a number -/
theorem YSeq.callI {f : FuncId} {ol : List Operand} {ts : Array TypeId} {st c b : Nat} {args : List Tr} {xs : List Int} {p : Int → Prop} (hg : Gen P st f args c (fun r => ∃ x, r = .int x ∧ p x))
    (ha : ∀ ξ, Evs (rst (slotsOf (.call ⟨.value (.func f), ol.toArray, ts⟩)) (acc ξ)) ol (Tr.ptr b :: args))
    (hH : ∀ (ξ : Nat → Value) (S : Nat → Bool), S n = false → Clo L S → ∃ N cf, N + c ≤ 1000000000000 ∧ (H ξ S).Perm (Chunk.strm st b (intRows xs) N :: cf) ∧ ∀ v, (H (upd ξ n v) (updD S n)).Perm (Chunk.strm st b (intRows xs) (N + c) :: cf))
    (k : YSeq P Γ H L K (n + 1) (fun ξ => (d, Tr.int (vInt (ξ n))) :: acc ξ) (pfY n (fun ξ => p (vInt (ξ n))) Pf) l) : YSeq P Γ H L K n acc Pf (⟨some d, .call ⟨.value (.func f), ol.toArray, ts⟩, ty, pos, af, none⟩ :: l) := by
  refine YSeq.call (PvOkY.own (p := fun v => p (vInt v))) (TOk.own (T := fun v => Tr.int (vInt v))) ?_ k
  intro ξ S h1 h2 h3 h4
  unfold Gen at hg
  obtain ⟨N, cf, hN, hp, hp2⟩ := hH ξ S h1 h3
  refine ⟨_, _, cf, _, hg b xs N hN, ha ξ, hp, ?_⟩
  rintro r cs' ⟨rfl, x, rfl, hx⟩ w A v hr
  have hv := rd_raw hr
  subst hv
  refine ⟨?_, ?_, hp2 _⟩
  · simp only [upd_same, vInt]
    exact raw_self _
  · simpa only [upd_same, vInt] using hx
/-- a call that draws a string -/
theorem YSeq.callS {f : FuncId} {ol : List Operand} {ts : Array TypeId} {st c b : Nat} {args : List Tr} {xs : List Int} {p : ByteArray → Prop} (hg : Gen P st f args c (fun r => ∃ x, r = .str x ∧ p x))
    (ha : ∀ ξ, Evs (rst (slotsOf (.call ⟨.value (.func f), ol.toArray, ts⟩)) (acc ξ)) ol (Tr.ptr b :: args))
    (hH : ∀ (ξ : Nat → Value) (S : Nat → Bool), S n = false → Clo L S → ∃ N cf, N + c ≤ 1000000000000 ∧ (H ξ S).Perm (Chunk.strm st b (intRows xs) N :: cf) ∧ ∀ v, (H (upd ξ n v) (updD S n)).Perm (Chunk.strm st b (intRows xs) (N + c) :: cf))
    (k : YSeq P Γ H L K (n + 1) (fun ξ => (d, Tr.str (vStr (ξ n))) :: acc ξ) (pfY n (fun ξ => p (vStr (ξ n))) Pf) l) : YSeq P Γ H L K n acc Pf (⟨some d, .call ⟨.value (.func f), ol.toArray, ts⟩, ty, pos, af, none⟩ :: l) := by
  refine YSeq.call (PvOkY.own (p := fun v => p (vStr v))) (TOk.own (T := fun v => Tr.str (vStr v))) ?_ k
  intro ξ S h1 h2 h3 h4
  unfold Gen at hg
  obtain ⟨N, cf, hN, hp, hp2⟩ := hH ξ S h1 h3
  refine ⟨_, _, cf, _, hg b xs N hN, ha ξ, hp, ?_⟩
  rintro r cs' ⟨rfl, x, rfl, hx⟩ w A v hr
  have hv := rd_raw hr
  subst hv
  refine ⟨?_, ?_, hp2 _⟩
  · simp only [upd_same, vStr]
    exact raw_self _
  · simpa only [upd_same, vStr] using hx
/-- a call that draws a value of which only some tree is known -/
theorem YSeq.callT {f : FuncId} {ol : List Operand} {ts : Array TypeId} {st c b : Nat} {args : List Tr} {xs : List Int} {post : Tr → Prop} (t : Tr) (hg : Gen P st f args c post) (ht : ∀ r, post r → Imp r t)
    (ha : ∀ ξ, Evs (rst (slotsOf (.call ⟨.value (.func f), ol.toArray, ts⟩)) (acc ξ)) ol (Tr.ptr b :: args))
    (hH : ∀ (ξ : Nat → Value) (S : Nat → Bool), S n = false → Clo L S → ∃ N cf, N + c ≤ 1000000000000 ∧ (H ξ S).Perm (Chunk.strm st b (intRows xs) N :: cf) ∧ ∀ v, (H (upd ξ n v) (updD S n)).Perm (Chunk.strm st b (intRows xs) (N + c) :: cf))
    (k : YSeq P Γ H L K (n + 1) (fun ξ => (d, t) :: acc ξ) (pfY n (fun _ => True) Pf) l) : YSeq P Γ H L K n acc Pf (⟨some d, .call ⟨.value (.func f), ol.toArray, ts⟩, ty, pos, af, none⟩ :: l) := by
  refine YSeq.call PvOkY.triv (TOk.const (t := t)) ?_ k
  intro ξ S h1 h2 h3 h4
  unfold Gen at hg
  obtain ⟨N, cf, hN, hp, hp2⟩ := hH ξ S h1 h3
  refine ⟨_, _, cf, _, hg b xs N hN, ha ξ, hp, ?_⟩
  rintro r cs' ⟨rfl, hx⟩ w A v hr
  exact ⟨ht r hx _ _ _ hr, trivial, hp2 _⟩
end y
end Lg
end
section
set_option linter.all false
namespace Lg
open Go
abbrev slV (v : Value) (n : Nat) : Tr := Tr.raw (.slice (vAd v) n (vCap v))
abbrev ptV (v : Value) : Tr := Tr.raw (.pointer (some ⟨blk v, 0, none⟩))
section y2
variable {P : Program} {Γ : Ctx} {env : Env} {cs cf : List Chunk} {H : (Nat → Value) → (Nat → Bool) → List Chunk} {L : List Oper} {K : Env → List Chunk → Prop} {n : Nat} {l : List Oper} {Pf : Nat → (Nat → Value) → Prop} {d : Nat} {op : Op} {ty : TypeId} {pos : String} {af : Array Edge} {acc : (Nat → Value) → Env}
theorem append_core {E kk bb z T} [hS : TySl P T E kk bb z] {ty : TypeId} {ad : Option Addr} {cap : Nat} {rows rows2 : List (List Tr)} {v2 : Value} {a : Act} {w : World} (d' : Den Γ env (Chunk.own ad cap kk E rows :: cf) a w)
    (hys : (Tr.sl kk rows2).rd w (av Γ.M (Chunk.own ad cap kk E rows :: cf)) v2) (hb : (rows.length + rows2.length) * bb ≤ 140737488355328) (hm : rows.length + rows2.length ≤ 9223372036854775807) :
    ∃ ad' cap' w', (Builtin.append_ #[T, T] ty #[.slice ad rows.length cap, v2]).run P w = .ok (.slice ad' (rows ++ rows2).length cap') w' ∧ ∀ env2, Den Γ env2 (Chunk.own ad cap kk E rows :: cf) a w → Den Γ env2 (Chunk.own ad' cap' kk E (rows ++ rows2) :: cf) a w' := by
  have hown0 := d'.has (List.Perm.refl _)
  generalize hA : av Γ.M (Chunk.own ad cap kk E rows :: cf) = A at hys hown0
  unfold Tr.sl at hys
  obtain ⟨hk2, hl2, ad2, cap2, rfl, g1, g2, g3, g4⟩ := hys
  unfold Chunk.own at hown0
  obtain ⟨hk0, xs, hown, hrd⟩ := hown0
  obtain ⟨ti, zv, hi1, hi2, hi3, hi4, hi5, hi6⟩ := hS.hE
  have hzs : zv.cells.size = kk := hS.hz _ _ hi1 hi2
  have hm' : rows.length + rows2.length ≤ maxLen := by simp only [maxLen]; omega
  have key : ∃ v' w', (Builtin.append_ #[T, T] ty #[.slice ad rows.length cap, .slice ad2 rows2.length cap2]).run P w = .ok v' w' ∧ ∃ news, RdC w A rows2.flatten news ∧
      w'.ownsRow 0 E kk v' (rows.length + rows2.length) (xs ++ news) ∧ w.grownBy w' (Value.ownBlock (.slice ad rows.length cap)) ∧ (∀ b, v'.ownBlock = some b → (Value.ownBlock (.slice ad rows.length cap)) = some b ∨ w.heap.size ≤ b) := by
    rcases g4 with g4 | ⟨b, off, rfl, hc⟩
    · subst g4
      cases ad2 with
      | none =>
        obtain ⟨_, rfl⟩ := g3 rfl
        exact ⟨_, w, run_append_owned_none (P := P) w 0 T ty E ti kk hS.hT hi1 _ _ xs hown, [], rfl, by simpa using hown, ⟨rfl, rfl, rfl, Nat.le_refl _, fun _ _ _ => rfl⟩, fun b hb => .inl hb⟩
      | some a2 =>
        obtain ⟨v', w', h1, h2, h3, h4⟩ := append_run (P := P) (ty := ty) (a := a2) (m := 0) (c := cap2) (news := []) hS.hT hi1 hi2 hi4 hi5 hzs hi6 hown (by simp) (by simp) (by simp) (by simpa using hm') (by simpa using hb)
        exact ⟨v', w', h1, [], rfl, h2, h3, h4⟩
    · obtain ⟨vs, hvs, hcell⟩ := rdc_at hc
      obtain ⟨v', w', h1, h2, h3, h4⟩ := append_run (P := P) (ty := ty) (a := ⟨b, off, none⟩) (m := rows2.length) (c := cap2) (news := vs) hS.hT hi1 hi2 hi4 hi5 hzs hi6 hown (by rw [hvs.length]; exact flat_len hk2) hcell hvs.one hm' hb
      exact ⟨v', w', h1, vs, hvs, h2, h3, h4⟩
  obtain ⟨v', w', hrun, news, hnews, hown', hgr, hfresh⟩ := key
  have hform : ∃ ad' cap', v' = .slice ad' (rows ++ rows2).length cap' := by
    rcases hown'.2 with ⟨e, h0⟩ | ⟨g, c, cur, e, _⟩
    · exact ⟨none, 0, by rw [e, List.length_append, h0]⟩
    · exact ⟨_, c, by rw [e, List.length_append]⟩
  obtain ⟨ad', cap', rfl⟩ := hform
  refine ⟨ad', cap', w', hrun, fun env2 d2 => ?_⟩
  refine d2.turnF (c' := Chunk.own ad' cap' kk E (rows ++ rows2)) ?_ ?_ ?_ ?_
  · intro b hb
    have hb' : Value.ownBlock (.slice ad' (rows ++ rows2).length cap') = some b := by unfold Chunk.own at hb; simpa using hb
    rcases hfresh b hb' with h | h
    · exact .inl (by unfold Chunk.own; simpa using h)
    · exact .inr ⟨h, (hown'.lt b hb').2⟩
  · have : (Chunk.own ad' cap' kk E (rows ++ rows2)).fp = (Value.ownBlock (.slice ad' (rows ++ rows2).length cap')).toList := by unfold Chunk.own; rfl
    rw [this]
    cases Value.ownBlock (.slice ad' (rows ++ rows2).length cap') <;> simp
  · exact ⟨hgr.os, hgr.tape, hgr.output, hgr.size, fun b hb hn => hgr.block b hb fun e => hn (by unfold Chunk.own; simp [← e])⟩
  · intro hs _
    rw [hA] at hs
    generalize av Γ.M (Chunk.own ad' cap' kk E (rows ++ rows2) :: cf) = A' at hs ⊢
    unfold Chunk.own
    refine ⟨?_, xs ++ news, by simpa using hown', ?_⟩
    · intro r hr
      rcases List.mem_append.1 hr with h | h
      · exact hk0 r h
      · exact hk2 r h
    · rw [List.flatten_append]
      exact (hrd.mono hs).app (hnews.mono hs)
/-- an owned slice grows -/
theorem YSeq.append {E kk bb z T} [hS : TySl P T E kk bb z] {x y : Operand} (mm : Nat)
    (h : ∀ (ξ : Nat → Value) (S : Nat → Bool), S n = false → (∀ j ∈ preds af, S j = true) → Clo L S → (∀ k, S k = true → Pf k ξ) →
      ∃ (ad : Option Addr) (m cap : Nat) (rows rows2 : List (List Tr)) (cf : List Chunk), ev (rst (slotsOf (.call ⟨.builtin .append, #[x, y], #[T, T]⟩)) (acc ξ)) x = some (.raw (.slice ad m cap)) ∧ ev (rst (slotsOf (.call ⟨.builtin .append, #[x, y], #[T, T]⟩)) (acc ξ)) y = some (.sl kk rows2) ∧
        (H ξ S).Perm (Chunk.own ad cap kk E rows :: cf) ∧ m = rows.length ∧ rows.length + rows2.length = mm ∧ (rows.length + rows2.length) * bb ≤ 140737488355328 ∧ rows.length + rows2.length ≤ 9223372036854775807 ∧ ∀ ad' cap', (H (upd ξ n (.slice ad' mm cap')) (updD S n)).Perm (Chunk.own ad' cap' kk E (rows ++ rows2) :: cf))
    (k : YSeq P Γ H L K (n + 1) (fun ξ => (d, Tr.raw (.slice (vAd (ξ n)) mm (vCap (ξ n)))) :: acc ξ) (pfY n (fun _ => True) Pf) l) : YSeq P Γ H L K n acc Pf (⟨some d, .call ⟨.builtin .append, #[x, y], #[T, T]⟩, ty, pos, af, none⟩ :: l) := by
  refine YSeq.cons PvOkY.triv (TOk.own (T := fun v => Tr.raw (.slice (vAd v) mm (vCap v)))) ?_ k
  unfold YStep
  intro ξ S h1 h2 h3 h4 a w dd next F hk
  obtain ⟨ad, m, cap, rows, rows2, cf, hx, hy, hp, hn, hmm, hb, hm, hq⟩ := h ξ S h1 h2 h3 h4
  subst hn
  have hv := rd_raw (dd.ev hx)
  have hys := dd.ev hy
  rw [av_perm hp Γ.M] at hys
  obtain ⟨ad', cap', w', hrun, hE⟩ := append_core (P := P) (T := T) (ty := ty) (dd.perm hp) hys hb hm
  have hx2 : (execOp a.eval ⟨some d, .call ⟨.builtin .append, #[x, y], #[T, T]⟩, ty, pos, af, none⟩).run P w = .ok (.value (.slice ad' (rows ++ rows2).length cap')) w' := by simp [execOp, resolve, invoke, builtin, hv, hrun] <;> rfl
  unfold Oper.wp
  rw [hx2]
  rw [List.length_append, hmm]
  refine hk _ _ trivial ?_ fun env2 d2 => (hE env2 (d2.perm hp)).perm (hq ad' cap').symm
  simp only [upd_same, vAd, vCap]
  exact raw_self _
/-- the same, where what is put behind is an owned slice too, and is owned no more -/
theorem YSeq.appendO {E kk bb z T} [hS : TySl P T E kk bb z] {x y : Operand} (mm : Nat)
    (h : ∀ (ξ : Nat → Value) (S : Nat → Bool), S n = false → (∀ j ∈ preds af, S j = true) → Clo L S → (∀ k, S k = true → Pf k ξ) →
      ∃ (ad : Option Addr) (m cap : Nat) (ad2 : Option Addr) (m2 cap2 : Nat) (rows rows2 : List (List Tr)) (cf0 cf : List Chunk), ev (rst (slotsOf (.call ⟨.builtin .append, #[x, y], #[T, T]⟩)) (acc ξ)) x = some (.raw (.slice ad m cap)) ∧ ev (rst (slotsOf (.call ⟨.builtin .append, #[x, y], #[T, T]⟩)) (acc ξ)) y = some (.raw (.slice ad2 m2 cap2)) ∧
        (H ξ S).Perm (Chunk.own ad2 cap2 kk E rows2 :: cf0) ∧ cf0.Perm (Chunk.own ad cap kk E rows :: cf) ∧ m = rows.length ∧ m2 = rows2.length ∧ rows.length + rows2.length = mm ∧ (rows.length + rows2.length) * bb ≤ 140737488355328 ∧ rows.length + rows2.length ≤ 9223372036854775807 ∧ ∀ ad' cap', (H (upd ξ n (.slice ad' mm cap')) (updD S n)).Perm (Chunk.own ad' cap' kk E (rows ++ rows2) :: cf))
    (k : YSeq P Γ H L K (n + 1) (fun ξ => (d, Tr.raw (.slice (vAd (ξ n)) mm (vCap (ξ n)))) :: acc ξ) (pfY n (fun _ => True) Pf) l) : YSeq P Γ H L K n acc Pf (⟨some d, .call ⟨.builtin .append, #[x, y], #[T, T]⟩, ty, pos, af, none⟩ :: l) := by
  refine YSeq.cons PvOkY.triv (TOk.own (T := fun v => Tr.raw (.slice (vAd v) mm (vCap v)))) ?_ k
  unfold YStep
  intro ξ S h1 h2 h3 h4 a w dd next F hk
  obtain ⟨ad, m, cap, ad2, m2, cap2, rows, rows2, cf0, cf, hx, hy, hp0, hp1, hn, hn2, hmm, hb, hm, hq⟩ := h ξ S h1 h2 h3 h4
  subst hn
  subst hn2
  have hv := rd_raw (dd.ev hx)
  have hv2 := rd_raw (dd.ev hy)
  have d0 := dd.perm (hp0.trans (List.Perm.cons _ hp1))
  have hys := Den.settled d0 rfl
  obtain ⟨ad', cap', w', hrun, hE⟩ := append_core (P := P) (T := T) (ty := ty) d0.dropc hys hb hm
  have hx2 : (execOp a.eval ⟨some d, .call ⟨.builtin .append, #[x, y], #[T, T]⟩, ty, pos, af, none⟩).run P w = .ok (.value (.slice ad' (rows ++ rows2).length cap')) w' := by simp [execOp, resolve, invoke, builtin, hv, hv2, hrun] <;> rfl
  unfold Oper.wp
  rw [hx2]
  rw [List.length_append, hmm]
  refine hk _ _ trivial ?_ fun env2 d2 => (hE env2 (d2.perm (hp0.trans (List.Perm.cons _ hp1))).dropc).perm (hq ad' cap').symm
  simp only [upd_same, vAd, vCap]
  exact raw_self _
/-- a slice of zeros of one's own is made -/
theorem YSeq.mkOwn {T : TypeId} {x y : Operand} {E kk bb : Nat} {zs : List Value} [hS : TySl P T E kk bb zs] (m : Nat) (hx : ∀ ξ, ev (rst (slotsOf (.makeSlice T x y)) (acc ξ)) x = some (.int m)) (hy : ∀ ξ, ev (rst (slotsOf (.makeSlice T x y)) (acc ξ)) y = some (.int m)) (hb : bb * m ≤ 281474976710656) (hmx : m ≤ 1000000000)
    (hH : ∀ (ξ : Nat → Value) (S : Nat → Bool), S n = false → Clo L S → ∀ ad cap, (H (upd ξ n (.slice ad m cap)) (updD S n)).Perm (Chunk.own ad cap kk E (List.replicate m (zs.map Tr.raw)) :: H ξ S))
    (k : YSeq P Γ H L K (n + 1) (fun ξ => (d, Tr.raw (.slice (vAd (ξ n)) m (vCap (ξ n)))) :: acc ξ) (pfY n (fun _ => True) Pf) l) : YSeq P Γ H L K n acc Pf (⟨some d, .makeSlice T x y, ty, pos, af, none⟩ :: l) := by
  refine YSeq.cons PvOkY.triv (TOk.own (T := fun v => Tr.raw (.slice (vAd v) m (vCap v)))) ?_ k
  unfold YStep
  intro ξ S h1 h2 h3 h4 a w dd next F hk
  have hv := rd_raw (dd.ev (hx ξ))
  have hv2 := rd_raw (dd.ev (hy ξ))
  obtain ⟨ti, zv, i1, i2, i3, i4, i5, i6⟩ := hS.hE
  have hr := run_make (P := P) w T E ti zv hS.hT i1 i2 .i64 .i64 m m (by omega) (Int.le_refl _) (by rw [i5, ← Int.natCast_mul]; omega) (by omega)
  have hzs : zv.cells.size = kk := hS.hz _ _ i1 i2
  simp only [Int.toNat_natCast, i4] at hr
  have hx2 : (execOp a.eval ⟨some d, .makeSlice T x y, ty, pos, af, none⟩).run P w = .ok (.value (.slice (some ⟨w.heap.size, 0, none⟩) m m)) (w.alloc (.cells (madeCells zv.cells (m * kk)) E)) := by simp [execOp, hv, hv2, hr] <;> rfl
  unfold Oper.wp
  rw [hx2]
  refine hk _ _ trivial ?_ fun env2 d2 => Den.perm ?_ (hH ξ S h1 h3 _ _).symm
  · simp only [upd_same, vAd, vCap]
    exact raw_self _
  refine d2.push _ (by simp) (by unfold Chunk.own; simp [Value.ownBlock]) (by unfold Chunk.own; simp [Value.ownBlock]) (fun b hb => heap_alloc_old w _ b hb) rfl rfl rfl ?_
  intro hs
  have hmd := madeCells_rd (w := w) (A := av Γ.M (H ξ S)) (zs := zv.cells) (by rw [i3]; exact hS.one) m
  rw [hzs, i3] at hmd
  generalize av Γ.M (_ :: H ξ S) = A at *
  unfold Chunk.own
  refine ⟨fun r hr => by rw [List.eq_of_mem_replicate hr]; simp [hS.hk], (madeCells zv.cells (m * kk)).toList, ?_, ?_⟩
  · simp only [List.length_replicate]
    exact World.ownsRow_lit w (madeCells zv.cells (m * kk)) m (Nat.zero_le _) (by simp only [maxLen]; omega) (size_madeCells _ _)
  · have e := zeroRow_flat zs m
    rw [e]
    exact hmd.mono hs
/-- a slice literal of one's own -/
theorem YSeq.lit {T : TypeId} {E kk bb : Nat} {zs : List Value} [hS : TySl P T E kk bb zs] {m : Nat} {parts : List (Nat × Operand)}
    (h : ∀ (ξ : Nat → Value) (S : Nat → Bool), S n = false → (∀ j ∈ preds af, S j = true) → Clo L S → (∀ k, S k = true → Pf k ξ) →
      ∃ (ts : List Tr) (rows : List (List Tr)), Parts (fun i => some (i * kk, kk)) (rst (slotsOf (.buildSlice T m parts.toArray)) (acc ξ)) parts (zeroRow zs m) ts ∧ rowsOf kk m ts = rows ∧ Nat.ble (m * kk) 16777216 = true ∧ ∀ ad cap, (H (upd ξ n (.slice ad m cap)) (updD S n)).Perm (Chunk.own ad cap kk E rows :: H ξ S))
    (k : YSeq P Γ H L K (n + 1) (fun ξ => (d, Tr.raw (.slice (vAd (ξ n)) m (vCap (ξ n)))) :: acc ξ) (pfY n (fun _ => True) Pf) l) : YSeq P Γ H L K n acc Pf (⟨some d, .buildSlice T m parts.toArray, ty, pos, af, none⟩ :: l) := by
  refine YSeq.cons PvOkY.triv (TOk.own (T := fun v => Tr.raw (.slice (vAd v) m (vCap v)))) ?_ k
  unfold YStep
  intro ξ S h1 h2 h3 h4 a w dd next F hk
  obtain ⟨ts, rows, hp, hrows, hn, hH⟩ := h ξ S h1 h2 h3 h4
  have hn' : m * kk ≤ 16777216 := Nat.le_of_ble_eq_true hn
  obtain ⟨c, hrun, hr, hsz⟩ := run_buildSlice (P := P) (T := T) hn' dd hp
  have hl : ts.length = m * kk := by rw [← hr.length, Array.length_toList, hsz]
  obtain ⟨r1, r2, r3⟩ := rowsOf_flat hl
  obtain ⟨_, _, _, _, _, _, _, hk0⟩ := hS.hE
  have hmax : m ≤ maxLen := by
    have : m ≤ m * kk := Nat.le_mul_of_pos_right m hk0
    simp only [maxLen]
    omega
  subst hrows
  have hx2 : (execOp a.eval ⟨some d, .buildSlice T m parts.toArray, ty, pos, af, none⟩).run P w = .ok (.value (.slice (some ⟨w.heap.size, 0, none⟩) m m)) (w.alloc (.cells c E)) := by simp [execOp, hrun] <;> rfl
  unfold Oper.wp
  rw [hx2]
  refine hk _ _ trivial ?_ fun env2 d2 => Den.perm ?_ (hH _ _).symm
  · simp only [upd_same, vAd, vCap]
    exact raw_self _
  refine d2.push _ (by simp) (by unfold Chunk.own; simp [Value.ownBlock]) (by unfold Chunk.own; simp [Value.ownBlock]) (fun b hb => heap_alloc_old w _ b hb) rfl rfl rfl ?_
  intro hs
  generalize av Γ.M (H ξ S) = A0 at *
  generalize av Γ.M (_ :: H ξ S) = A at *
  unfold Chunk.own
  refine ⟨r2, c.toList, ?_, ?_⟩
  · rw [r3]
    exact World.ownsRow_lit w c m (Nat.zero_le _) hmax hsz
  · rw [r1]
    exact hr.mono hs
/-- a store into an owned slice -/
theorem YSeq.storeG {T : TypeId} {x y : Operand} {sz : Nat} (hT : ∃ i, P.info? T = some i ∧ i.size = sz)
    (h : ∀ (ξ : Nat → Value) (S : Nat → Bool), S n = false → (∀ j ∈ preds af, S j = true) → Clo L S → (∀ k, S k = true → Pf k ξ) →
      ∃ (ad : Option Addr) (cap kk m j : Nat) (e : TypeId) (rows : List (List Tr)) (r us : List Tr) (t : Tr) (cf : List Chunk), ev (rst (slotsOf (.store T x y)) (acc ξ)) x = some (Tr.eptr ad kk m j) ∧ ev (rst (slotsOf (.store T x y)) (acc ξ)) y = some t ∧ RowT t us ∧
        (H ξ S).Perm (Chunk.own ad cap kk e rows :: cf) ∧ rows[m]? = some r ∧ us.length = sz ∧ j + sz ≤ kk ∧ (r.length = kk → (H (upd ξ n undef) (updD S n)).Perm (Chunk.own ad cap kk e (rows.set m (r.take j ++ us ++ r.drop (j + sz))) :: cf)))
    (k : YSeq P Γ H L K (n + 1) acc (pfY n (fun _ => True) Pf) l) : YSeq P Γ H L K n acc Pf (⟨none, .store T x y, ty, pos, af, none⟩ :: l) := by
  refine YSeq.cons PvOkY.triv (TOk.const (t := Tr.any)) ?_ k
  unfold YStep
  intro ξ S h1 h2 h3 h4 a w dd next F hk
  obtain ⟨ad, cap, kk, m, j, e, rows, r, us, t, cf, hx, hy, ho, hp, hr, hu, hj, hq⟩ := h ξ S h1 h2 h3 h4
  have hptr := dd.ev hx
  unfold Tr.eptr at hptr
  obtain ⟨g, ha, hv⟩ := hptr
  have d1 := dd.perm hp
  have hrow : RdC w (av Γ.M (Chunk.own ad cap kk e rows :: cf)) us (a.eval y).cells.toList := ho.h _ _ _ (d1.ev hy)
  have hlr : r.length = kk := by
    have := d1.has (List.Perm.refl _)
    generalize av Γ.M (Chunk.own ad cap kk e rows :: cf) = A at this
    unfold Chunk.own at this
    obtain ⟨hk0, _⟩ := this
    exact hk0 r (List.mem_of_getElem? hr)
  have step : ∀ env2, Den Γ env2 (Chunk.own ad cap kk e rows :: cf) a w → ∃ w', (Instr.storeAt T (.pointer (some ⟨g, m * kk + j, none⟩)) (a.eval y)).run P w = .ok () w' ∧ Den Γ env2 (Chunk.own ad cap kk e (rows.set m (r.take j ++ us ++ r.drop (j + sz))) :: cf) a w' := by
    intro env2 d2
    exact own_store (P := P) d2 ha hr (r' := r.take j ++ us ++ r.drop (j + sz)) (vs := (a.eval y).cells.toList) (m := sz) (j := j) (by rw [hrow.length, hu]) (by omega)
      (fun A w' hs xs hx => (((hx.take j).mono hs).app (hrow.mono hs)).app ((hx.drop (j + sz)).mono hs)) (by simp [hlr, hu]; omega) T (a.eval y) hT rfl hrow.one
  obtain ⟨w', hrun, hd⟩ := step _ d1
  have hx2 : (execOp a.eval ⟨none, .store T x y, ty, pos, af, none⟩).run P w = .ok .skip w' := by simp [execOp, hv, hrun] <;> rfl
  unfold Oper.wp
  rw [hx2]
  refine hk _ _ trivial tr_any_self fun env2 d2 => ?_
  obtain ⟨w2, hrun2, hd2⟩ := step env2 (d2.perm hp)
  rw [hrun] at hrun2
  cases hrun2
  exact hd2.perm (hq hlr).symm
/-- a store of one cell into an owned slice -/
theorem YSeq.storeO {T : TypeId} {x y : Operand} [hT : TyOne P T]
    (h : ∀ (ξ : Nat → Value) (S : Nat → Bool), S n = false → (∀ j ∈ preds af, S j = true) → Clo L S → (∀ k, S k = true → Pf k ξ) →
      ∃ (ad : Option Addr) (cap kk m j : Nat) (e : TypeId) (rows : List (List Tr)) (r : List Tr) (t : Tr) (cf : List Chunk), ev (rst (slotsOf (.store T x y)) (acc ξ)) x = some (Tr.eptr ad kk m j) ∧ ev (rst (slotsOf (.store T x y)) (acc ξ)) y = some t ∧ OneT t ∧
        (H ξ S).Perm (Chunk.own ad cap kk e rows :: cf) ∧ rows[m]? = some r ∧ j < kk ∧ (H (upd ξ n undef) (updD S n)).Perm (Chunk.own ad cap kk e (rows.set m (r.set j t)) :: cf))
    (k : YSeq P Γ H L K (n + 1) acc (pfY n (fun _ => True) Pf) l) : YSeq P Γ H L K n acc Pf (⟨none, .store T x y, ty, pos, af, none⟩ :: l) := by
  refine YSeq.storeG (sz := 1) hT.size ?_ k
  intro ξ S h1 h2 h3 h4
  obtain ⟨ad, cap, kk, m, j, e, rows, r, t, cf, g1, g2, g3, g4, g5, g6, g7⟩ := h ξ S h1 h2 h3 h4
  refine ⟨ad, cap, kk, m, j, e, rows, r, [t], t, cf, g1, g2, inferInstance, g4, g5, rfl, by omega, fun hl => ?_⟩
  have : r.take j ++ [t] ++ r.drop (j + 1) = r.set j t := by rw [List.set_eq_take_append_cons_drop, if_pos (by omega)]; simp
  rw [this]
  exact g7
/-- a store of an element into an owned slice -/
theorem YSeq.storeA {T : TypeId} {x y : Operand} {kk : Nat} [hT : TyAgg P T kk]
    (h : ∀ (ξ : Nat → Value) (S : Nat → Bool), S n = false → (∀ j ∈ preds af, S j = true) → Clo L S → (∀ k, S k = true → Pf k ξ) →
      ∃ (ad : Option Addr) (cap m : Nat) (e : TypeId) (rows : List (List Tr)) (us : List Tr) (t : Tr) (cf : List Chunk), ev (rst (slotsOf (.store T x y)) (acc ξ)) x = some (Tr.eptr ad kk m 0) ∧ ev (rst (slotsOf (.store T x y)) (acc ξ)) y = some t ∧ RowT t us ∧
        (H ξ S).Perm (Chunk.own ad cap kk e rows :: cf) ∧ m < rows.length ∧ us.length = kk ∧ (H (upd ξ n undef) (updD S n)).Perm (Chunk.own ad cap kk e (rows.set m us) :: cf))
    (k : YSeq P Γ H L K (n + 1) acc (pfY n (fun _ => True) Pf) l) : YSeq P Γ H L K n acc Pf (⟨none, .store T x y, ty, pos, af, none⟩ :: l) := by
  refine YSeq.storeG (sz := kk) hT.size ?_ k
  intro ξ S h1 h2 h3 h4
  obtain ⟨ad, cap, m, e, rows, us, t, cf, g1, g2, g3, g4, g5, g6, g7⟩ := h ξ S h1 h2 h3 h4
  refine ⟨ad, cap, kk, m, 0, e, rows, rows[m], us, t, cf, g1, g2, g3, g4, List.getElem?_eq_getElem g5, g6, by omega, fun hl => ?_⟩
  have : (rows[m]).take 0 ++ us ++ (rows[m]).drop (0 + kk) = us := by simp [List.drop_of_length_le, hl]
  rw [this]
  exact g7
theorem Cw.region_YP {Q : Post} {id : Nat} {l : List Oper} (H : (Nat → Value) → (Nat → Bool) → List Chunk) (hm : P.follows .mixedOrders = true) (hb : (backOk l && (nodupB (dsts l) && (ssaFrom l 0 l && noGuards l))) = true) (hlt : (dsts l).all (Nat.blt · Γ.n) = true)
    (cs' : List Chunk) (hp : cs.Perm cs') (hs : ∀ ξ, H ξ (fun j => Nat.ble l.length j) = cs') (h : YSeq P Γ H l (fun acc cs => ∃ env' cs', Ent Γ acc cs env' cs' ∧ Q .normal env' cs') 0 (fun _ => env) (fun _ _ => True) l) : Cw P Γ (.region id l.toArray true) env cs Q :=
  Cw.ent (Ent.perm hp) (Cw.region_Y H hm hb hlt hs h)
theorem pf_int {st c : Nat} {f : FuncId} {args : List Tr} {p : Int → Prop} (hg : Gen P st f args c (fun r => ∃ x, r = .int x ∧ p x)) {X : Prop} {x : Int} (h : X) (e : X = p x := by rfl) : p x := e ▸ h
theorem pf_str {st c : Nat} {f : FuncId} {args : List Tr} {p : ByteArray → Prop} (hg : Gen P st f args c (fun r => ∃ x, r = .str x ∧ p x)) {X : Prop} {x : ByteArray} (h : X) (e : X = p x := by rfl) : p x := e ▸ h
end y2
end Lg
end
section
set_option linter.all false
namespace Lg
open Go Go.RowKit
/-! ### equal truth values -/
section eqb
variable {P : Program} {Γ : Ctx} {env env' : Env} {cs cs' cf : List Chunk} {Q : Post} {R : Array Oper}
variable {i : Tmp} {ty : TypeId} {pos : String} {af : Array Edge} {rest : List Oper}
variable {x y z : Operand} {T T2 : TypeId} {p q : Bool}
theorem eqGuard_bool (op : BinOp) (t : TypeId) (x y : Operand) (a b : Bool) (w : World) : (eqGuard op t x y (.bool a) (.bool b)).run P w = .ok () w := by
  unfold eqGuard
  cases op <;> simp
theorem OpV.eqlB (hT : P.underlying T = some .bool) (hx : ev env x = some (.bool p)) (hy : ev env y = some (.bool q)) : OpV P Γ (.binOp .eql T x y T2) ty env cs (.bool (p == q)) :=
  by unfold OpV; exact (fun a w d => ⟨.bool (p == q), by
    have h1 : a.eval x = .bool p := rd_raw (d.ev hx)
    have h2 : a.eval y = .bool q := rd_raw (d.ev hy)
    simp [execOp, h1, h2, eqGuard_bool, run_eql_bool w T p q hT], raw_self _⟩)
theorem OpV.neqB (hT : P.underlying T = some .bool) (hx : ev env x = some (.bool p)) (hy : ev env y = some (.bool q)) : OpV P Γ (.binOp .neq T x y T2) ty env cs (.bool (!(p == q))) :=
  by unfold OpV; exact (fun a w d => ⟨.bool (!(p == q)), by
    have h1 : a.eval x = .bool p := rd_raw (d.ev hx)
    have h2 : a.eval y = .bool q := rd_raw (d.ev hy)
    simp [execOp, h1, h2, eqGuard_bool, run_neq_bool w T p q hT], raw_self _⟩)
theorem OpV.eqlB_t (hT : P.underlying T = some .bool) (hx : ev env x = some (.bool p)) (hy : ev env y = some (.bool q)) (h : p = q) : OpV P Γ (.binOp .eql T x y T2) ty env cs (.bool true) := by
  subst h
  have := OpV.eqlB (P := P) (Γ := Γ) (ty := ty) (cs := cs) (T := T) (T2 := T2) hT hx hy
  rwa [BEq.rfl] at this
theorem Ops.eqlB (hT : P.underlying T = some .bool) (hx : ev env x = some (.bool p)) (hy : ev env y = some (.bool q)) (hi : Nat.blt i Γ.n = true)
    (kk : Ops P Γ R rest ((i, .bool (p == q)) :: env) cs Q) : Ops P Γ R (⟨some i, .binOp .eql T x y T2, ty, pos, af, none⟩ :: rest) env cs Q := Ops.val' hi (OpV.eqlB hT hx hy) kk
theorem Ops.eqlB_t (hT : P.underlying T = some .bool) (hx : ev env x = some (.bool p)) (hy : ev env y = some (.bool q)) (h : p = q) (hi : Nat.blt i Γ.n = true)
    (kk : Ops P Γ R rest ((i, .bool true) :: env) cs Q) : Ops P Γ R (⟨some i, .binOp .eql T x y T2, ty, pos, af, none⟩ :: rest) env cs Q := Ops.val' hi (OpV.eqlB_t hT hx hy h) kk
theorem Ops.neqB (hT : P.underlying T = some .bool) (hx : ev env x = some (.bool p)) (hy : ev env y = some (.bool q)) (hi : Nat.blt i Γ.n = true)
    (kk : Ops P Γ R rest ((i, .bool (!(p == q))) :: env) cs Q) : Ops P Γ R (⟨some i, .binOp .neq T x y T2, ty, pos, af, none⟩ :: rest) env cs Q := Ops.val' hi (OpV.neqB hT hx hy) kk
end eqb
section more
variable {P : Program} {Γ : Ctx} {env env' : Env} {cs cs' cf : List Chunk} {Q : Post} {R : Array Oper}
variable {i : Tmp} {ty : TypeId} {pos : String} {af : Array Edge} {rest : List Oper} {x : Operand}
/-- a pointer into an owned slice is not nil -/
theorem OpV.nilCheck_eptr {ad : Option Addr} {k e j : Nat} (hx : ev env x = some (.eptr ad k e j)) : OpV P Γ (.nilCheck x) ty env cs (.eptr ad k e j) := by
  unfold OpV
  intro a w d
  have h := d.ev hx
  have h2 := h
  unfold Tr.eptr at h
  obtain ⟨g, ha, hv⟩ := h
  exact ⟨_, by simp only [execOp, hv]; rfl, by rw [← hv]; exact h2⟩
theorem Ops.nilCheck_eptr {ad : Option Addr} {k e j : Nat} (hx : ev env x = some (.eptr ad k e j)) (hi : Nat.blt i Γ.n = true)
    (kk : Ops P Γ R rest ((i, .eptr ad k e j) :: env) cs Q) : Ops P Γ R (⟨some i, .nilCheck x, ty, pos, af, none⟩ :: rest) env cs Q :=
  Ops.val' hi (OpV.nilCheck_eptr hx) kk
variable {H : (Nat → Value) → (Nat → Bool) → List Chunk} {L : List Oper} {K : Env → List Chunk → Prop} {n : Nat} {l : List Oper} {Pf : Nat → (Nat → Value) → Prop} {d : Nat} {op : Op} {acc : (Nat → Value) → Env}
/-- a call that turns one owned piece -/
theorem YSeq.callC {f : FuncId} {ol : List Operand} {ts : Array TypeId} {t : (Nat → Value) → Tr}
    (h : ∀ (ξ : Nat → Value) (S : Nat → Bool), S n = false → (∀ j ∈ preds af, S j = true) → Clo L S → (∀ k, S k = true → Pf k ξ) →
      ∃ (args : List Tr) (c c' : Chunk) (cf : List Chunk), Spec P f args [c] (fun r cs => r = t ξ ∧ cs = [c']) ∧ Evs (rst (slotsOf (.call ⟨.value (.func f), ol.toArray, ts⟩)) (acc ξ)) ol args ∧ (H ξ S).Perm (c :: cf) ∧ ∀ v, (H (upd ξ n v) (updD S n)).Perm (c' :: cf))
    (ht : ∀ ξ v, t (upd ξ n v) = t ξ) (hT : TOk L n t)
    (k : YSeq P Γ H L K (n + 1) (fun ξ => (d, t ξ) :: acc ξ) (pfY n (fun _ => True) Pf) l) : YSeq P Γ H L K n acc Pf (⟨some d, .call ⟨.value (.func f), ol.toArray, ts⟩, ty, pos, af, none⟩ :: l) := by
  refine YSeq.call PvOkY.triv hT ?_ k
  intro ξ S h1 h2 h3 h4
  obtain ⟨args, c, c', cf, hs, ha, hp, hq⟩ := h ξ S h1 h2 h3 h4
  refine ⟨args, [c], cf, _, hs, ha, hp, ?_⟩
  rintro r cs' ⟨rfl, rfl⟩ w A v hr
  exact ⟨by rw [ht]; exact hr, trivial, hq v⟩
end more
/-! ### numbers of other widths -/
section wid
variable {P : Program} {Γ : Ctx} {env env' : Env} {cs cs' cf : List Chunk} {Q : Post} {R : Array Oper}
variable {i : Tmp} {ty : TypeId} {pos : String} {af : Array Edge} {rest : List Oper} {x y : Operand} {T T2 : TypeId} {k k2 : IntKind} {p q : Int} {s : ByteArray}
theorem wrap_u64 {n : Int} (h : 0 ≤ n ∧ n ≤ 18446744073709551615) : IntKind.u64.wrap n = n := by
  have : IntKind.u64.wrap n = n % 18446744073709551616 := rfl
  rw [this]
  exact Int.emod_eq_of_lt (by omega) (by omega)
theorem wrap_u8 {n : Int} (h : 0 ≤ n ∧ n ≤ 255) : IntKind.u8.wrap n = n := by
  have : IntKind.u8.wrap n = n % 256 := rfl
  rw [this]
  exact Int.emod_eq_of_lt (by omega) (by omega)
theorem wrap_i32 {n : Int} (h : 0 ≤ n ∧ n ≤ 2147483647) : IntKind.i32.wrap n = n := by
  have : IntKind.i32.wrap n = if (decide (n % 4294967296 ≥ 2147483648)) = true then n % 4294967296 - 4294967296 else n % 4294967296 := rfl
  rw [this, Int.emod_eq_of_lt (by omega) (by omega), if_neg (by simp; omega)]
theorem wrap_i64 {n : Int} (h : 0 ≤ n ∧ n ≤ 9223372036854775807) : IntKind.i64.wrap n = n := by
  have : IntKind.i64.wrap n = if (decide (n % 18446744073709551616 ≥ 9223372036854775808)) = true then n % 18446744073709551616 - 18446744073709551616 else n % 18446744073709551616 := rfl
  rw [this, Int.emod_eq_of_lt (by omega) (by omega), if_neg (by simp; omega)]
theorem sby_bd (s : ByteArray) (j : Nat) : 0 ≤ sby s j ∧ sby s j ≤ 255 := by
  unfold sby
  have := UInt8.toNat_lt (s.data.toList.getD j 0)
  omega
theorem Ops.convN {d1 : TypeDesc} (h1 : P.underlying T = some d1) (h2 : P.underlying T2 = some (.int k2)) (hx : ev env x = some (.raw (.int k p))) (hw : k2.wrap p = q) (hi : Nat.blt i Γ.n = true)
    (kk : Ops P Γ R rest ((i, .raw (.int k2 q)) :: env) cs Q) : Ops P Γ R (⟨some i, .convert T T2 x, ty, pos, af, none⟩ :: rest) env cs Q := by
  subst hw
  exact Ops.val' hi (OpV.convI h1 h2 hx) kk
theorem Ops.indexS_any (hT : P.underlying T = some .string) (hx : ev env x = some (.str s)) (hy : ev env y = some (.raw (.int k p))) (h : 0 ≤ p ∧ p < s.size) (hi : Nat.blt i Γ.n = true)
    (kk : ∀ v : Int, 0 ≤ v ∧ v ≤ 255 → Ops P Γ R rest ((i, .raw (.int .u8 v)) :: env) cs Q) : Ops P Γ R (⟨some i, .index T x y, ty, pos, af, none⟩ :: rest) env cs Q :=
  Ops.val' hi (OpV.indexS hT hx hy h) (kk _ (sby_bd _ _))
end wid
end Lg
end
section
set_option linter.all false
namespace Lg
open Go

/-! ### copies into owned slices; an element is put into an owned slice -/
section ins
variable {P : Program} {Γ : Ctx} {env env' : Env} {cs cs' cf : List Chunk} {Q : Post} {R : Array Oper} {a : Act} {w : World}
variable {i : Tmp} {ty : TypeId} {pos : String} {af : Array Edge} {rest : List Oper} {x y z : Operand} {T T2 : TypeId} {k : IntKind} {p q : Int}

/-- a slice with elements has an address, and room for them -/
theorem Cw.own_form {c : Code} {ad : Option Addr} {cap kk E : Nat} {rows : List (List Tr)} (hp : cs.Perm (Chunk.own ad cap kk E rows :: cf)) (hne : 0 < rows.length)
    (h : ∀ g, ad = some ⟨g, 0, none⟩ → rows.length ≤ cap → cap ≤ maxLen → Cw P Γ c env cs Q) : Cw P Γ c env cs Q := by
  unfold Cw at h ⊢
  intro a w d
  have hh := (d.perm hp).has (List.Perm.refl _)
  generalize av Γ.M (Chunk.own ad cap kk E rows :: cf) = A at hh
  unfold Chunk.own at hh
  obtain ⟨_, xs, hown, _⟩ := hh
  rcases hown.2 with ⟨e, h0⟩ | ⟨g, c2, cur, e, _, _, h1, h2, _⟩
  · omega
  · simp only [Value.slice.injEq] at e
    obtain ⟨rfl, _, rfl⟩ := e
    exact h g rfl h1 h2 a w d
theorem Ops.own_form {l : List Oper} {ad : Option Addr} {cap kk E : Nat} {rows : List (List Tr)} (hp : cs.Perm (Chunk.own ad cap kk E rows :: cf)) (hne : 0 < rows.length)
    (h : ∀ g, ad = some ⟨g, 0, none⟩ → rows.length ≤ cap → cap ≤ maxLen → Ops P Γ R l env cs Q) : Ops P Γ R l env cs Q := by
  unfold Ops at h ⊢
  intro a w d
  have hh := (d.perm hp).has (List.Perm.refl _)
  generalize av Γ.M (Chunk.own ad cap kk E rows :: cf) = A at hh
  unfold Chunk.own at hh
  obtain ⟨_, xs, hown, _⟩ := hh
  rcases hown.2 with ⟨e, h0⟩ | ⟨g, c2, cur, e, _, _, h1, h2, _⟩
  · omega
  · simp only [Value.slice.injEq] at e
    obtain ⟨rfl, _, rfl⟩ := e
    exact h g rfl h1 h2 a w d
theorem Cw.own_cap {c : Code} {ad : Option Addr} {cap kk E : Nat} {rows : List (List Tr)} (hp : cs.Perm (Chunk.own ad cap kk E rows :: cf))
    (h : rows.length ≤ cap → cap ≤ maxLen → Cw P Γ c env cs Q) : Cw P Γ c env cs Q := by
  unfold Cw at h ⊢
  intro a w d
  have hh := (d.perm hp).has (List.Perm.refl _)
  generalize av Γ.M (Chunk.own ad cap kk E rows :: cf) = A at hh
  unfold Chunk.own at hh
  obtain ⟨_, xs, hown, _⟩ := hh
  rcases hown.2 with ⟨e, h0⟩ | ⟨g, c2, cur, e, _, _, h1, h2, _⟩
  · simp only [Value.slice.injEq] at e
    exact h (by omega) (by rw [e.2.2]; exact Nat.zero_le _) a w d
  · simp only [Value.slice.injEq] at e
    obtain ⟨rfl, _, rfl⟩ := e
    exact h h1 h2 a w d

theorem OpV.shr1 (hx : ev env x = some (.raw (.int .u64 p))) (hy : ev env y = some (.raw (.int .u64 1))) : OpV P Γ (.binOp .shr T x y T2) ty env cs (.raw (.int .u64 (p / 2))) :=
  OpV.bin hx hy (by
    rw [binOp_shr]
    have e : p.fdiv 2 = p / 2 := Int.fdiv_eq_ediv_of_nonneg p (by omega)
    simp [Op.shift, IntKind.bits, e])
theorem Ops.shr1 (hx : ev env x = some (.raw (.int .u64 p))) (hy : ev env y = some (.raw (.int .u64 1))) (hi : Nat.blt i Γ.n = true)
    (kk : Ops P Γ R rest ((i, .raw (.int .u64 (p / 2))) :: env) cs Q) : Ops P Γ R (⟨some i, .binOp .shr T x y T2, ty, pos, af, none⟩ :: rest) env cs Q := Ops.val' hi (OpV.shr1 hx hy) kk

/-! slices of a slice's value: nobody's memory changes -/
theorem OpV.sliceR_l {E kk bb zs} [hS : TySl P T E kk bb zs] {g o n cap : Nat} (hx : ev env x = some (.raw (.slice (some ⟨g, o, none⟩) n cap))) (hy : ev env y = some (.raw (.int k p))) (h0 : 0 ≤ p ∧ p ≤ n) (hc : p < cap) : OpV P Γ (.slice T x (some y) none none) ty env cs (.raw (.slice (some ⟨g, o + p.toNat * kk, none⟩) (n - p.toNat) (cap - p.toNat))) := by
  unfold OpV
  intro a w d
  have hv := rd_raw (d.ev hx)
  have hq := rd_raw (d.ev hy)
  have hrun := run_slice_parts (P := P) (t := T) (kk := kk) (a := some ⟨g, o, none⟩) (bounds_l (P := P) (k := k) (w := w) (len := n) (cap := cap) h0.1 h0.2)
  rw [if_neg (show ¬ cap = p.toNat by omega)] at hrun
  simp only [Option.map_some, add_plain] at hrun
  exact ⟨_, by simp [execOp, hv, hq, hrun] <;> rfl, raw_self _⟩
theorem Ops.sliceR_l {E kk bb zs} [hS : TySl P T E kk bb zs] {g o n cap : Nat} (hx : ev env x = some (.raw (.slice (some ⟨g, o, none⟩) n cap))) (hy : ev env y = some (.raw (.int k p))) (h0 : 0 ≤ p ∧ p ≤ n) (hc : p < cap) (hi : Nat.blt i Γ.n = true)
    (kont : Ops P Γ R rest ((i, .raw (.slice (some ⟨g, o + p.toNat * kk, none⟩) (n - p.toNat) (cap - p.toNat))) :: env) cs Q) : Ops P Γ R (⟨some i, .slice T x (some y) none none, ty, pos, af, none⟩ :: rest) env cs Q :=
  Ops.val' hi (OpV.sliceR_l hx hy h0 hc) kont
theorem OpV.sliceR_h {E kk bb zs} [hS : TySl P T E kk bb zs] {g o n cap : Nat} (hx : ev env x = some (.raw (.slice (some ⟨g, o, none⟩) n cap))) (hz : ev env z = some (.raw (.int k q))) (h0 : 0 ≤ q ∧ q ≤ cap) : OpV P Γ (.slice T x none (some z) none) ty env cs (.raw (.slice (some ⟨g, o, none⟩) q.toNat cap)) := by
  unfold OpV
  intro a w d
  have hv := rd_raw (d.ev hx)
  have hq := rd_raw (d.ev hz)
  have hrun := run_slice_parts (P := P) (t := T) (kk := kk) (a := some ⟨g, o, none⟩) (bounds_h (P := P) (k := k) (w := w) (len := n) (cap := cap) h0.1 h0.2)
  have hval : (if cap = 0 then (some ⟨g, o, none⟩ : Option Addr) else (some ⟨g, o, none⟩ : Option Addr).map (·.add (0 * kk))) = some ⟨g, o, none⟩ := by
    split
    · rfl
    · simp [Addr.add]
  rw [hval] at hrun
  exact ⟨.slice (some ⟨g, o, none⟩) q.toNat cap, by simp [execOp, hv, hq, hrun], raw_self _⟩
theorem Ops.sliceR_h {E kk bb zs} [hS : TySl P T E kk bb zs] {g o n cap : Nat} (hx : ev env x = some (.raw (.slice (some ⟨g, o, none⟩) n cap))) (hz : ev env z = some (.raw (.int k q))) (h0 : 0 ≤ q ∧ q ≤ cap) (hi : Nat.blt i Γ.n = true)
    (kont : Ops P Γ R rest ((i, .raw (.slice (some ⟨g, o, none⟩) q.toNat cap)) :: env) cs Q) : Ops P Γ R (⟨some i, .slice T x none (some z) none, ty, pos, af, none⟩ :: rest) env cs Q :=
  Ops.val' hi (OpV.sliceR_h hx hz h0) kont
theorem Ops.sliceR_any {E kk bb zs} [hS : TySl P T E kk bb zs] {ad : Option Addr} {n cap : Nat} (hx : ev env x = some (.raw (.slice ad n cap))) (hy : ev env y = some (.raw (.int k p))) (h0 : 0 ≤ p ∧ p ≤ n) (hi : Nat.blt i Γ.n = true)
    (kont : Ops P Γ R rest ((i, Tr.any) :: env) cs Q) : Ops P Γ R (⟨some i, .slice T x (some y) none none, ty, pos, af, none⟩ :: rest) env cs Q :=
  Ops.of fun a w d => by
    have hv := rd_raw (d.ev hx)
    have hq := rd_raw (d.ev hy)
    have hrun := run_slice_parts (P := P) (t := T) (kk := kk) (a := ad) (bounds_l (P := P) (k := k) (w := w) (len := n) (cap := cap) h0.1 h0.2)
    exact ⟨_, _, .value _, w, by simp [execOp, hv, hq, hrun] <;> rfl, .inl ⟨_, rfl, Den.put d hi (by unfold Tr.any; trivial)⟩, kont⟩

/-- the kit's run of copy, for elements of several cells -/
theorem run_copy_rowK (w : World) (dT sT ty elem : TypeId) (kk m : Nat) (g o dLen dCap : Nat) (a : Addr) (sLen sCap : Nat) (cur : Array Value) (t : TypeId) (cs : List Value)
    (hu : P.underlying dT = some (.slice elem)) (hs : ∃ i, P.info? elem = some i ∧ i.size = kk)
    (hg : w.heap[g]? = some (.cells cur t (0, 0))) (hm : Nat.min sLen dLen = m) (hn : cs.length = m * kk)
    (hsrc : ∀ j v, cs[j]? = some v → w.cell? (a.add j) = some v) (hfit : o + cs.length ≤ cur.size) (h1 : ∀ v ∈ cs, v.oneCell' = true) :
    (Builtin.copy_ #[dT, sT] ty #[.slice (some ⟨g, o, none⟩) dLen dCap, .slice (some a) sLen sCap]).run P w =
      .ok (goInt m) (w.setRow g (cur.toList.take o ++ cs ++ cur.toList.drop (o + cs.length)).toArray) := by
  obtain ⟨i, hq, hi⟩ := hs
  have hl := run_loadCells_list (P := P) w a cs hsrc
  have hst := run_storeCells_at P g o t cs 0 cur w hg (by simpa using hfit) h1
  subst hm
  simp [Builtin.copy_, run_underlying hu, Builtin.lenOf, Builtin.firstCells, Go.sizeOf, typeInfo, hq, hi, ← hn, hl, hst]

/-- elements are laid into the block of an owned slice, from the p-th on; it may grow into its spare room -/
theorem Den.lay {g cap kk E pn : Nat} {rows new : List (List Tr)} {vs : List Value} (d : Den Γ env (Chunk.own (some ⟨g, 0, none⟩) cap kk E rows :: cf) a w)
    (hp : pn ≤ rows.length) (hc : pn + new.length ≤ cap) (hk : ∀ r ∈ new, r.length = kk) (hr : RdC w (av Γ.M (Chunk.own (some ⟨g, 0, none⟩) cap kk E rows :: cf)) new.flatten vs) :
    ∃ cur, w.heap[g]? = some (.cells cur E (0, 0)) ∧ pn * kk + vs.length ≤ cur.size ∧ vs.length = new.length * kk ∧
      Den Γ env (Chunk.own (some ⟨g, 0, none⟩) cap kk E (rows.take pn ++ new ++ rows.drop (pn + new.length)) :: cf) a (w.setRow g (cur.toList.take (pn * kk) ++ vs ++ cur.toList.drop (pn * kk + vs.length)).toArray) := by
  have hh := d.has (List.Perm.refl _)
  have hvl : vs.length = new.length * kk := by rw [hr.length, flat_len hk]
  have hh2 := hh
  generalize hA : av Γ.M (Chunk.own (some ⟨g, 0, none⟩) cap kk E rows :: cf) = A at hh2
  unfold Chunk.own at hh2
  obtain ⟨hkr, xs, hown, hrd⟩ := hh2
  rcases hown.2 with ⟨e, h0⟩ | ⟨g', c2, cur, e, h1, hg, h2, h3, h4, h5⟩
  · simp at e
  simp only [Value.slice.injEq, Option.some.injEq, Addr.mk.injEq] at e
  obtain ⟨⟨rfl, _⟩, _, rfl⟩ := e
  have hle : pn * kk + vs.length ≤ cap * kk := by rw [hvl, ← Nat.add_mul]; exact Nat.mul_le_mul_right _ hc
  have hfpE : ∀ rs, (Chunk.own (some ⟨g, 0, none⟩) cap kk E rs).fp = [g] := fun rs => by unfold Chunk.own; rfl
  refine ⟨cur, hg, by omega, hvl, ?_⟩
  refine d.turn (by rw [hfpE, hfpE]) (fun b hb hn => ?_) (setRow_size _ _ _) (setRow_os _ _ _) (setRow_tape _ _ _) (setRow_output _ _ _) fun hs _ => ?_
  · rw [hfpE] at hn
    exact setRow_other _ _ _ _ (by simpa using hn)
  have hrn := hrd
  rw [← hA] at hrn
  generalize hA2 : av Γ.M (Chunk.own (some ⟨g, 0, none⟩) cap kk E (rows.take pn ++ new ++ rows.drop (pn + new.length)) :: cf) = A2 at hs
  unfold Chunk.own
  have hlen : (rows.take pn ++ new ++ rows.drop (pn + new.length)).length = pn + new.length + (rows.length - (pn + new.length)) := by
    simp only [List.length_append, List.length_take, List.length_drop]
    omega
  have hl2 : pn + new.length + (rows.length - (pn + new.length)) ≤ cap := by omega
  refine ⟨?_, xs.take (pn * kk) ++ vs ++ xs.drop ((pn + new.length) * kk), ?_, ?_⟩
  · intro r hr
    simp only [List.mem_append] at hr
    rcases hr with (h | h) | h
    · exact hkr r (List.mem_of_mem_take h)
    · exact hk r h
    · exact hkr r (List.mem_of_mem_drop h)
  · have hxl := hown.1
    have hpk : pn * kk ≤ rows.length * kk := Nat.mul_le_mul_right _ hp
    have hdrop : xs.drop ((pn + new.length) * kk) = (cur.toList.drop (pn * kk + vs.length)).take ((rows.length - (pn + new.length)) * kk) := by
      rw [← h5, List.drop_take, hvl, ← Nat.add_mul, Nat.sub_mul]
    have htake : xs.take (pn * kk) = cur.toList.take (pn * kk) := by rw [← h5, List.take_take, Nat.min_eq_left hpk]
    have hcl : cur.toList.length = cap * kk := by rw [Array.length_toList]; exact h4
    have htl : (cur.toList.take (pn * kk)).length = pn * kk := by rw [List.length_take, hcl]; omega
    refine ⟨?_, .inr ⟨g, cap, _, by rw [hlen], Nat.zero_le _, setRow_heap w g cur _ E (0, 0) hg, by rw [hlen]; exact hl2, h3, ?_, ?_⟩⟩
    · rw [hlen]
      simp only [List.length_append, List.length_take, List.length_drop, hxl, hvl, Nat.add_mul, Nat.sub_mul]
      omega
    · simp only [List.size_toArray, List.length_append, htl, List.length_drop, hcl]
      omega
    · rw [hlen, htake, hdrop, List.toList_toArray, List.append_assoc, List.append_assoc, List.take_append, htl, List.take_append]
      have e1 : (pn + new.length + (rows.length - (pn + new.length))) * kk - pn * kk = vs.length + (rows.length - (pn + new.length)) * kk := by
        rw [hvl, Nat.add_mul, Nat.add_mul]; omega
      rw [e1, List.take_of_length_le (l := cur.toList.take (pn * kk)) (by rw [htl, Nat.add_mul, Nat.add_mul]; omega), List.take_of_length_le (l := vs) (by omega), Nat.add_sub_cancel_left]
  · rw [List.flatten_append, List.flatten_append, flatten_take hkr, flatten_drop hkr]
    exact ((hrn.take _).mono hs).app (hr.mono hs) |>.app ((hrn.drop _).mono hs)

theorem own_cells {A : Nat → Prop} {g cap kk E : Nat} {rows : List (List Tr)} (h : (Chunk.own (some ⟨g, 0, none⟩) cap kk E rows).holds w A) :
    ∃ xs, RdC w A rows.flatten xs ∧ (∀ r ∈ rows, r.length = kk) ∧ ∀ j u, xs[j]? = some u → w.cell? ⟨g, j, none⟩ = some u := by
  unfold Chunk.own at h
  obtain ⟨hkr, xs, hown, hrd⟩ := h
  refine ⟨xs, hrd, hkr, fun j u hj => ?_⟩
  have := hown.cells (g := g) rfl j u hj
  rwa [add_plain, Nat.zero_add] at this

/-- copy(s[j+1:], s[j:]): what stands from j on moves up by one -/
theorem Ops.copy_shift {E kk bb zs} [hS : TySl P T E kk bb zs] {g cap j o1 o2 dl dc sl sc : Nat} {rows : List (List Tr)}
    (hx : ev env x = some (.raw (.slice (some ⟨g, o1, none⟩) dl dc))) (hy : ev env y = some (.raw (.slice (some ⟨g, o2, none⟩) sl sc)))
    (hp : cs.Perm (Chunk.own (some ⟨g, 0, none⟩) cap kk E rows :: cf)) (ho1 : o1 = (j + 1) * kk) (ho2 : o2 = j * kk) (hj : j < rows.length) (hdl : dl = rows.length - j) (hsl : rows.length - j ≤ sl) (hcap : rows.length + 1 ≤ cap) (hi : Nat.blt i Γ.n = true)
    (kont : Ops P Γ R rest ((i, .int ((rows.length - j : Nat) : Int)) :: env) (Chunk.own (some ⟨g, 0, none⟩) cap kk E (rows.take (j + 1) ++ rows.drop j) :: cf) Q) :
    Ops P Γ R (⟨some i, .call ⟨.builtin .copy, #[x, y], #[T, T]⟩, ty, pos, af, none⟩ :: rest) env cs Q :=
  Ops.of fun a w d => by
    have hv := rd_raw (d.ev hx)
    have hv2 := rd_raw (d.ev hy)
    have d' := d.perm hp
    obtain ⟨xs, hrd, hkr, hcell⟩ := own_cells (d'.has (List.Perm.refl _))
    have hr := hrd.drop (j * kk)
    rw [← flatten_drop hkr] at hr
    obtain ⟨cur, hg, hfit, hvl, hden⟩ := d'.lay (pn := j + 1) (new := rows.drop j) (by omega) (by rw [List.length_drop]; omega) (fun r hr => hkr r (List.mem_of_mem_drop hr)) hr
    obtain ⟨ti, zv, h1, h2, h3, h4, _⟩ := hS.hE
    have hvl := hvl.trans (by rw [List.length_drop] : (rows.drop j).length * kk = (rows.length - j) * kk)
    have hrun := run_copy_rowK (P := P) w T T ty E kk (rows.length - j) g o1 dl dc ⟨g, o2, none⟩ sl sc cur E (xs.drop (j * kk)) hS.hT ⟨ti, h1, h4⟩ hg (by rw [hdl]; exact Nat.min_eq_right hsl) hvl
      (fun m u hm => by rw [List.getElem?_drop] at hm; rw [add_plain, ho2]; exact hcell _ _ hm) (by rw [ho1]; exact hfit) hr.one
    rw [ho1] at hrun hv
    rw [show rows.drop (j + 1 + (rows.drop j).length) = [] from List.drop_of_length_le (by rw [List.length_drop]; omega), List.append_nil] at hden
    exact ⟨_, _, .value _, _, by simp [execOp, resolve, invoke, builtin, hv, hv2, hrun] <;> rfl, .inl ⟨_, rfl, Den.put hden hi (raw_self _)⟩, kont⟩
/-- copy(s[j:], l) of one element -/
theorem Ops.copy_one {E kk bb zs} [hS : TySl P T E kk bb zs] {g cap j o1 dl dc : Nat} {rows : List (List Tr)} {row : List Tr}
    (hx : ev env x = some (.raw (.slice (some ⟨g, o1, none⟩) dl dc))) (hy : ev env y = some (.sl kk [row]))
    (hp : cs.Perm (Chunk.own (some ⟨g, 0, none⟩) cap kk E rows :: cf)) (ho1 : o1 = j * kk) (hj : j < rows.length) (hcap : rows.length ≤ cap) (hdl : 0 < dl) (hi : Nat.blt i Γ.n = true)
    (kont : Ops P Γ R rest ((i, .int 1) :: env) (Chunk.own (some ⟨g, 0, none⟩) cap kk E (rows.set j row) :: cf) Q) :
    Ops P Γ R (⟨some i, .call ⟨.builtin .copy, #[x, y], #[T, T]⟩, ty, pos, af, none⟩ :: rest) env cs Q :=
  Ops.of fun a w d => by
    have hv := rd_raw (d.ev hx)
    have d' := d.perm hp
    have hsl := d.ev hy
    rw [av_perm hp Γ.M] at hsl
    unfold Tr.sl at hsl
    obtain ⟨hk2, hl2, ad2, cap2, hv2, g1, g2, g3, g4⟩ := hsl
    rcases g4 with g4 | ⟨b, off, rfl, hc⟩
    · cases g4
    obtain ⟨vs, hvs, hcell⟩ := rdc_at hc
    obtain ⟨cur, hg, hfit, hvl, hden⟩ := d'.lay (pn := j) (new := [row]) (by omega) (by simp only [List.length_cons, List.length_nil]; omega) hk2 hvs
    obtain ⟨ti, zv, h1, h2, h3, h4, _⟩ := hS.hE
    have hrun := run_copy_rowK (P := P) w T T ty E kk 1 g o1 dl dc ⟨b, off, none⟩ [row].length cap2 cur E vs hS.hT ⟨ti, h1, h4⟩ hg (by simp only [List.length_cons, List.length_nil]; exact Nat.min_eq_left hdl) hvl hcell (by rw [ho1]; exact hfit) hvs.one
    rw [ho1] at hrun hv
    have hl1 : [row].length = 1 := rfl
    rw [hl1] at hrun hv2
    have e : rows.take j ++ [row] ++ rows.drop (j + [row].length) = rows.set j row := by
      rw [List.set_eq_take_append_cons_drop, if_pos hj]
      simp
    rw [e] at hden
    exact ⟨_, _, .value _, _, by simp [execOp, resolve, invoke, builtin, hv, hv2, hrun] <;> rfl, .inl ⟨_, rfl, Den.put hden hi (raw_self _)⟩, kont⟩
/-- copy(s[j:], t[l:]): the end of another owned slice -/
theorem Ops.copy_end {E kk bb zs} [hS : TySl P T E kk bb zs] {g g2 cap cap2 j l o1 o2 dl dc sl sc : Nat} {rows rows2 : List (List Tr)}
    (hx : ev env x = some (.raw (.slice (some ⟨g, o1, none⟩) dl dc))) (hy : ev env y = some (.raw (.slice (some ⟨g2, o2, none⟩) sl sc)))
    (hp : cs.Perm (Chunk.own (some ⟨g, 0, none⟩) cap kk E rows :: Chunk.own (some ⟨g2, 0, none⟩) cap2 kk E rows2 :: cf)) (ho1 : o1 = j * kk) (ho2 : o2 = l * kk) (hj : j ≤ rows.length) (hcap : rows.length ≤ cap) (hdl : dl = rows.length - j) (hsl : sl = rows2.length - l) (hjl : rows.length - j = rows2.length - l) (hi : Nat.blt i Γ.n = true)
    (kont : Ops P Γ R rest ((i, .int ((rows.length - j : Nat) : Int)) :: env) (Chunk.own (some ⟨g, 0, none⟩) cap kk E (rows.take j ++ rows2.drop l) :: Chunk.own (some ⟨g2, 0, none⟩) cap2 kk E rows2 :: cf) Q) :
    Ops P Γ R (⟨some i, .call ⟨.builtin .copy, #[x, y], #[T, T]⟩, ty, pos, af, none⟩ :: rest) env cs Q :=
  Ops.of fun a w d => by
    have hv := rd_raw (d.ev hx)
    have hv2 := rd_raw (d.ev hy)
    have d' := d.perm hp
    obtain ⟨xs, hrd, hkr, hcell⟩ := own_cells (d'.has (List.Perm.swap _ _ _))
    have hr := hrd.drop (l * kk)
    rw [← flatten_drop hkr] at hr
    obtain ⟨cur, hg, hfit, hvl, hden⟩ := d'.lay (pn := j) (new := rows2.drop l) hj (by rw [List.length_drop]; omega) (fun r hr => hkr r (List.mem_of_mem_drop hr)) hr
    obtain ⟨ti, zv, h1, h2, h3, h4, _⟩ := hS.hE
    have hvl := hvl.trans (by rw [List.length_drop, ← hjl] : (rows2.drop l).length * kk = (rows.length - j) * kk)
    have hrun := run_copy_rowK (P := P) w T T ty E kk (rows.length - j) g o1 dl dc ⟨g2, o2, none⟩ sl sc cur E (xs.drop (l * kk)) hS.hT ⟨ti, h1, h4⟩ hg (by rw [hdl, hsl, ← hjl]; exact Nat.min_self _) hvl
      (fun m u hm => by rw [List.getElem?_drop] at hm; rw [add_plain, ho2]; exact hcell _ _ hm) (by rw [ho1]; exact hfit) hr.one
    rw [ho1] at hrun hv
    rw [show rows.drop (j + (rows2.drop l).length) = [] from List.drop_of_length_le (by rw [List.length_drop]; omega), List.append_nil] at hden
    exact ⟨_, _, .value _, _, by simp [execOp, resolve, invoke, builtin, hv, hv2, hrun] <;> rfl, .inl ⟨_, rfl, Den.put hden hi (raw_self _)⟩, kont⟩
/-- append(s[:j], make(S, m)...) where there is no room: a new slice; the old one stays -/
theorem Ops.append_zeros_own {E kk bb : Nat} {zs : List Value} [hS : TySl P T E kk bb zs] {kn : IntKind} {g cap j m : Nat} {rows : List (List Tr)} {q : Int} (hT2 : P.underlying T2 = some (.int kn)) (hx : ev env x = some (.raw (.slice (some ⟨g, 0, none⟩) j cap))) (hy : ev env y = some (.int q)) (hq : q = m)
    (hp : cs.Perm (Chunk.own (some ⟨g, 0, none⟩) cap kk E rows :: cf)) (hj : j ≤ rows.length) (hg : cap < j + m) (h0 : 0 < m) (hb : (j + m) * bb ≤ 140737488355328) (hm : j + m ≤ 100000000000) (hi : Nat.blt i Γ.n = true)
    (kont : ∀ ad' cap', Ops P Γ R rest ((i, .raw (.slice ad' (j + m) cap')) :: env) (Chunk.own ad' cap' kk E (rows.take j ++ List.replicate m (zs.map Tr.raw)) :: Chunk.own (some ⟨g, 0, none⟩) cap kk E rows :: cf) Q) : Ops P Γ R (⟨some i, .call ⟨.builtin .append, #[x, y], #[T, T2]⟩, ty, pos, af, none⟩ :: rest) env cs Q :=
  Ops.of fun a w d => by
    subst hq
    have hv := rd_raw (d.ev hx)
    have hv2 := rd_raw (d.ev hy)
    have d' := d.perm hp
    obtain ⟨xs, hrd, hkr, hcell⟩ := own_cells (d'.has (List.Perm.refl _))
    obtain ⟨ti, zv, h1, h2, h3, h4, h5, h6⟩ := hS.hE
    have hzs : zv.cells.size = kk := hS.hz _ _ h1 h2
    have hxl : xs.length = rows.length * kk := by rw [hrd.length, flat_len hkr]
    have hjk : j * kk ≤ rows.length * kk := Nat.mul_le_mul_right _ hj
    have hold : (Builtin.firstCells ti.size j (.slice (some ⟨g, 0, none⟩) j cap)).run P w.drew = .ok (xs.take (j * kk)).toArray w.drew := by
      rw [h4]
      exact run_firstCells_some w.drew kk j ⟨g, 0, none⟩ j cap (xs.take (j * kk)) (by rw [List.length_take]; omega) (fun m v hm => by
        rw [add_plain, Nat.zero_add]
        rw [List.getElem?_take] at hm
        split at hm
        · exact hcell m v hm
        · cases hm)
    have hr := Lib.run_append_grow_zeros (P := P) w T T2 ty E ti zv .i64 kn hS.hT hT2 h1 h2 (some ⟨g, 0, none⟩) j cap (xs.take (j * kk)) hold m h0 (by rw [h4]; exact h6) hg (by omega)
      (by rw [h5]; have := Nat.mul_le_mul_right bb (show m ≤ j + m by omega); omega) (by rw [h5]; exact growslice_fits hg hb)
    have hge := grownCap_ge w (j + m) cap E
    have hle := grownCap_le_maxLen w (j + m) cap E (by unfold maxLen; omega)
    generalize hcap : grownCap w (j + m) cap E = cap2 at hr hge hle
    generalize hZ : (xs.take (j * kk)).toArray ++ Builtin.zeroCells zv.cells m ++ Builtin.zeroCells zv.cells (cap2 - (j + m)) = Z at hr
    refine ⟨_, _, .value (.slice (some ⟨w.heap.size, 0, none⟩) (j + m) cap2), _, by simp [execOp, resolve, invoke, builtin, hv, hv2, hr] <;> rfl, .inl ⟨_, rfl, Den.put ?_ hi (raw_self _)⟩, kont (some ⟨w.heap.size, 0, none⟩) cap2⟩
    have htl : (xs.take (j * kk)).length = j * kk := by rw [List.length_take]; omega
    have hZs : Z.size = cap2 * kk := by
      rw [← hZ]
      simp only [Array.size_append, size_zeroCells, hzs, List.size_toArray, htl]
      rw [← Nat.add_mul, ← Nat.add_mul]
      congr 1
      omega
    have hlen : (rows.take j ++ List.replicate m (zs.map Tr.raw)).length = j + m := by rw [List.length_append, List.length_take, List.length_replicate]; omega
    have hZt : Z.toList.take ((j + m) * kk) = xs.take (j * kk) ++ (madeCells zv.cells (m * zv.cells.size)).toList := by
      have e1 : ((xs.take (j * kk)).toArray ++ Builtin.zeroCells zv.cells m).toList.length = (j + m) * kk := by
        simp only [Array.length_toList, Array.size_append, List.size_toArray, htl, size_zeroCells, hzs, Nat.add_mul]
      rw [← hZ, Array.toList_append, List.take_append_of_le_length (by rw [e1]; exact Nat.le_refl _), List.take_of_length_le (by rw [e1]; exact Nat.le_refl _), Array.toList_append, zero_made]
    have hrd1 : ∀ A w', RdC w' A (zeroRow zv.cells.toList m) (madeCells zv.cells (m * zv.cells.size)).toList := fun A w' => madeCells_rd (by rw [h3]; exact hS.one) m
    refine (d'.drew.push (w' := w.drew.alloc (.cells Z E)) _ (by simp) (by unfold Chunk.own; simp [Value.ownBlock]) (by unfold Chunk.own; simp [Value.ownBlock]) (fun b hb => heap_alloc_old w.drew _ b hb) rfl rfl rfl ?_)
    intro hs
    have hrd2 := (hrd.take (j * kk))
    rw [← flatten_take hkr] at hrd2
    have hrd3 := RdC.mono (w := w) (w' := w.drew) (A' := av Γ.M (Chunk.own (some ⟨g, 0, none⟩) cap kk E rows :: cf)) (fun b hb hA => ⟨hA, rfl⟩) hrd2
    have hrd4 := hrd3.mono hs
    clear hrd3
    generalize av Γ.M (_ :: Chunk.own (some ⟨g, 0, none⟩) cap kk E rows :: cf) = A at *
    unfold Chunk.own
    refine ⟨?_, xs.take (j * kk) ++ (madeCells zv.cells (m * zv.cells.size)).toList, ?_, ?_⟩
    · intro r hr
      rcases List.mem_append.1 hr with h | h
      · exact hkr r (List.mem_of_mem_take h)
      · rw [List.eq_of_mem_replicate h]; simp [hS.hk]
    · rw [hlen]
      refine ⟨by rw [← hZt, List.length_take, Array.length_toList, hZs]; exact Nat.min_eq_left (Nat.mul_le_mul_right kk hge), .inr ⟨w.heap.size, cap2, Z, rfl, Nat.zero_le _, heap_alloc_new w.drew _, hge, hle, hZs, hZt⟩⟩
    · rw [List.flatten_append]
      refine hrd4.app ?_
      have e := zeroRow_flat zs m
      rw [e, ← h3]
      exact hrd1 _ _
/-- slices.overlaps of a settled slice of one element and a slice of one's own -/
theorem Ops.overlaps_no {E kk bb zs} [hS : TySl P T E kk bb zs] {f : FuncId} {B : TypeId} {ts : Array TypeId} {g cap o dl dc : Nat} {rows : List (List Tr)} {row : List Tr}
    (hf : ∀ (args : Array Value) (w : World), (callFunc f args).run P w = ((Extern.SlicesOverlaps.overlaps #[T, T] #[B] args).run P w).andThen fun v w' => .ok (.value v) w')
    (hx : ev env x = some (.sl kk [row])) (hy : ev env y = some (.raw (.slice (some ⟨g, o, none⟩) dl dc))) (hp : cs.Perm (Chunk.own (some ⟨g, 0, none⟩) cap kk E rows :: cf)) (hi : Nat.blt i Γ.n = true)
    (kont : Ops P Γ R rest ((i, .bool false) :: env) cs Q) : Ops P Γ R (⟨some i, .call ⟨.value (.func f), #[x, y], ts⟩, ty, pos, af, none⟩ :: rest) env cs Q :=
  Ops.of fun a w d => by
    have hv := rd_raw (d.ev hy)
    have hsl := d.ev hx
    have d' := d.perm hp
    rw [av_perm hp Γ.M] at hsl
    unfold Tr.sl at hsl
    obtain ⟨hk2, hl2, ad2, cap2, hv2, g1, g2, g3, g4⟩ := hsl
    rcases g4 with g4 | ⟨b, off, rfl, hc⟩
    · cases g4
    have hh := d'.has (List.Perm.refl _)
    unfold Cells at hc
    obtain ⟨hA, c, e, fz, hb, hr⟩ := hc
    have hfpE : (Chunk.own (some ⟨g, 0, none⟩) cap kk E rows).fp = [g] := by unfold Chunk.own; rfl
    have hne : b ≠ g := by
      rintro rfl
      refine hA.2 ?_
      unfold fps
      rw [List.flatMap_cons, hfpE]
      simp
    have hcs : 0 < c.size := by
      have := hr.length
      rw [List.flatten_cons, List.flatten_nil, List.append_nil, hk2 row (by simp)] at this
      obtain ⟨_, _, _, _, _, _, _, hk0⟩ := hS.hE
      rw [List.length_take, List.length_drop, Array.length_toList] at this
      omega
    generalize av Γ.M (Chunk.own (some ⟨g, 0, none⟩) cap kk E rows :: cf) = A at hh
    unfold Chunk.own at hh
    obtain ⟨hkr, xs, hown, hrd⟩ := hh
    rcases hown.2 with ⟨e, h0⟩ | ⟨g', c3, cur, e, h1, hg, h2, h3, h4, h5⟩
    · simp at e
    simp only [Value.slice.injEq, Option.some.injEq, Addr.mk.injEq] at e
    obtain ⟨⟨rfl, _⟩, _, rfl⟩ := e
    obtain ⟨ti, zv, i1, i2, i3, i4, _⟩ := hS.hE
    have hz : ∀ w, (Go.sizeOf E).run P w = .ok kk w := fun w => by simp [Go.sizeOf, typeInfo, i1, i4]
    have hnb : (b != g) = true := by simpa using hne
    have hnb' : (b == g) = false := by simpa using hne
    have hfg : ∀ o, w.frozen? ⟨g, o, none⟩ = false := fun o => by simp [World.frozen?, hg]
    have hsa : w.shape? b = some (e, c.size) := by simp [World.shape?, hb]
    have hsb : w.shape? g = some (E, cur.size) := by simp [World.shape?, hg]
    have hrun : (Extern.SlicesOverlaps.overlaps #[T, T] #[B] #[.slice (some ⟨b, off, none⟩) [row].length cap2, .slice (some ⟨g, o, none⟩) dl dc]).run P w = .ok (.bool false) w := by
      obtain ⟨cz, hcz⟩ : ∃ cz, c.size = cz + 1 := ⟨c.size - 1, by omega⟩
      rw [hcz] at hsa
      change Sem.run P (α := Value) (do
        let some t := (#[T, T] : Array TypeId)[0]? | stuck "slices.overlaps: no parameter types"
        let .slice elem ← underlying t | stuck "slices.overlaps: slice type expected"
        let size ← Go.sizeOf elem
        match (some ⟨b, off, none⟩ : Option Addr), (some ⟨g, o, none⟩ : Option Addr) with
        | some a, some b =>
          if [row].length = 0 ∨ dl = 0 ∨ size = 0 then pure (Value.bool false)
          else if a.block != b.block && (← frozen a) && (← frozen b) then unsupported .addressObserved
          else do
            if a.block != b.block then do
              noView a; noView b
              if ← mayBeOne a b then return Value.bool ((← choose (.extern "sameAddr.stringBytes" 2)) == 1)
            pure (Value.bool (a.block == b.block && a.off < b.off + dl * size && b.off < a.off + [row].length * size))
        | _, _ => pure (Value.bool false)) w = _
      have hk0 : kk ≠ 0 := by
        obtain ⟨_, _, _, _, _, _, _, hk0⟩ := hS.hE
        omega
      simp only [List.length_cons, List.length_nil]
      by_cases h0 : dl = 0
      · simp [run_underlying hS.hT, hz, h0]
      · cases hfa : w.frozen? ⟨b, off, none⟩ <;> cases hfe : w.frozen? { block := b, off := cz + 1 } <;> simp [run_underlying hS.hT, hz, h0, hk0, hnb, hnb', frozen, noView, viewAt, mayBeOne, stringish, shape, Sem.run, hsa, hsb, hfg, hfa, hfe]
    have hl1 : [row].length = 1 := rfl
    rw [hl1] at hrun hv2
    exact ⟨_, _, .value (.bool false), w, by simp [execOp, resolve, invoke, Deferred.ofValue, show a.eval (.func f) = .func (.func f) #[] #[] from rfl, hf, hv, hv2, hrun], .inl ⟨_, rfl, Den.put d hi (raw_self _)⟩, kont⟩
/-- an owned slice is lent to a function that writes nothing, and whose result holds nothing of memory -/
theorem PFn.lendO {f : FuncId} {pre suf : List Tr} {t : Tr} {kk E n cap : Nat} {ad : Option Addr} {rows : List (List Tr)} (h : PFn P f (pre ++ .sl kk rows :: suf) (· = t)) (hn : n = rows.length) (ht : ∀ w A w' A' v, t.rd w A v → t.rd w' A' v) :
    Spec P f (pre ++ Tr.raw (.slice ad n cap) :: suf) [Chunk.own ad cap kk E rows] (fun r cs => r = t ∧ cs = [Chunk.own ad cap kk E rows]) := by
  subst hn
  unfold PFn Spec at h
  obtain ⟨h1, h2⟩ := h
  unfold Spec
  refine ⟨h1, fun M w vs hr hch hnd hlt hM => ?_⟩
  have hfp : fps [Chunk.own ad cap kk E rows] = (Value.ownBlock (.slice ad rows.length cap)).toList := by unfold Chunk.own; simp [fps]
  have hs : SameOn w w (av M [Chunk.own ad cap kk E rows]) (av M []) := fun b _ ⟨h1, _⟩ => ⟨⟨h1, by simp [fps]⟩, rfl⟩
  have hown0 := hch _ (List.mem_singleton.2 rfl)
  have hown := hown0
  unfold Chunk.own at hown
  obtain ⟨hk, xs, ho, hrx⟩ := hown
  have hsl : (Tr.sl kk rows).rd w (av M []) (.slice ad rows.length cap) := by
    unfold Tr.sl
    rcases ho.2 with ⟨e1, e2⟩ | ⟨g, cp, cur, hv, hg, hb, q1, q2, q3, q4⟩
    · simp only [Value.slice.injEq] at e1
      obtain ⟨rfl, _, rfl⟩ := e1
      exact ⟨hk, by simp [e2], none, 0, rfl, by omega, by simp, fun _ => ⟨List.eq_nil_of_length_eq_zero e2, rfl⟩, .inl (List.eq_nil_of_length_eq_zero e2)⟩
    · simp only [Value.slice.injEq] at hv
      obtain ⟨rfl, _, rfl⟩ := hv
      have hfr := hlt g (by rw [hfp]; simp [Value.ownBlock])
      refine ⟨hk, by omega, _, cap, rfl, q1, q2, fun h => absurd h (by simp), .inr ⟨g, 0, rfl, ⟨hfr.2, by simp [fps]⟩, cur, E, _, hb, ?_⟩⟩
      rw [List.drop_zero, flat_len hk, q4]
      have hs2 : SameOn w w (av M [Chunk.own (some ⟨g, 0, none⟩) cap kk E rows]) (av M []) := hs
      unfold Chunk.own at hs2
      exact hrx.mono hs2
  have hargs : ∀ (pre : List Tr) (vs : List Value), RdL w (av M [Chunk.own ad cap kk E rows]) (pre ++ Tr.raw (.slice ad rows.length cap) :: suf) vs → RdL w (av M []) (pre ++ .sl kk rows :: suf) vs := by
    intro pre
    induction pre with
    | nil =>
      intro vs hr
      obtain ⟨v, rest, rfl, hv, hr⟩ := hr
      have := rd_raw hv
      subst this
      exact ⟨_, _, rfl, hsl, hr.mono hs⟩
    | cons p pre ih =>
      intro vs hr
      obtain ⟨v, rest, rfl, hv, hr⟩ := hr
      exact ⟨v, rest, rfl, p.mono hs hv, ih rest hr⟩
  refine (h2 M w vs (hargs pre vs hr) (by simp) (by simp [fps]) (by simp [fps]) hM).mono ?_
  rintro e w' ⟨v, r, cs', rfl, ⟨rfl, rfl⟩, hrd, _, _, _, hfm⟩
  have hold : ∀ b, b < w.heap.size → w'.heap[b]? = w.heap[b]? := fun b hb => hfm.block b hb (by simp [fps])
  refine ⟨v, _, _, rfl, ⟨rfl, rfl⟩, ht _ _ _ _ _ hrd, ?_, hnd, ?_, ⟨hfm.os, hfm.tape, hfm.output, hfm.size, fun b hb _ => hold b hb⟩⟩
  · intro c hc
    rw [List.mem_singleton] at hc
    subst hc
    exact Chunk.mono _ (fun b _ hb => hold b hb) (fun b hb hA => ⟨hA, hold b hb⟩) hown0
  · intro b hb
    obtain ⟨q1, q2⟩ := hlt b hb
    exact ⟨Nat.lt_of_lt_of_le q1 hfm.size, q2, .inl hb⟩
theorem raw_free {v0 : Value} : ∀ (w : World) (A : Nat → Prop) (w' : World) (A' : Nat → Prop) (v : Value), (Tr.raw v0).rd w A v → (Tr.raw v0).rd w' A' v := fun _ _ _ _ _ h => by
  have := rd_raw h
  subst this
  exact raw_self _

variable {H : (Nat → Value) → (Nat → Bool) → List Chunk} {L : List Oper} {K : Env → List Chunk → Prop} {n : Nat} {l : List Oper} {Pf : Nat → (Nat → Value) → Prop} {d : Nat} {op : Op} {acc : (Nat → Value) → Env}
/-- a call that takes an owned slice and hands out another one -/
theorem YSeq.callM {f : FuncId} {ol : List Operand} {ts : Array TypeId} {kk E : Nat} (m : Nat)
    (h : ∀ (ξ : Nat → Value) (S : Nat → Bool), S n = false → (∀ j ∈ preds af, S j = true) → Clo L S → (∀ k, S k = true → Pf k ξ) →
      ∃ (args : List Tr) (c : Chunk) (rows' : List (List Tr)) (cx cf : List Chunk), Spec P f args [c] (fun r cs => ∃ ad' cap', r = Tr.raw (.slice ad' m cap') ∧ cs = Chunk.own ad' cap' kk E rows' :: cx) ∧ Evs (rst (slotsOf (.call ⟨.value (.func f), ol.toArray, ts⟩)) (acc ξ)) ol args ∧ (H ξ S).Perm (c :: cf) ∧ ∀ ad cap, (H (upd ξ n (.slice ad m cap)) (updD S n)).Perm (Chunk.own ad cap kk E rows' :: (cx ++ cf)))
    (k : YSeq P Γ H L K (n + 1) (fun ξ => (d, Tr.raw (.slice (vAd (ξ n)) m (vCap (ξ n)))) :: acc ξ) (pfY n (fun _ => True) Pf) l) : YSeq P Γ H L K n acc Pf (⟨some d, .call ⟨.value (.func f), ol.toArray, ts⟩, ty, pos, af, none⟩ :: l) := by
  refine YSeq.call PvOkY.triv (TOk.own (T := fun v => Tr.raw (.slice (vAd v) m (vCap v)))) ?_ k
  intro ξ S h1 h2 h3 h4
  obtain ⟨args, c, rows', cx, cf, hs, ha, hp, hq⟩ := h ξ S h1 h2 h3 h4
  refine ⟨args, [c], cf, _, hs, ha, hp, ?_⟩
  rintro r cs' ⟨ad, cap, rfl, rfl⟩ w A v hr
  have hv := rd_raw hr
  subst hv
  refine ⟨?_, trivial, hq ad cap⟩
  simp only [upd_same, vAd, vCap]
  exact raw_self _
/-- a drawn region whose first m operations compute, and whose others wait for all before them -/
theorem Cw.region_seqM {id : Nat} {l : List Oper} {env : Env} (m : Nat) (hm : P.follows .mixedOrders = true) (hb : (backOk l && (nodupB (dsts (l.take m)) && (ssaFrom l 0 (l.take m) && (tailOk l m && Nat.ble m l.length)))) = true) (hlt : (dsts (l.take m)).all (Nat.blt · Γ.n) = true)
    (h : PSeq P Γ cs (fun acc => Ops P Γ l.toArray (l.drop m) acc cs Q) 0 [] env (l.take m)) : Cw P Γ (.region id l.toArray true) env cs Q := by
  simp only [Bool.and_eq_true] at hb
  exact Cw.region_at (Nat.le_of_ble_eq_true hb.2.2.2.2) hm hb.1 hb.2.1 hlt hb.2.2.2.1 (PSeq.run hb.1 hb.2.1 hb.2.2.1 Seq.start (fun j => by rw [Nat.zero_add]) h)
/-- a variable of its own is made of a value -/
theorem YSeq.box {T : TypeId} {x : Operand}
    (h : ∀ (ξ : Nat → Value) (S : Nat → Bool), S n = false → (∀ j ∈ preds af, S j = true) → Clo L S → (∀ k, S k = true → Pf k ξ) →
      ∃ (us : List Tr) (t : Tr), ev (rst (slotsOf (.box T x)) (acc ξ)) x = some t ∧ RowT t us ∧ ∀ b, (H (upd ξ n (.pointer (some ⟨b, 0, none⟩))) (updD S n)).Perm (Chunk.box b T us :: H ξ S))
    (k : YSeq P Γ H L K (n + 1) (fun ξ => (d, Tr.raw (.pointer (some ⟨blk (ξ n), 0, none⟩))) :: acc ξ) (pfY n (fun _ => True) Pf) l) : YSeq P Γ H L K n acc Pf (⟨some d, .box T x, ty, pos, af, none⟩ :: l) := by
  refine YSeq.cons PvOkY.triv (TOk.own (T := fun v => Tr.raw (.pointer (some ⟨blk v, 0, none⟩)))) ?_ k
  unfold YStep
  intro ξ S h1 h2 h3 h4 a w dd next F hk
  obtain ⟨us, t, hx, hr, hp⟩ := h ξ S h1 h2 h3 h4
  have hrun : (execOp a.eval ⟨some d, .box T x, ty, pos, af, none⟩).run P w = .ok (.value (.pointer (some ⟨w.heap.size, 0, none⟩))) (w.alloc (.cells (a.eval x).cells T)) := by
    simp [execOp, Instr.box, newVar, newRow] <;> rfl
  unfold Oper.wp
  rw [hrun]
  refine hk _ _ trivial ?_ fun env2 d2 => ?_
  · simp only [upd_same, blk]
    exact raw_self _
  have hd := d2.newblock (a.eval x).cells T (ts := us) (hr.h _ _ _ (dd.ev hx))
  exact hd.perm (hp _).symm
/-- a slice of one's own, and nil -/
theorem Ops.eql_nilR {E kk bb z} [hS : TySl P T E kk bb z] {ad : Option Addr} {m cap : Nat} {i : Tmp} (hx : ev env x = some (.raw (.slice ad m cap))) (hi : Nat.blt i Γ.n = true)
    (kont : Ops P Γ R rest ((i, .bool ad.isNone) :: env) cs Q) : Ops P Γ R (⟨some i, .binOp .eql T x (.const (.slice none 0 0)) T2, ty, pos, af, none⟩ :: rest) env cs Q :=
  Ops.of fun a w d => by
    have hv := rd_raw (d.ev hx)
    have he : ∀ m', (Op.equalIn (m' + 1) T (.slice ad m cap) (.slice none 0 0)).run P w = .ok ad.isNone w := by
      intro m'
      cases ad with
      | none => simp [Op.equalIn, run_underlying hS.hT]
      | some _ => simp [Op.equalIn, run_underlying hS.hT]
    have hc : a.eval (.const (.slice none 0 0)) = .slice none 0 0 := rfl
    refine ⟨_, _, .value (.bool ad.isNone), w, ?_, .inl ⟨_, rfl, Den.put d hi (raw_self _)⟩, kont⟩
    simp [execOp, hv, hc, eqGuard, binOp, Op.equal]
    rw [show Op.maxDepth = 9999 + 1 from rfl, he]
    rfl
theorem Cw.own_none {c : Code} {cap kk E : Nat} {rows : List (List Tr)} (hp : cs.Perm (Chunk.own none cap kk E rows :: cf)) (h : rows = [] → cap = 0 → Cw P Γ c env cs Q) : Cw P Γ c env cs Q := by
  unfold Cw at h ⊢
  intro a w d
  have hh := (d.perm hp).has (List.Perm.refl _)
  generalize av Γ.M (Chunk.own none cap kk E rows :: cf) = A at hh
  unfold Chunk.own at hh
  obtain ⟨_, xs, hown, _⟩ := hh
  rcases hown.2 with ⟨e, h0⟩ | ⟨g, c2, cur, e, _⟩
  · simp only [Value.slice.injEq] at e
    exact h (List.eq_nil_of_length_eq_zero h0) e.2.2 a w d
  · simp at e
/-- a call that hands out a variable -/
theorem YSeq.callP {f : FuncId} {ol : List Operand} {ts : Array TypeId} (C : Nat → Chunk)
    (h : ∀ (ξ : Nat → Value) (S : Nat → Bool), S n = false → (∀ j ∈ preds af, S j = true) → Clo L S → (∀ k, S k = true → Pf k ξ) →
      ∃ (args : List Tr), Spec P f args [] (fun r cs => ∃ b, r = Tr.raw (.pointer (some ⟨b, 0, none⟩)) ∧ cs = [C b]) ∧ Evs (rst (slotsOf (.call ⟨.value (.func f), ol.toArray, ts⟩)) (acc ξ)) ol args ∧ ∀ b, (H (upd ξ n (.pointer (some ⟨b, 0, none⟩))) (updD S n)).Perm (C b :: H ξ S))
    (k : YSeq P Γ H L K (n + 1) (fun ξ => (d, Tr.raw (.pointer (some ⟨blk (ξ n), 0, none⟩))) :: acc ξ) (pfY n (fun _ => True) Pf) l) : YSeq P Γ H L K n acc Pf (⟨some d, .call ⟨.value (.func f), ol.toArray, ts⟩, ty, pos, af, none⟩ :: l) := by
  refine YSeq.call PvOkY.triv (TOk.own (T := fun v => Tr.raw (.pointer (some ⟨blk v, 0, none⟩)))) ?_ k
  intro ξ S h1 h2 h3 h4
  obtain ⟨args, hs, ha, hp⟩ := h ξ S h1 h2 h3 h4
  refine ⟨args, [], H ξ S, _, hs, ha, List.Perm.refl _, ?_⟩
  rintro r cs' ⟨b, rfl, rfl⟩ w A v hr
  have hv := rd_raw hr
  subst hv
  refine ⟨?_, trivial, hp b⟩
  simp only [upd_same, blk]
  exact raw_self _
end ins
end Lg
end
section
set_option linter.all false
namespace Lg
open Go
section appo
variable {P : Program} {Γ : Ctx} {env env' : Env} {cs cs' cf : List Chunk} {Q : Post} {R : Array Oper}
variable {i : Tmp} {ty : TypeId} {pos : String} {af : Array Edge} {rest : List Oper} {x y : Operand} {T T2 : TypeId}
/-- an owned slice is put behind another one, and stays -/
theorem Ops.append_ownR {E kk bb z} [hS : TySl P T E kk bb z] {ad ad2 : Option Addr} {n cap n2 cap2 : Nat} {rows rows2 : List (List Tr)} (hx : ev env x = some (.raw (.slice ad n cap))) (hy : ev env y = some (.raw (.slice ad2 n2 cap2)))
    (hp : cs.Perm (Chunk.own ad cap kk E rows :: Chunk.own ad2 cap2 kk E rows2 :: cf)) (hn : n = rows.length) (hn2 : n2 = rows2.length) (hb : (rows.length + rows2.length) * bb ≤ 140737488355328) (hm : rows.length + rows2.length ≤ 9223372036854775807) (hi : Nat.blt i Γ.n = true)
    (kont : ∀ ad' cap', Ops P Γ R rest ((i, .raw (.slice ad' (rows ++ rows2).length cap')) :: env) (Chunk.own ad' cap' kk E (rows ++ rows2) :: Chunk.own ad2 cap2 kk E rows2 :: cf) Q) :
    Ops P Γ R (⟨some i, .call ⟨.builtin .append, #[x, y], #[T, T]⟩, ty, pos, af, none⟩ :: rest) env cs Q :=
  Ops.of fun a w d => by
    subst hn
    subst hn2
    have hv := rd_raw (d.ev hx)
    have hv2 := rd_raw (d.ev hy)
    have d' := d.perm hp
    have hh := d'.has (List.Perm.refl _)
    have hh2 := d'.has (List.Perm.swap _ _ _)
    generalize hA : av Γ.M (Chunk.own ad cap kk E rows :: Chunk.own ad2 cap2 kk E rows2 :: cf) = A at hh hh2
    unfold Chunk.own at hh hh2
    obtain ⟨hk, xs, hown, hrd⟩ := hh
    obtain ⟨hk2, xs2, hown2, hrd2⟩ := hh2
    subst hA
    obtain ⟨ti, zv, hi1, hi2, hi3, hi4, hi5, hi6⟩ := hS.hE
    have hzs : zv.cells.size = kk := hS.hz _ _ hi1 hi2
    have hm' : rows.length + rows2.length ≤ maxLen := by simp only [maxLen]; omega
    have key : ∃ v' w', (Builtin.append_ #[T, T] ty #[.slice ad rows.length cap, .slice ad2 rows2.length cap2]).run P w = .ok v' w' ∧
        w'.ownsRow 0 E kk v' (rows.length + rows2.length) (xs ++ xs2) ∧ w.grownBy w' (Value.ownBlock (.slice ad rows.length cap)) ∧ (∀ b, v'.ownBlock = some b → (Value.ownBlock (.slice ad rows.length cap)) = some b ∨ w.heap.size ≤ b) := by
      rcases hown2.2 with ⟨e, h0⟩ | ⟨g, c, cur, e, _⟩
      · simp only [Value.slice.injEq] at e
        obtain ⟨rfl, e2, rfl⟩ := e
        have hxs : xs2 = [] := by
          have := hrd2.length
          rw [flat_len hk2, h0] at this
          exact List.eq_nil_of_length_eq_zero (by omega)
        subst hxs
        rw [h0]
        exact ⟨_, w, run_append_owned_none (P := P) w 0 T ty E ti kk hS.hT hi1 _ _ xs hown, by simpa using hown, ⟨rfl, rfl, rfl, Nat.le_refl _, fun _ _ _ => rfl⟩, fun b hb => .inl hb⟩
      · simp only [Value.slice.injEq] at e
        obtain ⟨rfl, _, rfl⟩ := e
        exact append_run (P := P) (ty := ty) (a := ⟨g, 0, none⟩) (m := rows2.length) (c := cap2) (news := xs2) hS.hT hi1 hi2 hi4 hi5 hzs hi6 hown (by rw [hrd2.length]; exact flat_len hk2) (hown2.cells (g := g) rfl) hrd2.one hm' hb
    obtain ⟨v', w', hrun, hown', hgr, hfresh⟩ := key
    have hform : ∃ ad' cap', v' = .slice ad' (rows ++ rows2).length cap' := by
      rcases hown'.2 with ⟨e, h0⟩ | ⟨g, c, cur, e, _⟩
      · exact ⟨none, 0, by rw [e, List.length_append, h0]⟩
      · exact ⟨_, c, by rw [e, List.length_append]⟩
    obtain ⟨ad', cap', rfl⟩ := hform
    refine ⟨_, _, .value _, w', by simp [execOp, resolve, invoke, builtin, hv, hv2, hrun] <;> rfl, .inl ⟨_, rfl, Den.put ?_ hi (raw_self _)⟩, kont ad' cap'⟩
    refine d'.turnF (c' := Chunk.own ad' cap' kk E (rows ++ rows2)) ?_ ?_ ?_ ?_
    · intro b hb
      have hb' : Value.ownBlock (.slice ad' (rows ++ rows2).length cap') = some b := by unfold Chunk.own at hb; simpa using hb
      rcases hfresh b hb' with h | h
      · exact .inl (by unfold Chunk.own; simpa using h)
      · exact .inr ⟨h, (hown'.lt b hb').2⟩
    · have : (Chunk.own ad' cap' kk E (rows ++ rows2)).fp = (Value.ownBlock (.slice ad' (rows ++ rows2).length cap')).toList := by unfold Chunk.own; rfl
      rw [this]
      cases Value.ownBlock (.slice ad' (rows ++ rows2).length cap') <;> simp
    · exact ⟨hgr.os, hgr.tape, hgr.output, hgr.size, fun b hb hn => hgr.block b hb fun e => hn (by unfold Chunk.own; simp [← e])⟩
    · intro hs _
      generalize av Γ.M (Chunk.own ad' cap' kk E (rows ++ rows2) :: Chunk.own ad2 cap2 kk E rows2 :: cf) = A' at hs ⊢
      unfold Chunk.own
      refine ⟨?_, _, by simpa using hown', ?_⟩
      · intro r hr
        rcases List.mem_append.1 hr with h | h
        · exact hk r h
        · exact hk2 r h
      · rw [List.flatten_append]
        exact (hrd.mono hs).app (hrd2.mono hs)
end appo
end Lg
end
