/- A part of the proof of a law of this seat: it adds no condition. By an AI agent. -/
import Derived.Test.YtlaemkjeagpbnaaDoorLgCat
section
set_option linter.all false
namespace Lg
open Go

section x3
variable {P : Program} {Γ : Ctx} {env env' : Env} {cs cs' cf : List Chunk}

/-- what an owned slice holds is told in less -/
theorem Ent.imp_own {ad : Option Addr} {cap kk : Nat} {e : TypeId} {rows rows' : List (List Tr)} (hp : cs.Perm (Chunk.own ad cap kk e rows :: cf)) (hl : rows'.length = rows.length)
    (hk : (∀ r ∈ rows, r.length = kk) → ∀ r ∈ rows', r.length = kk) (hi : ImpL rows.flatten rows'.flatten) : Ent Γ env cs env (Chunk.own ad cap kk e rows' :: cf) := by
  unfold Ent
  intro a w d
  have d := d.perm hp
  refine d.swapc (by simp only [fps, List.flatMap_cons]; unfold Chunk.own; simp only [hl]) ?_
  intro c hc
  rcases List.mem_cons.1 hc with rfl | hc
  · have hb := d.chunks (Chunk.own ad cap kk e rows) (by simp)
    generalize av Γ.M (Chunk.own ad cap kk e rows :: cf) = A at *
    unfold Chunk.own at hb ⊢
    obtain ⟨h0, xs, h1, h2⟩ := hb
    exact ⟨hk h0, xs, by rw [hl]; exact h1, hi.rd h2⟩
  · exact d.chunks c (List.mem_cons_of_mem _ hc)

theorem impL_repI : ∀ xs : List Int, ImpL (intRows xs).flatten (repI xs.length).flatten
  | [] => .nil
  | x :: xs => by
    have h := impL_repI xs
    have e1 : (intRows (x :: xs)).flatten = Tr.int x :: (intRows xs).flatten := by simp [intRows]
    have e2 : (repI (x :: xs).length).flatten = Tr.intS (fun _ => True) :: (repI xs.length).flatten := by simp [repI, List.replicate_succ]
    rw [e1, e2]
    exact .cons (Imp.intS trivial) h
theorem impL_refl : ∀ ts : List Tr, ImpL ts ts
  | [] => .nil
  | _ :: ts => .cons Imp.refl (impL_refl ts)
theorem impL_repI_set (v : Int) : ∀ (n j : Nat), ImpL ((repI n).set j [Tr.int v]).flatten (repI n).flatten
  | 0, j => by simpa [repI] using ImpL.nil
  | n + 1, 0 => by
    have e2 : repI (n + 1) = [Tr.intS (fun _ => True)] :: repI n := by simp [repI, List.replicate_succ]
    rw [e2]
    exact .cons (Imp.intS trivial) (impL_refl _)
  | n + 1, j + 1 => by
    have e2 : repI (n + 1) = [Tr.intS (fun _ => True)] :: repI n := by simp [repI, List.replicate_succ]
    rw [e2]
    exact .cons Imp.refl (impL_repI_set v n j)
theorem repI_k {n : Nat} : ∀ r ∈ repI n, r.length = 1 := by
  intro r hr
  rw [(List.mem_replicate.1 hr).2]
  rfl
theorem repI_get {n j : Nat} (h : j < n) : (repI n)[j]? = some [Tr.intS fun _ => True] := by
  unfold repI
  simp [h]
theorem Ent.own_repI {ad : Option Addr} {cap : Nat} {e : TypeId} {xs : List Int} (hp : cs.Perm (Chunk.own ad cap 1 e (intRows xs) :: cf)) : Ent Γ env cs env (Chunk.own ad cap 1 e (repI xs.length) :: cf) :=
  Ent.imp_own hp (by rw [repI_len, intRows_len]) (fun _ => repI_k) (impL_repI xs)
theorem Ent.own_repI_set {ad : Option Addr} {cap n j : Nat} {v : Int} {e : TypeId} (hp : cs.Perm (Chunk.own ad cap 1 e ((repI n).set j [Tr.int v]) :: cf)) : Ent Γ env cs env (Chunk.own ad cap 1 e (repI n) :: cf) :=
  Ent.imp_own hp (by rw [List.length_set]) (fun _ => repI_k) (impL_repI_set v n j)

/-- a tree that is a list of numbers -/
def OpnI (m : Nat) (t : Tr) : Prop := ∀ w A v, t.rd w A v → ∃ xs : List Int, xs.length ≤ m ∧ (Tr.ints xs).rd w A v
theorem opnI_rep {m n : Nat} (h : n ≤ m) : OpnI m (Tr.sl 1 (repI n)) := fun w A v hr => by
  obtain ⟨xs, h1, h2⟩ := open_repI w A v hr
  exact ⟨xs, by omega, h2⟩
theorem opnI_ints {m : Nat} {xs : List Int} (h : xs.length ≤ m) : OpnI m (Tr.ints xs) := fun w A v hr => ⟨xs, h, hr⟩
theorem opnI_nil {m : Nat} : OpnI m (Tr.raw (.slice none 0 0)) := fun w A v hr => ⟨[], by simp, by
  have := Imp.nil (k := 1) w A v hr
  exact this⟩
def rowsT (ts : List Tr) : List (List Tr) := ts.map fun t => [t]
def rowsI (L : List (List Int)) : List (List Tr) := L.map fun l => [Tr.ints l]
theorem rdc_rowsT {m : Nat} {w : World} {A : Nat → Prop} : ∀ {ts : List Tr} {vs : List Value}, (∀ t ∈ ts, OpnI m t) → RdC w A (rowsT ts).flatten vs → ∃ L : List (List Int), L.length = ts.length ∧ (∀ l ∈ L, l.length ≤ m) ∧ RdC w A (rowsI L).flatten vs
  | [], vs, _, h => ⟨[], rfl, by simp, by simpa [rowsT, rowsI] using h⟩
  | t :: ts, vs, ht, h => by
    have h : RdC w A (t :: (rowsT ts).flatten) vs := by simpa [rowsT] using h
    obtain ⟨v, rest, rfl, h1, h2, h3⟩ := h
    obtain ⟨xs, hx, h4⟩ := ht t (List.mem_cons_self ..) w A v h1
    obtain ⟨L, hl, hm, h5⟩ := rdc_rowsT (fun t h => ht t (List.mem_cons_of_mem _ h)) h3
    refine ⟨xs :: L, by simp [hl], ?_, ?_⟩
    · intro l hl
      rcases List.mem_cons.1 hl with rfl | h
      · exact hx
      · exact hm l h
    · have e : (rowsI (xs :: L)).flatten = Tr.ints xs :: (rowsI L).flatten := by simp [rowsI]
      rw [e]
      exact ⟨v, rest, rfl, h4, h2, h5⟩
theorem rowsT_len (ts : List Tr) : (rowsT ts).length = ts.length := by simp [rowsT]
theorem rowsI_len (L : List (List Int)) : (rowsI L).length = L.length := by simp [rowsI]
theorem rowsI_k {L : List (List Int)} : ∀ r ∈ rowsI L, r.length = 1 := by
  intro r hr
  obtain ⟨l, _, rfl⟩ := List.mem_map.1 hr
  rfl
theorem rowsT_k {L : List Tr} : ∀ r ∈ rowsT L, r.length = 1 := by
  intro r hr
  obtain ⟨l, _, rfl⟩ := List.mem_map.1 hr
  rfl
theorem open_rowsT {m : Nat} {ts : List Tr} (ht : ∀ t ∈ ts, OpnI m t) : ∀ w A v, (Tr.sl 1 (rowsT ts)).rd w A v → ∃ L : List (List Int), (L.length = ts.length ∧ ∀ l ∈ L, l.length ≤ m) ∧ (Tr.sl 1 (rowsI L)).rd w A v := by
  intro w A v h
  unfold Tr.sl at h
  obtain ⟨hk, hl, a, cap, hv, h1, h2, h3, h4⟩ := h
  rw [rowsT_len] at hl hv h1
  rcases h4 with h4 | ⟨b, off, ha, hA, c, e, fz, hb, hr⟩
  · have hn : ts = [] := by cases ts with
      | nil => rfl
      | cons t ts => simp [rowsT] at h4
    subst hn
    refine ⟨[], ⟨rfl, by simp⟩, ?_⟩
    unfold Tr.sl
    exact ⟨by simp [rowsI], by simp [rowsI], a, cap, by rw [hv]; simp [rowsI], by simp [rowsI], h2, fun h => ⟨rfl, (h3 h).2⟩, .inl rfl⟩
  · have hlen : (rowsT ts).flatten.length = ts.length := by rw [flat_len (kk := 1) rowsT_k, rowsT_len]; omega
    rw [hlen] at hr
    obtain ⟨L, hL, hm, h5⟩ := rdc_rowsT ht hr
    have hfl : (rowsI L).flatten.length = ts.length := by rw [flat_len (kk := 1) rowsI_k, rowsI_len, hL]; omega
    refine ⟨L, ⟨hL, hm⟩, ?_⟩
    unfold Tr.sl
    refine ⟨rowsI_k, by rw [rowsI_len, hL]; exact hl, a, cap, by rw [rowsI_len, hL]; exact hv, by rw [rowsI_len, hL]; exact h1, h2, ?_, .inr ⟨b, off, ha, hA, c, e, fz, hb, by rw [hfl]; exact h5⟩⟩
    intro h
    rw [ha] at h
    cases h
theorem rdc_one_rowsT {m : Nat} {ts : List Tr} (ht : ∀ t ∈ ts, OpnI m t) : ∀ w A vs, RdC w A [Tr.sl 1 (rowsT ts)] vs → ∃ L : List (List Int), (L.length = ts.length ∧ ∀ l ∈ L, l.length ≤ m) ∧ RdC w A [Tr.sl 1 (rowsI L)] vs :=
  fun w A vs h => rdc_open h (open_rowsT ht)

section x3b
variable {env : Env} {H : (Nat → Value) → (Nat → Bool) → List Chunk} {L : List Oper} {K : Env → List Chunk → Prop} {n : Nat} {l : List Oper}
variable {Pf : Nat → (Nat → Value) → Prop} {d : Nat} {op : Op} {ty : TypeId} {pos : String} {af : Array Edge} {acc : (Nat → Value) → Env}
/-- a store into an owned slice of which it is only known that it is one of some -/
theorem XSeq.storeE {T : TypeId} {x y : Operand} [hT : TyOne P T]
    (h : ∀ (ξ : Nat → Value) (S : Nat → Bool), S n = false → (∀ j ∈ preds af, S j = true) → (∀ k ok, L[k]? = some ok → S k = true → ∀ j ∈ preds ok.after, S j = true) → (∀ k, S k = true → Pf k ξ) →
      ∃ (u t : Tr), ev (rst (slotsOf (.store T x y)) (acc ξ)) x = some u ∧ ev (rst (slotsOf (.store T x y)) (acc ξ)) y = some t ∧ OneT t ∧ ∀ w A v, u.rd w A v → ∃ (ad : Option Addr) (cap kk m j : Nat) (e : TypeId) (rows : List (List Tr)) (r : List Tr) (cf : List Chunk),
        (Tr.eptr ad kk m j).rd w A v ∧ (∀ env2, Ent Γ env2 (H ξ S) env2 (Chunk.own ad cap kk e rows :: cf)) ∧ rows[m]? = some r ∧ j < kk ∧ (∀ env2, Ent Γ env2 (Chunk.own ad cap kk e (rows.set m (r.set j t)) :: cf) env2 (H (upd ξ n undef) (updD S n))))
    (k : XSeq P Γ H L K (n + 1) acc (pfX n (fun _ => True) Pf) l) : XSeq P Γ H L K n acc Pf (⟨none, .store T x y, ty, pos, af, none⟩ :: l) := by
  refine XSeq.cons (T := fun _ => Tr.any) (Pv := fun _ => True) PvOk.triv ?_ k
  unfold XStep
  intro ξ S h1 h2 h3 h4 a w dd next F hk
  obtain ⟨u, t, hx, hy, ho, hh⟩ := h ξ S h1 h2 h3 h4
  obtain ⟨ad, cap, kk, m, j, e, rows, r, cf, hptr, hE, hr, hj, hE2⟩ := hh w _ _ (dd.ev hx)
  unfold Tr.eptr at hptr
  obtain ⟨g, ha, hv⟩ := hptr
  have toD : ∀ env2, Den Γ env2 (H ξ S) a w → Den Γ env2 (Chunk.own ad cap kk e rows :: cf) a w := fun env2 d2 => by
    have := hE env2
    unfold Ent at this
    exact this a w d2
  have d1 := toD _ dd
  have hrow : RdC w (av Γ.M (Chunk.own ad cap kk e rows :: cf)) [t] (a.eval y).cells.toList := (inferInstance : RowT t [t]).h _ _ _ (d1.ev hy)
  have hlr : r.length = kk := by
    have := d1.has (List.Perm.refl _)
    generalize av Γ.M (Chunk.own ad cap kk e rows :: cf) = A at this
    unfold Chunk.own at this
    obtain ⟨hk0, _⟩ := this
    exact hk0 r (List.mem_of_getElem? hr)
  have hset : r.take j ++ [t] ++ r.drop (j + 1) = r.set j t := by rw [List.set_eq_take_append_cons_drop, if_pos (by omega)]; simp
  have step : ∀ env2, Den Γ env2 (Chunk.own ad cap kk e rows :: cf) a w → ∃ w', (Instr.storeAt T (.pointer (some ⟨g, m * kk + j, none⟩)) (a.eval y)).run P w = .ok () w' ∧ Den Γ env2 (Chunk.own ad cap kk e (rows.set m (r.set j t)) :: cf) a w' := by
    intro env2 d2
    rw [← hset]
    exact own_store (P := P) d2 ha hr (r' := r.take j ++ [t] ++ r.drop (j + 1)) (vs := (a.eval y).cells.toList) (m := 1) (j := j) (by rw [hrow.length]; rfl) (by omega)
      (fun A w' hs xs hx => (((hx.take j).mono hs).app (hrow.mono hs)).app ((hx.drop (j + 1)).mono hs)) (by simp [hlr]; omega) T (a.eval y) hT.size rfl hrow.one
  obtain ⟨w', hrun, hd⟩ := step _ d1
  have hx2 : (execOp a.eval ⟨none, .store T x y, ty, pos, af, none⟩).run P w = .ok .skip w' := by simp [execOp, hv, hrun] <;> rfl
  unfold Oper.wp
  rw [hx2]
  refine hk _ _ trivial tr_any_self fun env2 d2 => ?_
  obtain ⟨w2, hrun2, hd2⟩ := step env2 (toD env2 d2)
  rw [hrun] at hrun2
  cases hrun2
  have := hE2 env2
  unfold Ent at this
  exact this a w' hd2
end x3b
end x3
end Lg
end
section
set_option linter.all false
namespace Lg
open Go
section x4
variable {P : Program} {Γ : Ctx} {env : Env} {cs cf : List Chunk} {H : (Nat → Value) → (Nat → Bool) → List Chunk} {L : List Oper} {K : Env → List Chunk → Prop} {n : Nat} {l : List Oper}
variable {Pf : Nat → (Nat → Value) → Prop} {d : Nat} {op : Op} {ty : TypeId} {pos : String} {af : Array Edge} {acc : (Nat → Value) → Env} {t t' : Tr}

/-- a call that hands out a slice, in a drawn region -/
theorem XSeq.callO {f : FuncId} {args : List Tr} {ol : List Operand} {ts : Array TypeId} {kk E : Nat} {rows : List (List Tr)} (hs : PFnO P f args kk E (· = rows))
    (ha : ∀ ξ, Evs (rst (slotsOf (.call ⟨.value (.func f), ol.toArray, ts⟩)) (acc ξ)) ol args)
    (hH : ∀ (ξ : Nat → Value) (S : Nat → Bool), S n = false → (∀ k ok, L[k]? = some ok → S k = true → ∀ j ∈ preds ok.after, S j = true) → ∀ ad cap, (H (upd ξ n (.slice ad rows.length cap)) (updD S n)).Perm (Chunk.own ad cap kk E rows :: H ξ S))
    (k : XSeq P Γ H L K (n + 1) (fun ξ => (d, Tr.raw (ξ n)) :: acc ξ) (pfX n (fun ξ => ∃ ad cap, ξ n = .slice ad rows.length cap) Pf) l) : XSeq P Γ H L K n acc Pf (⟨some d, .call ⟨.value (.func f), ol.toArray, ts⟩, ty, pos, af, none⟩ :: l) := by
  refine XSeq.cons (T := Tr.raw) (Pv := fun ξ => ∃ ad cap, ξ n = .slice ad rows.length cap) (PvOk.own (p := fun v => ∃ ad cap, v = .slice ad rows.length cap)) ?_ k
  unfold XStep
  intro ξ S h1 h2 h3 h4 a w dd next F hk
  unfold PFnO at hs
  have hcc := call_core2 (cf := H ξ S) hs dd (List.Perm.refl _) ((ha ξ).rd dd)
  have hrun : (execOp a.eval ⟨some d, .call ⟨.value (.func f), ol.toArray, ts⟩, ty, pos, af, none⟩).run P w = .ok (.enter f (ol.map a.eval).toArray) w := by
    unfold Spec at hs
    have := hs.1 (ol.map a.eval).toArray w
    simp [execOp, resolve, invoke, Deferred.ofValue, Act.eval, this]
  unfold Oper.wp
  rw [hrun]
  refine hcc.mono ?_
  rintro e w' ⟨v, r, cs', rfl, ⟨ad, cap, rows', rfl, rfl, rfl⟩, hrd, hd⟩
  have hv := rd_raw hrd
  subst hv
  have hq := (hH ξ S h1 h3 ad cap).symm
  exact hk _ _ ⟨ad, cap, upd_same _ _ _⟩ (raw_self _) fun env2 h2 => (hd env2 h2).perm hq
end x4
end Lg
end
section
set_option linter.all false
namespace Lg
open Go

/-- what stands before an operation, and after it -/
def stg {α : Type} (s : Bool) (a b : α) : α := match s with
  | false => a
  | true => b
theorem stg_t {α : Type} {a b : α} : stg true a b = b := rfl
theorem stg_f {α : Type} {a b : α} : stg false a b = a := rfl
def vAd : Value → Option Addr
  | .slice a _ _ => a
  | _ => none
def vCap : Value → Nat
  | .slice _ _ c => c
  | _ => 0
theorem vAd_s {a : Option Addr} {n c : Nat} : vAd (.slice a n c) = a := rfl
theorem vCap_s {a : Option Addr} {n c : Nat} : vCap (.slice a n c) = c := rfl
theorem blk_p {b o : Nat} {k : Option Nat} : blk (.pointer (some ⟨b, o, none⟩)) = b := rfl
/-- an owned slice that an operation makes -/
abbrev ownV (v : Value) (k : Nat) (E : TypeId) (rows : List (List Tr)) : Chunk := Chunk.own (vAd v) (vCap v) k E rows
theorem pickA {c : Chunk} {L l cf : List Chunk} (h : l.Perm (c :: cf)) : (L ++ l).Perm (c :: (L ++ cf)) := (List.Perm.append_left L h).trans List.perm_middle
theorem pickL0 {L l : List Chunk} : (L ++ l).Perm (L ++ l) := List.Perm.refl _
theorem pickLS {c : Chunk} {L l cf : List Chunk} (h : l.Perm (L ++ cf)) : (c :: l).Perm (L ++ c :: cf) := (List.Perm.cons c h).trans List.perm_middle.symm
theorem pickLA {L M l cf : List Chunk} (h : l.Perm (L ++ cf)) : (M ++ l).Perm (L ++ (M ++ cf)) := by
  refine (List.Perm.append_left M h).trans ?_
  rw [← List.append_assoc, ← List.append_assoc]
  exact List.Perm.append_right _ List.perm_append_comm
theorem Perm.app' {cs cf L l : List Chunk} (h : cs.Perm (L ++ cf)) (r : cf.Perm l) : cs.Perm (L ++ l) := h.trans (List.Perm.append_left L r)
theorem b2n_t : b2n true = 1 := rfl
theorem b2n_f : b2n false = 0 := rfl
theorem pickStrm {st b a c : Nat} {rows : List (List Tr)} {l : List Chunk} (h : a = c) : (Chunk.strm st b rows a :: l).Perm (Chunk.strm st b rows c :: l) := by rw [h]
section x5
variable {P : Program} {Γ : Ctx} {env : Env} {cs cf : List Chunk} {H : (Nat → Value) → (Nat → Bool) → List Chunk} {L : List Oper} {K : Env → List Chunk → Prop} {n : Nat} {l : List Oper} {Q : Post}
variable {Pf : Nat → (Nat → Value) → Prop} {d : Nat} {op : Op} {ty : TypeId} {pos : String} {af : Array Edge} {acc : (Nat → Value) → Env} {t t' : Tr}
theorem Ent.eqc {env' : Env} {cs' : List Chunk} (h1 : env = env') (h2 : cs = cs') : Ent Γ env cs env' cs' := by
  subst h1
  subst h2
  exact Ent.perm (List.Perm.refl _)
theorem Cw.region_XP {id : Nat} {l : List Oper} (H : (Nat → Value) → (Nat → Bool) → List Chunk) (hm : P.follows .mixedOrders = true) (hb : (backOk l && (nodupB (dsts l) && (ssaFrom l 0 l && noGuards l))) = true) (hlt : (dsts l).all (Nat.blt · Γ.n) = true)
    (cs' : List Chunk) (hp : cs.Perm cs') (hs : ∀ ξ, H ξ (fun j => Nat.ble l.length j) = cs') (h : XSeq P Γ H l (fun acc cs => ∃ env' cs', Ent Γ acc cs env' cs' ∧ Q .normal env' cs') 0 (fun _ => env) (fun _ _ => True) l) : Cw P Γ (.region id l.toArray true) env cs Q :=
  Cw.ent (Ent.perm hp) (Cw.region_X H hm hb hlt hs h)
/-- a store of one cell into an owned slice, in a drawn region -/
theorem XSeq.storeO {T : TypeId} {x y : Operand} [hT : TyOne P T]
    (h : ∀ (ξ : Nat → Value) (S : Nat → Bool), S n = false → (∀ j ∈ preds af, S j = true) → (∀ k ok, L[k]? = some ok → S k = true → ∀ j ∈ preds ok.after, S j = true) → (∀ k, S k = true → Pf k ξ) →
      ∃ (ad : Option Addr) (cap kk m j : Nat) (e : TypeId) (rows : List (List Tr)) (r : List Tr) (t : Tr) (cf : List Chunk), ev (rst (slotsOf (.store T x y)) (acc ξ)) x = some (Tr.eptr ad kk m j) ∧ ev (rst (slotsOf (.store T x y)) (acc ξ)) y = some t ∧ OneT t ∧
        (H ξ S).Perm (Chunk.own ad cap kk e rows :: cf) ∧ rows[m]? = some r ∧ j < kk ∧ (H (upd ξ n undef) (updD S n)).Perm (Chunk.own ad cap kk e (rows.set m (r.set j t)) :: cf))
    (k : XSeq P Γ H L K (n + 1) acc (pfX n (fun _ => True) Pf) l) : XSeq P Γ H L K n acc Pf (⟨none, .store T x y, ty, pos, af, none⟩ :: l) := by
  refine XSeq.storeE ?_ k
  intro ξ S h1 h2 h3 h4
  obtain ⟨ad, cap, kk, m, j, e, rows, r, t, cf, g1, g2, g3, g4, g5, g6, g7⟩ := h ξ S h1 h2 h3 h4
  exact ⟨_, t, g1, g2, g3, fun w A v hr => ⟨ad, cap, kk, m, j, e, rows, r, cf, hr, fun _ => Ent.perm g4, g5, g6, fun _ => Ent.perm g7.symm⟩⟩
end x5
theorem goXp {p : Prop} (h : p := by repeat' (first | exact pick0 | apply pickS | apply pickA)) : p := h
theorem goXm {p : Prop} (h : p := by repeat' (first | exact List.Perm.refl _ | refine Perm.cons' (by repeat' (first | exact pick0 | apply pickS | apply pickA)) ?_ | refine Perm.app' (by repeat' (first | exact pickL0 | apply pickLS | apply pickLA)) ?_)) : p := h
end Lg
end
