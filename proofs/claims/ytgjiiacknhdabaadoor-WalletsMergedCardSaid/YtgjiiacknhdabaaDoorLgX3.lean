/- A part of the proof of a law of this seat: it adds no condition. By an AI agent. -/
import Derived.Test.YtgjiiacknhdabaaDoorLgCat
set_option linter.all false
namespace Lg
open Go

section x3
variable {P : Program} {Γ : Ctx} {env env' : Env} {cs cs' cf : List Chunk}

/-- what an owned slice holds is told in less -/
theorem Ent.imp_own {ad : Option Addr} {cap kk : Nat} {e : TypeId} {rows rows' : List (List Tr)} (hp : cs.Perm (Chunk.own ad cap kk e rows :: cf)) (hl : rows'.length = rows.length)
    (hk : (∀ r ∈ rows, r.length = kk) → ∀ r ∈ rows', r.length = kk) (hi : ImpL rows.flatten rows'.flatten) : Ent Γ env cs env (Chunk.own ad cap kk e rows' :: cf) := by
  unfold Ent
  intro a w d
  have d := d.perm hp
  refine d.swapc (by simp only [fps, List.flatMap_cons]; unfold Chunk.own; simp only [hl]) ?_
  intro c hc
  rcases List.mem_cons.1 hc with rfl | hc
  · have hb := d.chunks (Chunk.own ad cap kk e rows) (by simp)
    generalize av Γ.M (Chunk.own ad cap kk e rows :: cf) = A at *
    unfold Chunk.own at hb ⊢
    obtain ⟨h0, xs, h1, h2⟩ := hb
    exact ⟨hk h0, xs, by rw [hl]; exact h1, hi.rd h2⟩
  · exact d.chunks c (List.mem_cons_of_mem _ hc)

theorem impL_repI : ∀ xs : List Int, ImpL (intRows xs).flatten (repI xs.length).flatten
  | [] => .nil
  | x :: xs => by
    have h := impL_repI xs
    have e1 : (intRows (x :: xs)).flatten = Tr.int x :: (intRows xs).flatten := by simp [intRows]
    have e2 : (repI (x :: xs).length).flatten = Tr.intS (fun _ => True) :: (repI xs.length).flatten := by simp [repI, List.replicate_succ]
    rw [e1, e2]
    exact .cons (Imp.intS trivial) h
theorem impL_refl : ∀ ts : List Tr, ImpL ts ts
  | [] => .nil
  | _ :: ts => .cons Imp.refl (impL_refl ts)
theorem impL_repI_set (v : Int) : ∀ (n j : Nat), ImpL ((repI n).set j [Tr.int v]).flatten (repI n).flatten
  | 0, j => by simpa [repI] using ImpL.nil
  | n + 1, 0 => by
    have e2 : repI (n + 1) = [Tr.intS (fun _ => True)] :: repI n := by simp [repI, List.replicate_succ]
    rw [e2]
    exact .cons (Imp.intS trivial) (impL_refl _)
  | n + 1, j + 1 => by
    have e2 : repI (n + 1) = [Tr.intS (fun _ => True)] :: repI n := by simp [repI, List.replicate_succ]
    rw [e2]
    exact .cons Imp.refl (impL_repI_set v n j)
theorem repI_k {n : Nat} : ∀ r ∈ repI n, r.length = 1 := by
  intro r hr
  rw [(List.mem_replicate.1 hr).2]
  rfl
theorem repI_get {n j : Nat} (h : j < n) : (repI n)[j]? = some [Tr.intS fun _ => True] := by
  unfold repI
  simp [h]
theorem Ent.own_repI {ad : Option Addr} {cap : Nat} {e : TypeId} {xs : List Int} (hp : cs.Perm (Chunk.own ad cap 1 e (intRows xs) :: cf)) : Ent Γ env cs env (Chunk.own ad cap 1 e (repI xs.length) :: cf) :=
  Ent.imp_own hp (by rw [repI_len, intRows_len]) (fun _ => repI_k) (impL_repI xs)
theorem Ent.own_repI_set {ad : Option Addr} {cap n j : Nat} {v : Int} {e : TypeId} (hp : cs.Perm (Chunk.own ad cap 1 e ((repI n).set j [Tr.int v]) :: cf)) : Ent Γ env cs env (Chunk.own ad cap 1 e (repI n) :: cf) :=
  Ent.imp_own hp (by rw [List.length_set]) (fun _ => repI_k) (impL_repI_set v n j)

/-- a tree that is a list of numbers -/
def OpnI (m : Nat) (t : Tr) : Prop := ∀ w A v, t.rd w A v → ∃ xs : List Int, xs.length ≤ m ∧ (Tr.ints xs).rd w A v
theorem opnI_rep {m n : Nat} (h : n ≤ m) : OpnI m (Tr.sl 1 (repI n)) := fun w A v hr => by
  obtain ⟨xs, h1, h2⟩ := open_repI w A v hr
  exact ⟨xs, by omega, h2⟩
theorem opnI_ints {m : Nat} {xs : List Int} (h : xs.length ≤ m) : OpnI m (Tr.ints xs) := fun w A v hr => ⟨xs, h, hr⟩
theorem opnI_nil {m : Nat} : OpnI m (Tr.raw (.slice none 0 0)) := fun w A v hr => ⟨[], by simp, by
  have := Imp.nil (k := 1) w A v hr
  exact this⟩
def rowsT (ts : List Tr) : List (List Tr) := ts.map fun t => [t]
def rowsI (L : List (List Int)) : List (List Tr) := L.map fun l => [Tr.ints l]
theorem rdc_rowsT {m : Nat} {w : World} {A : Nat → Prop} : ∀ {ts : List Tr} {vs : List Value}, (∀ t ∈ ts, OpnI m t) → RdC w A (rowsT ts).flatten vs → ∃ L : List (List Int), L.length = ts.length ∧ (∀ l ∈ L, l.length ≤ m) ∧ RdC w A (rowsI L).flatten vs
  | [], vs, _, h => ⟨[], rfl, by simp, by simpa [rowsT, rowsI] using h⟩
  | t :: ts, vs, ht, h => by
    have h : RdC w A (t :: (rowsT ts).flatten) vs := by simpa [rowsT] using h
    obtain ⟨v, rest, rfl, h1, h2, h3⟩ := h
    obtain ⟨xs, hx, h4⟩ := ht t (List.mem_cons_self ..) w A v h1
    obtain ⟨L, hl, hm, h5⟩ := rdc_rowsT (fun t h => ht t (List.mem_cons_of_mem _ h)) h3
    refine ⟨xs :: L, by simp [hl], ?_, ?_⟩
    · intro l hl
      rcases List.mem_cons.1 hl with rfl | h
      · exact hx
      · exact hm l h
    · have e : (rowsI (xs :: L)).flatten = Tr.ints xs :: (rowsI L).flatten := by simp [rowsI]
      rw [e]
      exact ⟨v, rest, rfl, h4, h2, h5⟩
theorem rowsT_len (ts : List Tr) : (rowsT ts).length = ts.length := by simp [rowsT]
theorem rowsI_len (L : List (List Int)) : (rowsI L).length = L.length := by simp [rowsI]
theorem rowsI_k {L : List (List Int)} : ∀ r ∈ rowsI L, r.length = 1 := by
  intro r hr
  obtain ⟨l, _, rfl⟩ := List.mem_map.1 hr
  rfl
theorem rowsT_k {L : List Tr} : ∀ r ∈ rowsT L, r.length = 1 := by
  intro r hr
  obtain ⟨l, _, rfl⟩ := List.mem_map.1 hr
  rfl
theorem open_rowsT {m : Nat} {ts : List Tr} (ht : ∀ t ∈ ts, OpnI m t) : ∀ w A v, (Tr.sl 1 (rowsT ts)).rd w A v → ∃ L : List (List Int), (L.length = ts.length ∧ ∀ l ∈ L, l.length ≤ m) ∧ (Tr.sl 1 (rowsI L)).rd w A v := by
  intro w A v h
  unfold Tr.sl at h
  obtain ⟨hk, hl, a, cap, hv, h1, h2, h3, h4⟩ := h
  rw [rowsT_len] at hl hv h1
  rcases h4 with h4 | ⟨b, off, ha, hA, c, e, fz, hb, hr⟩
  · have hn : ts = [] := by cases ts with
      | nil => rfl
      | cons t ts => simp [rowsT] at h4
    subst hn
    refine ⟨[], ⟨rfl, by simp⟩, ?_⟩
    unfold Tr.sl
    exact ⟨by simp [rowsI], by simp [rowsI], a, cap, by rw [hv]; simp [rowsI], by simp [rowsI], h2, fun h => ⟨rfl, (h3 h).2⟩, .inl rfl⟩
  · have hlen : (rowsT ts).flatten.length = ts.length := by rw [flat_len (kk := 1) rowsT_k, rowsT_len]; omega
    rw [hlen] at hr
    obtain ⟨L, hL, hm, h5⟩ := rdc_rowsT ht hr
    have hfl : (rowsI L).flatten.length = ts.length := by rw [flat_len (kk := 1) rowsI_k, rowsI_len, hL]; omega
    refine ⟨L, ⟨hL, hm⟩, ?_⟩
    unfold Tr.sl
    refine ⟨rowsI_k, by rw [rowsI_len, hL]; exact hl, a, cap, by rw [rowsI_len, hL]; exact hv, by rw [rowsI_len, hL]; exact h1, h2, ?_, .inr ⟨b, off, ha, hA, c, e, fz, hb, by rw [hfl]; exact h5⟩⟩
    intro h
    rw [ha] at h
    cases h
theorem rdc_one_rowsT {m : Nat} {ts : List Tr} (ht : ∀ t ∈ ts, OpnI m t) : ∀ w A vs, RdC w A [Tr.sl 1 (rowsT ts)] vs → ∃ L : List (List Int), (L.length = ts.length ∧ ∀ l ∈ L, l.length ≤ m) ∧ RdC w A [Tr.sl 1 (rowsI L)] vs :=
  fun w A vs h => rdc_open h (open_rowsT ht)

section x3b
variable {env : Env} {H : (Nat → Value) → (Nat → Bool) → List Chunk} {L : List Oper} {K : Env → List Chunk → Prop} {n : Nat} {l : List Oper}
variable {Pf : Nat → (Nat → Value) → Prop} {d : Nat} {op : Op} {ty : TypeId} {pos : String} {af : Array Edge} {acc : (Nat → Value) → Env}
/-- a store into an owned slice of which it is only known that it is one of some -/
theorem XSeq.storeE {T : TypeId} {x y : Operand} [hT : TyOne P T]
    (h : ∀ (ξ : Nat → Value) (S : Nat → Bool), S n = false → (∀ j ∈ preds af, S j = true) → (∀ k ok, L[k]? = some ok → S k = true → ∀ j ∈ preds ok.after, S j = true) → (∀ k, S k = true → Pf k ξ) →
      ∃ (u t : Tr), ev (rst (slotsOf (.store T x y)) (acc ξ)) x = some u ∧ ev (rst (slotsOf (.store T x y)) (acc ξ)) y = some t ∧ OneT t ∧ ∀ w A v, u.rd w A v → ∃ (ad : Option Addr) (cap kk m j : Nat) (e : TypeId) (rows : List (List Tr)) (r : List Tr) (cf : List Chunk),
        (Tr.eptr ad kk m j).rd w A v ∧ (∀ env2, Ent Γ env2 (H ξ S) env2 (Chunk.own ad cap kk e rows :: cf)) ∧ rows[m]? = some r ∧ j < kk ∧ (∀ env2, Ent Γ env2 (Chunk.own ad cap kk e (rows.set m (r.set j t)) :: cf) env2 (H (upd ξ n undef) (updD S n))))
    (k : XSeq P Γ H L K (n + 1) acc (pfX n (fun _ => True) Pf) l) : XSeq P Γ H L K n acc Pf (⟨none, .store T x y, ty, pos, af, none⟩ :: l) := by
  refine XSeq.cons (T := fun _ => Tr.any) (Pv := fun _ => True) PvOk.triv ?_ k
  unfold XStep
  intro ξ S h1 h2 h3 h4 a w dd next F hk
  obtain ⟨u, t, hx, hy, ho, hh⟩ := h ξ S h1 h2 h3 h4
  obtain ⟨ad, cap, kk, m, j, e, rows, r, cf, hptr, hE, hr, hj, hE2⟩ := hh w _ _ (dd.ev hx)
  unfold Tr.eptr at hptr
  obtain ⟨g, ha, hv⟩ := hptr
  have toD : ∀ env2, Den Γ env2 (H ξ S) a w → Den Γ env2 (Chunk.own ad cap kk e rows :: cf) a w := fun env2 d2 => by
    have := hE env2
    unfold Ent at this
    exact this a w d2
  have d1 := toD _ dd
  have hrow : RdC w (av Γ.M (Chunk.own ad cap kk e rows :: cf)) [t] (a.eval y).cells.toList := (inferInstance : RowT t [t]).h _ _ _ (d1.ev hy)
  have hlr : r.length = kk := by
    have := d1.has (List.Perm.refl _)
    generalize av Γ.M (Chunk.own ad cap kk e rows :: cf) = A at this
    unfold Chunk.own at this
    obtain ⟨hk0, _⟩ := this
    exact hk0 r (List.mem_of_getElem? hr)
  have hset : r.take j ++ [t] ++ r.drop (j + 1) = r.set j t := by rw [List.set_eq_take_append_cons_drop, if_pos (by omega)]; simp
  have step : ∀ env2, Den Γ env2 (Chunk.own ad cap kk e rows :: cf) a w → ∃ w', (Instr.storeAt T (.pointer (some ⟨g, m * kk + j, none⟩)) (a.eval y)).run P w = .ok () w' ∧ Den Γ env2 (Chunk.own ad cap kk e (rows.set m (r.set j t)) :: cf) a w' := by
    intro env2 d2
    rw [← hset]
    exact own_store (P := P) d2 ha hr (r' := r.take j ++ [t] ++ r.drop (j + 1)) (vs := (a.eval y).cells.toList) (m := 1) (j := j) (by rw [hrow.length]; rfl) (by omega)
      (fun A w' hs xs hx => (((hx.take j).mono hs).app (hrow.mono hs)).app ((hx.drop (j + 1)).mono hs)) (by simp [hlr]; omega) T (a.eval y) hT.size rfl hrow.one
  obtain ⟨w', hrun, hd⟩ := step _ d1
  have hx2 : (execOp a.eval ⟨none, .store T x y, ty, pos, af, none⟩).run P w = .ok .skip w' := by simp [execOp, hv, hrun] <;> rfl
  unfold Oper.wp
  rw [hx2]
  refine hk _ _ trivial tr_any_self fun env2 d2 => ?_
  obtain ⟨w2, hrun2, hd2⟩ := step env2 (toD env2 d2)
  rw [hrun] at hrun2
  cases hrun2
  have := hE2 env2
  unfold Ent at this
  exact this a w' hd2
end x3b
end x3
end Lg
