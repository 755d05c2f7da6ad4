/- A part of the proof of a law of this seat: it adds no condition. By an AI agent. -/
import Derived.Test.YtgjiiacknhdabaaDoorCat
set_option linter.all false
namespace Lg
open Go

section x3
variable {P : Program} {Γ : Ctx} {env env' : Env} {cs cs' cf : List Chunk}

/-- what an owned slice holds is told in less -/
theorem Ent.imp_own {ad : Option Addr} {cap kk : Nat} {e : TypeId} {rows rows' : List (List Tr)} (hp : cs.Perm (Chunk.own ad cap kk e rows :: cf)) (hl : rows'.length = rows.length)
    (hk : (∀ r ∈ rows, r.length = kk) → ∀ r ∈ rows', r.length = kk) (hi : ImpL rows.flatten rows'.flatten) : Ent Γ env cs env (Chunk.own ad cap kk e rows' :: cf) := by
  unfold Ent
  intro a w d
  have d := d.perm hp
  refine d.swapc (by simp only [fps, List.flatMap_cons]; unfold Chunk.own; simp only [hl]) ?_
  intro c hc
  rcases List.mem_cons.1 hc with rfl | hc
  · have hb := d.chunks (Chunk.own ad cap kk e rows) (by simp)
    generalize av Γ.M (Chunk.own ad cap kk e rows :: cf) = A at *
    unfold Chunk.own at hb ⊢
    obtain ⟨h0, xs, h1, h2⟩ := hb
    exact ⟨hk h0, xs, by rw [hl]; exact h1, hi.rd h2⟩
  · exact d.chunks c (List.mem_cons_of_mem _ hc)

theorem impL_repI : ∀ xs : List Int, ImpL (intRows xs).flatten (repI xs.length).flatten
  | [] => .nil
  | x :: xs => by
    have h := impL_repI xs
    have e1 : (intRows (x :: xs)).flatten = Tr.int x :: (intRows xs).flatten := by simp [intRows]
    have e2 : (repI (x :: xs).length).flatten = Tr.intS (fun _ => True) :: (repI xs.length).flatten := by simp [repI, List.replicate_succ]
    rw [e1, e2]
    exact .cons (Imp.intS trivial) h
theorem impL_refl : ∀ ts : List Tr, ImpL ts ts
  | [] => .nil
  | _ :: ts => .cons Imp.refl (impL_refl ts)
theorem impL_repI_set (v : Int) : ∀ (n j : Nat), ImpL ((repI n).set j [Tr.int v]).flatten (repI n).flatten
  | 0, j => by simpa [repI] using ImpL.nil
  | n + 1, 0 => by
    have e2 : repI (n + 1) = [Tr.intS (fun _ => True)] :: repI n := by simp [repI, List.replicate_succ]
    rw [e2]
    exact .cons (Imp.intS trivial) (impL_refl _)
  | n + 1, j + 1 => by
    have e2 : repI (n + 1) = [Tr.intS (fun _ => True)] :: repI n := by simp [repI, List.replicate_succ]
    rw [e2]
    exact .cons Imp.refl (impL_repI_set v n j)
theorem repI_k {n : Nat} : ∀ r ∈ repI n, r.length = 1 := by
  intro r hr
  rw [(List.mem_replicate.1 hr).2]
  rfl
theorem repI_get {n j : Nat} (h : j < n) : (repI n)[j]? = some [Tr.intS fun _ => True] := by
  unfold repI
  simp [h]
theorem Ent.own_repI {ad : Option Addr} {cap : Nat} {e : TypeId} {xs : List Int} (hp : cs.Perm (Chunk.own ad cap 1 e (intRows xs) :: cf)) : Ent Γ env cs env (Chunk.own ad cap 1 e (repI xs.length) :: cf) :=
  Ent.imp_own hp (by rw [repI_len, intRows_len]) (fun _ => repI_k) (impL_repI xs)
theorem Ent.own_repI_set {ad : Option Addr} {cap n j : Nat} {v : Int} {e : TypeId} (hp : cs.Perm (Chunk.own ad cap 1 e ((repI n).set j [Tr.int v]) :: cf)) : Ent Γ env cs env (Chunk.own ad cap 1 e (repI n) :: cf) :=
  Ent.imp_own hp (by rw [List.length_set]) (fun _ => repI_k) (impL_repI_set v n j)

/-- a tree that is a list of numbers -/
def OpnI (m : Nat) (t : Tr) : Prop := ∀ w A v, t.rd w A v → ∃ xs : List Int, xs.length ≤ m ∧ (Tr.ints xs).rd w A v
theorem opnI_rep {m n : Nat} (h : n ≤ m) : OpnI m (Tr.sl 1 (repI n)) := fun w A v hr => by
  obtain ⟨xs, h1, h2⟩ := open_repI w A v hr
  exact ⟨xs, by omega, h2⟩
theorem opnI_ints {m : Nat} {xs : List Int} (h : xs.length ≤ m) : OpnI m (Tr.ints xs) := fun w A v hr => ⟨xs, h, hr⟩
theorem opnI_nil {m : Nat} : OpnI m (Tr.raw (.slice none 0 0)) := fun w A v hr => ⟨[], by simp, by
  have := Imp.nil (k := 1) w A v hr
  exact this⟩
def rowsT (ts : List Tr) : List (List Tr) := ts.map fun t => [t]
def rowsI (L : List (List Int)) : List (List Tr) := L.map fun l => [Tr.ints l]
theorem rdc_rowsT {m : Nat} {w : World} {A : Nat → Prop} : ∀ {ts : List Tr} {vs : List Value}, (∀ t ∈ ts, OpnI m t) → RdC w A (rowsT ts).flatten vs → ∃ L : List (List Int), L.length = ts.length ∧ (∀ l ∈ L, l.length ≤ m) ∧ RdC w A (rowsI L).flatten vs
  | [], vs, _, h => ⟨[], rfl, by simp, by simpa [rowsT, rowsI] using h⟩
  | t :: ts, vs, ht, h => by
    have h : RdC w A (t :: (rowsT ts).flatten) vs := by simpa [rowsT] using h
    obtain ⟨v, rest, rfl, h1, h2, h3⟩ := h
    obtain ⟨xs, hx, h4⟩ := ht t (List.mem_cons_self ..) w A v h1
    obtain ⟨L, hl, hm, h5⟩ := rdc_rowsT (fun t h => ht t (List.mem_cons_of_mem _ h)) h3
    refine ⟨xs :: L, by simp [hl], ?_, ?_⟩
    · intro l hl
      rcases List.mem_cons.1 hl with rfl | h
      · exact hx
      · exact hm l h
    · have e : (rowsI (xs :: L)).flatten = Tr.ints xs :: (rowsI L).flatten := by simp [rowsI]
      rw [e]
      exact ⟨v, rest, rfl, h4, h2, h5⟩
theorem rowsT_len (ts : List Tr) : (rowsT ts).length = ts.length := by simp [rowsT]
theorem rowsI_len (L : List (List Int)) : (rowsI L).length = L.length := by simp [rowsI]
theorem rowsI_k {L : List (List Int)} : ∀ r ∈ rowsI L, r.length = 1 := by
  intro r hr
  obtain ⟨l, _, rfl⟩ := List.mem_map.1 hr
  rfl
theorem rowsT_k {L : List Tr} : ∀ r ∈ rowsT L, r.length = 1 := by
  intro r hr
  obtain ⟨l, _, rfl⟩ := List.mem_map.1 hr
  rfl
theorem open_rowsT {m : Nat} {ts : List Tr} (ht : ∀ t ∈ ts, OpnI m t) : ∀ w A v, (Tr.sl 1 (rowsT ts)).rd w A v → ∃ L : List (List Int), (L.length = ts.length ∧ ∀ l ∈ L, l.length ≤ m) ∧ (Tr.sl 1 (rowsI L)).rd w A v := by
  intro w A v h
  unfold Tr.sl at h
  obtain ⟨hk, hl, a, cap, hv, h1, h2, h3, h4⟩ := h
  rw [rowsT_len] at hl hv h1
  rcases h4 with h4 | ⟨b, off, ha, hA, c, e, fz, hb, hr⟩
  · have hn : ts = [] := by cases ts with
      | nil => rfl
      | cons t ts => simp [rowsT] at h4
    subst hn
    refine ⟨[], ⟨rfl, by simp⟩, ?_⟩
    unfold Tr.sl
    exact ⟨by simp [rowsI], by simp [rowsI], a, cap, by rw [hv]; simp [rowsI], by simp [rowsI], h2, fun h => ⟨rfl, (h3 h).2⟩, .inl rfl⟩
  · have hlen : (rowsT ts).flatten.length = ts.length := by rw [flat_len (kk := 1) rowsT_k, rowsT_len]; omega
    rw [hlen] at hr
    obtain ⟨L, hL, hm, h5⟩ := rdc_rowsT ht hr
    have hfl : (rowsI L).flatten.length = ts.length := by rw [flat_len (kk := 1) rowsI_k, rowsI_len, hL]; omega
    refine ⟨L, ⟨hL, hm⟩, ?_⟩
    unfold Tr.sl
    refine ⟨rowsI_k, by rw [rowsI_len, hL]; exact hl, a, cap, by rw [rowsI_len, hL]; exact hv, by rw [rowsI_len, hL]; exact h1, h2, ?_, .inr ⟨b, off, ha, hA, c, e, fz, hb, by rw [hfl]; exact h5⟩⟩
    intro h
    rw [ha] at h
    cases h
theorem rdc_one_rowsT {m : Nat} {ts : List Tr} (ht : ∀ t ∈ ts, OpnI m t) : ∀ w A vs, RdC w A [Tr.sl 1 (rowsT ts)] vs → ∃ L : List (List Int), (L.length = ts.length ∧ ∀ l ∈ L, l.length ≤ m) ∧ RdC w A [Tr.sl 1 (rowsI L)] vs :=
  fun w A vs h => rdc_open h (open_rowsT ht)

section x3b
variable {env : Env} {H : (Nat → Value) → (Nat → Bool) → List Chunk} {L : List Oper} {K : Env → List Chunk → Prop} {n : Nat} {l : List Oper}
variable {Pf : Nat → (Nat → Value) → Prop} {d : Nat} {op : Op} {ty : TypeId} {pos : String} {af : Array Edge} {acc : (Nat → Value) → Env}
/-- a store into an owned slice of which it is only known that it is one of some -/
theorem XSeq.storeE {T : TypeId} {x y : Operand} [hT : TyOne P T]
    (h : ∀ (ξ : Nat → Value) (S : Nat → Bool), S n = false → (∀ j ∈ preds af, S j = true) → (∀ k ok, L[k]? = some ok → S k = true → ∀ j ∈ preds ok.after, S j = true) → (∀ k, S k = true → Pf k ξ) →
      ∃ (u t : Tr), ev (rst (slotsOf (.store T x y)) (acc ξ)) x = some u ∧ ev (rst (slotsOf (.store T x y)) (acc ξ)) y = some t ∧ OneT t ∧ ∀ w A v, u.rd w A v → ∃ (ad : Option Addr) (cap kk m j : Nat) (e : TypeId) (rows : List (List Tr)) (r : List Tr) (cf : List Chunk),
        (Tr.eptr ad kk m j).rd w A v ∧ (∀ env2, Ent Γ env2 (H ξ S) env2 (Chunk.own ad cap kk e rows :: cf)) ∧ rows[m]? = some r ∧ j < kk ∧ (∀ env2, Ent Γ env2 (Chunk.own ad cap kk e (rows.set m (r.set j t)) :: cf) env2 (H (upd ξ n undef) (updD S n))))
    (k : XSeq P Γ H L K (n + 1) acc (pfX n (fun _ => True) Pf) l) : XSeq P Γ H L K n acc Pf (⟨none, .store T x y, ty, pos, af, none⟩ :: l) := by
  refine XSeq.cons (T := fun _ => Tr.any) (Pv := fun _ => True) PvOk.triv ?_ k
  unfold XStep
  intro ξ S h1 h2 h3 h4 a w dd next F hk
  obtain ⟨u, t, hx, hy, ho, hh⟩ := h ξ S h1 h2 h3 h4
  obtain ⟨ad, cap, kk, m, j, e, rows, r, cf, hptr, hE, hr, hj, hE2⟩ := hh w _ _ (dd.ev hx)
  unfold Tr.eptr at hptr
  obtain ⟨g, ha, hv⟩ := hptr
  have toD : ∀ env2, Den Γ env2 (H ξ S) a w → Den Γ env2 (Chunk.own ad cap kk e rows :: cf) a w := fun env2 d2 => by
    have := hE env2
    unfold Ent at this
    exact this a w d2
  have d1 := toD _ dd
  have hrow : RdC w (av Γ.M (Chunk.own ad cap kk e rows :: cf)) [t] (a.eval y).cells.toList := (inferInstance : RowT t [t]).h _ _ _ (d1.ev hy)
  have hlr : r.length = kk := by
    have := d1.has (List.Perm.refl _)
    generalize av Γ.M (Chunk.own ad cap kk e rows :: cf) = A at this
    unfold Chunk.own at this
    obtain ⟨hk0, _⟩ := this
    exact hk0 r (List.mem_of_getElem? hr)
  have hset : r.take j ++ [t] ++ r.drop (j + 1) = r.set j t := by rw [List.set_eq_take_append_cons_drop, if_pos (by omega)]; simp
  have step : ∀ env2, Den Γ env2 (Chunk.own ad cap kk e rows :: cf) a w → ∃ w', (Instr.storeAt T (.pointer (some ⟨g, m * kk + j, none⟩)) (a.eval y)).run P w = .ok () w' ∧ Den Γ env2 (Chunk.own ad cap kk e (rows.set m (r.set j t)) :: cf) a w' := by
    intro env2 d2
    rw [← hset]
    exact own_store (P := P) d2 ha hr (r' := r.take j ++ [t] ++ r.drop (j + 1)) (vs := (a.eval y).cells.toList) (m := 1) (j := j) (by rw [hrow.length]; rfl) (by omega)
      (fun A w' hs xs hx => (((hx.take j).mono hs).app (hrow.mono hs)).app ((hx.drop (j + 1)).mono hs)) (by simp [hlr]; omega) T (a.eval y) hT.size rfl hrow.one
  obtain ⟨w', hrun, hd⟩ := step _ d1
  have hx2 : (execOp a.eval ⟨none, .store T x y, ty, pos, af, none⟩).run P w = .ok .skip w' := by simp [execOp, hv, hrun] <;> rfl
  unfold Oper.wp
  rw [hx2]
  refine hk _ _ trivial tr_any_self fun env2 d2 => ?_
  obtain ⟨w2, hrun2, hd2⟩ := step env2 (toD env2 d2)
  rw [hrun] at hrun2
  cases hrun2
  have := hE2 env2
  unfold Ent at this
  exact this a w' hd2
end x3b
end x3
end Lg
set_option linter.all false
namespace Lg

/-! ### insertion sort, as slices.SortStableFunc does it on short slices: from the left, each new one is moved down past those that are greater -/
section isort
variable {α : Type} (lt : α → α → Bool)

def insRev (x : α) : List α → List α
  | [] => [x]
  | y :: r => if lt x y then y :: insRev x r else x :: y :: r
/-- x is put into l, from the right -/
def insB (x : α) (l : List α) : List α := (insRev lt x l.reverse).reverse
theorem insB_nil (x : α) : insB lt x [] = [x] := rfl
theorem insB_lt {x y : α} {l : List α} (h : lt x y = true) : insB lt x (l ++ [y]) = insB lt x l ++ [y] := by
  unfold insB
  rw [List.reverse_append, List.reverse_singleton, List.singleton_append, insRev, if_pos h, List.reverse_cons]
theorem insB_ge {x y : α} {l : List α} (h : lt x y = false) : insB lt x (l ++ [y]) = l ++ [y] ++ [x] := by
  unfold insB
  rw [List.reverse_append, List.reverse_singleton, List.singleton_append, insRev, if_neg (by simp [h])]
  simp
/-- all of a list, one after the other -/
def isortB : List α → List α → List α
  | acc, [] => acc
  | acc, x :: l => isortB (insB lt x acc) l
def isort (l : List α) : List α := isortB lt [] l

theorem insRev_perm (x : α) : ∀ l : List α, (insRev lt x l).Perm (x :: l)
  | [] => List.Perm.refl _
  | y :: r => by
    unfold insRev
    split
    · exact (List.Perm.cons y (insRev_perm x r)).trans (List.Perm.swap x y r)
    · exact List.Perm.refl _
theorem insB_perm (x : α) (l : List α) : (insB lt x l).Perm (x :: l) :=
  (List.reverse_perm _).trans ((insRev_perm lt x _).trans (List.Perm.cons x (List.reverse_perm l)))
theorem insB_len (x : α) (l : List α) : (insB lt x l).length = l.length + 1 := by
  have := (insB_perm lt x l).length_eq
  simpa using this
theorem isortB_perm : ∀ (l acc : List α), (isortB lt acc l).Perm (acc ++ l)
  | [], acc => by simp [isortB]
  | x :: l, acc => by
    rw [isortB]
    refine (isortB_perm l _).trans ?_
    refine (List.Perm.append_right l (insB_perm lt x acc)).trans ?_
    exact (List.perm_middle (a := x) (l₁ := acc) (l₂ := l)).symm
theorem isort_perm (l : List α) : (isort lt l).Perm l := by
  have := isortB_perm lt l []
  simpa [isort] using this
theorem isort_len (l : List α) : (isort lt l).length = l.length := (isort_perm lt l).length_eq
end isort

section keyed
variable {α : Type} (key : α → Int)

theorem insRev_key_sorted (x : α) : ∀ {l : List α}, l.Pairwise (fun a b => key b ≤ key a) → (insRev (fun a b => decide (key a < key b)) x l).Pairwise (fun a b => key b ≤ key a)
  | [], _ => by simp [insRev]
  | y :: r, h => by
    obtain ⟨h1, h2⟩ := List.pairwise_cons.1 h
    unfold insRev
    split
    · rename_i hc
      have hc : key x < key y := by simpa using hc
      refine List.pairwise_cons.2 ⟨?_, insRev_key_sorted x h2⟩
      intro z hz
      rcases List.mem_cons.1 ((insRev_perm _ x r).mem_iff.1 hz) with rfl | hz
      · omega
      · exact h1 z hz
    · rename_i hc
      have hc : ¬ key x < key y := by simpa using hc
      refine List.pairwise_cons.2 ⟨?_, h⟩
      intro z hz
      rcases List.mem_cons.1 hz with rfl | hz
      · omega
      · have := h1 z hz; omega
theorem insB_key_sorted (x : α) {l : List α} (h : l.Pairwise (fun a b => key a ≤ key b)) : (insB (fun a b => decide (key a < key b)) x l).Pairwise (fun a b => key a ≤ key b) := by
  unfold insB
  rw [List.pairwise_reverse]
  exact insRev_key_sorted key x (by rw [List.pairwise_reverse]; exact h)
theorem isortB_key_sorted : ∀ (l : List α) {acc : List α}, acc.Pairwise (fun a b => key a ≤ key b) → (isortB (fun a b => decide (key a < key b)) acc l).Pairwise (fun a b => key a ≤ key b)
  | [], _, h => h
  | x :: l, _, h => isortB_key_sorted l (insB_key_sorted key x h)
theorem isort_key_sorted (l : List α) : (isort (fun a b => decide (key a < key b)) l).Pairwise (fun a b => key a ≤ key b) := isortB_key_sorted key l List.Pairwise.nil

theorem insRev_key_filter (x : α) (d : Int) : ∀ {l : List α}, l.Pairwise (fun a b => key b ≤ key a) → (insRev (fun a b => decide (key a < key b)) x l).filter (fun a => decide (key a = d)) = ([x] ++ l).filter (fun a => decide (key a = d))
  | [], _ => by simp [insRev]
  | y :: r, h => by
    obtain ⟨h1, h2⟩ := List.pairwise_cons.1 h
    unfold insRev
    split
    · rename_i hc
      have hc : key x < key y := by simpa using hc
      rw [List.filter_cons, insRev_key_filter x d h2]
      by_cases hx : key x = d
      · have : key y ≠ d := by omega
        simp [hx, this]
      · simp [hx, List.filter_cons]
    · rfl
theorem insB_key_filter (x : α) (d : Int) {l : List α} (h : l.Pairwise (fun a b => key a ≤ key b)) : (insB (fun a b => decide (key a < key b)) x l).filter (fun a => decide (key a = d)) = (l ++ [x]).filter (fun a => decide (key a = d)) := by
  unfold insB
  rw [List.filter_reverse, insRev_key_filter key x d (by rw [List.pairwise_reverse]; exact h), ← List.filter_reverse]
  simp
theorem isortB_key_filter (d : Int) : ∀ (l : List α) {acc : List α}, acc.Pairwise (fun a b => key a ≤ key b) → (isortB (fun a b => decide (key a < key b)) acc l).filter (fun a => decide (key a = d)) = (acc ++ l).filter (fun a => decide (key a = d))
  | [], acc, _ => by simp [isortB]
  | x :: l, acc, h => by
    rw [isortB, isortB_key_filter d l (insB_key_sorted key x h), List.filter_append, insB_key_filter key x d h, ← List.filter_append]
    simp
theorem isort_key_filter (l : List α) (d : Int) : (isort (fun a b => decide (key a < key b)) l).filter (fun a => decide (key a = d)) = l.filter (fun a => decide (key a = d)) := by
  have := isortB_key_filter key d l (acc := []) List.Pairwise.nil
  simpa [isort] using this

/-- two lists in order that hold the same of each key are one -/
theorem eq_of_key_filters : ∀ {l1 l2 : List α}, l1.Pairwise (fun a b => key a ≤ key b) → l2.Pairwise (fun a b => key a ≤ key b) → (∀ d, l1.filter (fun a => decide (key a = d)) = l2.filter (fun a => decide (key a = d))) → l1 = l2
  | [], l2, _, _, h => by
    cases l2 with
    | nil => rfl
    | cons y l2 => have := h (key y); simp at this
  | x :: l1, l2, h1, h2, h => by
    obtain ⟨p1, p2⟩ := List.pairwise_cons.1 h1
    cases l2 with
    | nil => have := h (key x); simp at this
    | cons y l2 =>
      obtain ⟨q1, q2⟩ := List.pairwise_cons.1 h2
      have hxy : key x = key y := by
        have hx : x ∈ (y :: l2).filter (fun a => decide (key a = key x)) := by rw [← h]; simp
        have hy : y ∈ (x :: l1).filter (fun a => decide (key a = key y)) := by rw [h]; simp
        have a1 : key y ≤ key x := by
          rcases List.mem_cons.1 (List.mem_filter.1 hx).1 with e | e
          · rw [e]; omega
          · exact q1 _ e
        have a2 : key x ≤ key y := by
          rcases List.mem_cons.1 (List.mem_filter.1 hy).1 with e | e
          · rw [e]; omega
          · exact p1 _ e
        omega
      have he : x = y := by
        have := h (key x)
        rw [List.filter_cons, List.filter_cons] at this
        simp [hxy] at this
        exact this.1
      subst he
      congr 1
      refine eq_of_key_filters p2 q2 fun d => ?_
      have := h d
      rw [List.filter_cons, List.filter_cons] at this
      split at this
      · simpa using this
      · exact this
end keyed
end Lg
namespace Lg
/-! ### the first error of a row of tests -/
def firstE (e : Nat → Int) : Nat → Nat → Int
  | _, 0 => 0
  | k, n + 1 => if e k ≠ 0 then e k else firstE e (k + 1) n
theorem firstE_end {e : Nat → Int} {k n : Nat} (h : ¬ k < n) : firstE e k (n - k) = 0 := by
  rw [show n - k = 0 by omega]
  rfl
theorem firstE_step {e : Nat → Int} {k n : Nat} (h : k < n) : firstE e k (n - k) = if e k ≠ 0 then e k else firstE e (k + 1) (n - (k + 1)) := by
  obtain ⟨m, hm⟩ : ∃ m, n - k = m + 1 := ⟨n - k - 1, by omega⟩
  rw [hm, show n - (k + 1) = m by omega]
  rfl
theorem firstE_bad {e : Nat → Int} {k n : Nat} {c : Int} (h : k < n) (he : e k = c) (hc : c ≠ 0) : firstE e k (n - k) = c := by
  rw [firstE_step h, he, if_pos hc]
theorem firstE_ok {e : Nat → Int} {k n : Nat} (h : k < n) (he : e k = 0) : firstE e k (n - k) = firstE e (k + 1) (n - (k + 1)) := by
  rw [firstE_step h, if_neg (by simp [he])]
theorem firstE_zero {e : Nat → Int} : ∀ {n k : Nat}, firstE e k n = 0 → ∀ j, k ≤ j → j < k + n → e j = 0
  | 0, k, _, j, h1, h2 => by omega
  | n + 1, k, h, j, h1, h2 => by
    unfold firstE at h
    split at h
    · rename_i hc; exact absurd h hc
    · rename_i hc
      by_cases hj : j = k
      · subst hj; simpa using hc
      · exact firstE_zero h j (by omega) (by omega)
theorem firstE_ext {e f : Nat → Int} : ∀ {n k : Nat}, (∀ j, k ≤ j → j < k + n → e j = f j) → firstE e k n = firstE f k n
  | 0, _, _ => rfl
  | n + 1, k, h => by
    unfold firstE
    rw [h k (by omega) (by omega), firstE_ext fun j h1 h2 => h j (by omega) (by omega)]
end Lg
namespace Lg
/-! ### sums -/
def sumF {α : Type} (f : α → Int) : List α → Int
  | [] => 0
  | x :: l => f x + sumF f l
theorem sumF_cons {α : Type} (f : α → Int) (x : α) (l : List α) : sumF f (x :: l) = f x + sumF f l := rfl
theorem sumF_app {α : Type} (f : α → Int) : ∀ (a b : List α), sumF f (a ++ b) = sumF f a + sumF f b
  | [], b => by simp [sumF]
  | x :: a, b => by rw [List.cons_append, sumF_cons, sumF_cons, sumF_app f a b]; omega
theorem sumF_ext {α : Type} {f g : α → Int} : ∀ {l : List α}, (∀ x ∈ l, f x = g x) → sumF f l = sumF g l
  | [], _ => rfl
  | x :: l, h => by rw [sumF_cons, sumF_cons, h x (by simp), sumF_ext fun y hy => h y (by simp [hy])]
theorem sumF_ge {α : Type} {f : α → Int} : ∀ {l : List α}, (∀ x ∈ l, 0 ≤ f x) → 0 ≤ sumF f l
  | [], _ => Int.le_refl _
  | x :: l, h => by rw [sumF_cons]; have := h x (by simp); have := sumF_ge fun y hy => h y (List.mem_cons_of_mem x hy); omega
theorem firstE_drop {e : Nat → Int} : ∀ {n k : Nat}, (∀ j, k ≤ j → j < k + n → e j = 0) → firstE e k n = 0
  | 0, _, _ => rfl
  | n + 1, k, h => by
    unfold firstE
    rw [if_neg (by simp [h k (by omega) (by omega)])]
    exact firstE_drop fun j h1 h2 => h j (by omega) (by omega)
end Lg
namespace Lg
section isort2
variable {α : Type} (lt : α → α → Bool)
theorem isortB_snoc (x : α) : ∀ (l acc : List α), isortB lt acc (l ++ [x]) = insB lt x (isortB lt acc l)
  | [], acc => rfl
  | y :: l, acc => by rw [List.cons_append, isortB, isortB_snoc x l, isortB]
theorem isort_snoc (x : α) (l : List α) : isort lt (l ++ [x]) = insB lt x (isort lt l) := isortB_snoc lt x l []
theorem isort_take1 (xs : List α) : isort lt (xs.take 1) = xs.take 1 := by
  cases xs with
  | nil => rfl
  | cons x l => rfl
end isort2
end Lg
namespace Lg
section lexi
variable (key : Int → Int)
/-- by key, and among equals by what came first -/
def lexi (a b : Int) : Prop := key a < key b ∨ (key a = key b ∧ a < b)
theorem insRev_lexi (x : Int) : ∀ {l : List Int}, l.Pairwise (fun a b => lexi key b a) → (∀ y ∈ l, y < x) → (insRev (fun a b => decide (key a < key b)) x l).Pairwise (fun a b => lexi key b a)
  | [], _, _ => by simp [insRev]
  | y :: r, h, hx => by
    obtain ⟨h1, h2⟩ := List.pairwise_cons.1 h
    unfold insRev
    split
    · rename_i hc
      have hc : key x < key y := by simpa using hc
      refine List.pairwise_cons.2 ⟨?_, insRev_lexi x h2 fun z hz => hx z (by simp [hz])⟩
      intro z hz
      rcases List.mem_cons.1 ((insRev_perm _ x r).mem_iff.1 hz) with rfl | hz
      · exact .inl hc
      · exact h1 z hz
    · rename_i hc
      have hc : ¬ key x < key y := by simpa using hc
      refine List.pairwise_cons.2 ⟨?_, h⟩
      intro z hz
      have hzx := hx z hz
      have hzy : key z ≤ key y := by
        rcases List.mem_cons.1 hz with rfl | hz
        · omega
        · rcases h1 z hz with h | h <;> omega
      unfold lexi
      omega
theorem isortB_lexi : ∀ (l : List Int) {acc : List Int}, acc.Pairwise (lexi key) → l.Pairwise (· < ·) → (∀ y ∈ acc, ∀ x ∈ l, y < x) → (isortB (fun a b => decide (key a < key b)) acc l).Pairwise (lexi key)
  | [], _, h, _, _ => h
  | x :: l, acc, h, hl, hx => by
    obtain ⟨h1, h2⟩ := List.pairwise_cons.1 hl
    rw [isortB]
    refine isortB_lexi l ?_ h2 ?_
    · unfold insB
      rw [List.pairwise_reverse]
      exact insRev_lexi key x (by rw [List.pairwise_reverse]; exact h) (fun y hy => hx y (List.mem_reverse.1 hy) x (by simp))
    · intro y hy z hz
      rcases List.mem_cons.1 ((insB_perm _ x acc).mem_iff.1 hy) with rfl | hy
      · exact h1 z hz
      · exact hx y hy z (by simp [hz])
theorem isort_lexi {l : List Int} (h : l.Pairwise (· < ·)) : (isort (fun a b => decide (key a < key b)) l).Pairwise (lexi key) :=
  isortB_lexi key l List.Pairwise.nil h (by simp)
end lexi
end Lg
set_option linter.all false
set_option maxRecDepth 100000
set_option maxHeartbeats 4000000
namespace Lg
open Go Go.Proofs

/-! ### wallets, in plain terms -/
structure Wal where
  sites : List ByteArray
  rights : List (List Int)
  used : List Int
abbrev Tr.wal (w : Wal) : Tr := .agg [.strs w.sites, .sl 1 (intsR w.rights), .ints w.used]
def at2 (R : List (List Int)) (i j : Nat) : Int := (R.getD i []).getD j 0
def rgtN (R : List (List Int)) (u : List Int) (i : Nat) : Nat → Int
  | 0 => at2 R i i - u.getD i 0
  | j + 1 => if j = i then rgtN R u i j else rgtN R u i j + (at2 R j i - at2 R i j)
def rgt (w : Wal) (i : Nat) : Int := rgtN w.rights w.used i w.sites.length
def bC (x : Int) : Bool := decide (x < 0 ∨ 1000000000 < x)
def formB (n : Nat) (l : List Int) : Bool := decide (l.length ≠ n)
def rgtE (w : Wal) (i : Nat) : Int := if rgt w i < 0 then 16 else 0
structure WOk (w : Wal) : Prop where
  n1 : w.sites.length ≤ 12
  r : w.rights.length = w.sites.length
  u : w.used.length = w.sites.length
  rr : ∀ l ∈ w.rights, l.length = w.sites.length
  ru : ∀ x ∈ w.used, 0 ≤ x ∧ x ≤ 1000000000
  rx : ∀ l ∈ w.rights, ∀ x ∈ l, 0 ≤ x ∧ x ≤ 1000000000
/-- lengths alone -/
structure WBd (w : Wal) : Prop where
  n1 : w.sites.length ≤ 100
  r : w.rights.length ≤ 100
  u : w.used.length ≤ 100
  rr : ∀ l ∈ w.rights, l.length ≤ 100
theorem WOk.bd {w : Wal} (h : WOk w) : WBd w := ⟨by have := h.n1; omega, by have := h.n1; have := h.r; omega, by have := h.n1; have := h.u; omega, fun l hl => by have := h.n1; have := h.rr l hl; omega⟩
theorem flat_bd {L : List (List Int)} {n m : Nat} (h : ∀ l ∈ L, l.length ≤ m) (hn : L.length ≤ n) : L.flatten.length ≤ n * m := by
  induction L generalizing n with
  | nil => simp
  | cons l L ih =>
    cases n with
    | zero => simp at hn
    | succ n =>
      have h1 := h l (List.mem_cons_self ..)
      have h2 := ih (fun l hl => h l (List.mem_cons_of_mem _ hl)) (by simpa using hn)
      rw [List.flatten_cons, List.length_append, Nat.succ_mul]
      omega
theorem bC_ok {l : List Int} (h : l.any bC = false) : ∀ x ∈ l, 0 ≤ x ∧ x ≤ 1000000000 := by
  intro x hx
  have : bC x = false := by
    cases h2 : bC x
    · rfl
    · rw [List.any_eq_true.2 ⟨x, hx, h2⟩] at h; cases h
  simp [bC] at this
  omega
theorem formB_ok {n : Nat} {L : List (List Int)} (h : L.any (formB n) = false) : ∀ l ∈ L, l.length = n := by
  intro x hx
  have : formB n x = false := by
    cases h2 : formB n x
    · rfl
    · rw [List.any_eq_true.2 ⟨x, hx, h2⟩] at h; cases h
  simpa [formB] using this
theorem WOk.at2 {w : Wal} (h : WOk w) {i j : Nat} (hi : i < w.sites.length) (hj : j < w.sites.length) : ∃ l x, w.rights[i]? = some l ∧ l[j]? = some x ∧ at2 w.rights i j = x ∧ 0 ≤ x ∧ x ≤ 1000000000 := by
  have hr := h.r
  have e1 : w.rights[i]? = some (w.rights[i]) := List.getElem?_eq_getElem (by omega)
  have hl := h.rr _ (List.getElem_mem (show i < w.rights.length by omega))
  have e2 : (w.rights[i])[j]? = some ((w.rights[i])[j]) := List.getElem?_eq_getElem (by omega)
  refine ⟨_, _, e1, e2, ?_, h.rx _ (List.getElem_mem _) _ (List.getElem_mem _)⟩
  unfold Lg.at2
  have e3 : w.rights.getD i [] = w.rights[i] := by rw [List.getD_eq_getElem?_getD, e1, Option.getD_some]
  rw [e3, List.getD_eq_getElem?_getD, e2, Option.getD_some]
theorem WOk.us {w : Wal} (h : WOk w) {i : Nat} (hi : i < w.sites.length) : ∃ x, w.used[i]? = some x ∧ w.used.getD i 0 = x ∧ 0 ≤ x ∧ x ≤ 1000000000 := by
  have hr := h.u
  have e1 : w.used[i]? = some (w.used[i]) := List.getElem?_eq_getElem (by omega)
  exact ⟨_, e1, by rw [List.getD_eq_getElem?_getD, e1, Option.getD_some], h.ru _ (List.getElem_mem _)⟩
theorem rgtN_bd {w : Wal} (h : WOk w) {i : Nat} (hi : i < w.sites.length) : ∀ j, j ≤ w.sites.length → -(1000000000 * ((j : Int) + 1)) ≤ rgtN w.rights w.used i j ∧ rgtN w.rights w.used i j ≤ 1000000000 * ((j : Int) + 1)
  | 0, _ => by
    obtain ⟨_, x, _, _, e, h1, h2⟩ := h.at2 hi hi
    obtain ⟨y, _, e2, h3, h4⟩ := h.us hi
    unfold rgtN
    rw [e, e2]
    omega
  | j + 1, hj => by
    have ih := rgtN_bd h hi j (by omega)
    obtain ⟨_, x, _, _, e, h1, h2⟩ := h.at2 hi (show j < w.sites.length by omega)
    obtain ⟨_, y, _, _, e2, h3, h4⟩ := h.at2 (show j < w.sites.length by omega) hi
    unfold rgtN
    split
    · omega
    · rw [e, e2]
      omega
/-! ### an owned slice of owned slices of numbers -/
structure IL where
  ad : Option Addr
  cap : Nat
  xs : List Int
def IL.val (p : IL) : Value := .slice p.ad (intRows p.xs).length p.cap
def IL.own (E : TypeId) (p : IL) : Chunk := Chunk.own p.ad p.cap 1 E (intRows p.xs)
def IL.in1 (p : IL) : Unit × In1 := ((), ⟨p.ad, p.cap, intRows p.xs⟩)
def rowsW (L : List IL) : List (List Tr) := L.map fun p => [Tr.raw p.val]
def ownsW (E : TypeId) (L : List IL) : List Chunk := L.map (IL.own E)
def valsW (L : List IL) : List (List Int) := L.map IL.xs
theorem rowsW_len (L : List IL) : (rowsW L).length = L.length := by simp [rowsW]
theorem valsW_len (L : List IL) : (valsW L).length = L.length := by simp [valsW]
theorem rowsW_snoc (L : List IL) (p : IL) : rowsW L ++ [[Tr.raw p.val]] = rowsW (L ++ [p]) := by simp [rowsW]
theorem ownsW_snoc (E : TypeId) (L : List IL) (p : IL) : ownsW E L ++ [p.own E] = ownsW E (L ++ [p]) := by simp [ownsW]
theorem valsW_snoc (L : List IL) (p : IL) : valsW (L ++ [p]) = valsW L ++ [p.xs] := by simp [valsW]
theorem rowsW_get {L : List IL} {k : Nat} {p : IL} (h : L[k]? = some p) : (rowsW L)[k]? = some [Tr.raw p.val] := by simp [rowsW, h]
theorem valsW_get {L : List IL} {k : Nat} {p : IL} (h : L[k]? = some p) : (valsW L)[k]? = some p.xs := by simp [valsW, h]
theorem ent_nestW {Γ : Ctx} {env : Env} {cs cf cf' : List Chunk} {E E2 : TypeId} {L : List IL} {ad : Option Addr} {cap : Nat} (h1 : cs.Perm (Chunk.own ad cap 1 E (rowsW L) :: cf')) (h2 : cf'.Perm (Chunk.bun (ownsW E2 L) :: cf)) : Ent Γ env cs env (Chunk.own ad cap 1 E (intsR (valsW L)) :: cf) := by
  have e : intsR (valsW L) = (L.map IL.in1).map fun p => (fun _ => []) p.1 ++ Tr.sl 1 p.2.rows :: (fun _ => []) p.1 := by simp [intsR, valsW, IL.in1, Tr.ints]
  rw [e]
  exact Ent.settle_nest (fun _ => []) (fun _ => []) (E2 := E2) h1 h2 (by simp [rowsW, IL.in1, In1.val, IL.val]) (by simp [ownsW, IL.in1, In1.own, IL.own])
theorem split_at' {L : List IL} {i : Nat} {p : IL} (h : L[i]? = some p) : L = L.take i ++ p :: L.drop (i + 1) := by
  have hi := (List.getElem?_eq_some_iff.1 h)
  obtain ⟨hlt, e⟩ := hi
  rw [← e]
  simp
def restW (E : TypeId) (L : List IL) (i : Nat) : Chunk := Chunk.bun (ownsW E (L.take i) ++ ownsW E (L.drop (i + 1)))
theorem ent_pullW {Γ : Ctx} {env : Env} {cs cf : List Chunk} {E : TypeId} {L : List IL} {i : Nat} {p : IL} (h : L[i]? = some p) (hp : cs.Perm (Chunk.bun (ownsW E L) :: cf)) : Ent Γ env cs env (Chunk.own p.ad p.cap 1 E (intRows p.xs) :: restW E L i :: cf) := by
  have e : ownsW E L = ownsW E (L.take i) ++ p.own E :: ownsW E (L.drop (i + 1)) := by
    conv => lhs; rw [split_at' h]
    simp [ownsW]
  rw [e] at hp
  exact Ent.pull hp
theorem set_split {L : List IL} {i : Nat} {p q : IL} (h : L[i]? = some p) : L.set i q = L.take i ++ q :: L.drop (i + 1) := by
  rw [List.set_eq_take_append_cons_drop, if_pos (List.getElem?_eq_some_iff.1 h).1]
theorem ent_putW {Γ : Ctx} {env : Env} {cs cf cf' : List Chunk} {E : TypeId} {L : List IL} {i : Nat} {p q : IL} (h : L[i]? = some p) (h1 : cs.Perm (Chunk.own q.ad q.cap 1 E (intRows q.xs) :: cf')) (h2 : cf'.Perm (restW E L i :: cf)) : Ent Γ env cs env (Chunk.bun (ownsW E (L.set i q)) :: cf) := by
  have e : ownsW E (L.set i q) = ownsW E (L.take i) ++ q.own E :: ownsW E (L.drop (i + 1)) := by
    rw [set_split h]
    simp [ownsW]
  rw [e]
  exact Ent.putb h1 h2
theorem rowsW_set {L : List IL} {i : Nat} {p q : IL} (h : L[i]? = some p) (hv : q.val = p.val) : rowsW (L.set i q) = rowsW L := by
  unfold rowsW
  rw [List.map_set, hv]
  refine List.ext_getElem? fun k => ?_
  rw [List.getElem?_set]
  by_cases e : i = k
  · subst e
    have := (List.getElem?_eq_some_iff.1 h).1
    rw [if_pos rfl, if_pos (by simpa using this), List.getElem?_map, h, Option.map_some]
  · simp [e]
theorem valsW_set (L : List IL) (i : Nat) (q : IL) : valsW (L.set i q) = (valsW L).set i q.xs := by unfold valsW; rw [List.map_set]
end Lg
set_option linter.all false
set_option maxRecDepth 100000
set_option maxHeartbeats 4000000
namespace Lg
open Go Go.Proofs
def strLe (a b : ByteArray) : Bool := strLt a b || decide (a = b)
def prevB {α : Type} (p : α → α → Bool) (l : List α) : Nat → α → Bool
  | 0, _ => false
  | j + 1, x => match l[j]? with
    | none => false
    | some y => p x y
theorem idxFrom_find {α : Type} (p : α → Bool) : ∀ (l : List α) (k : Int), (l.find? p = none → idxFrom p l k = -1) ∧ (∀ x, l.find? p = some x → ∃ j : Nat, idxFrom p l k = k + j ∧ l[j]? = some x)
  | [], k => ⟨fun _ => rfl, fun x h => by simp at h⟩
  | y :: l, k => by
    obtain ⟨h1, h2⟩ := idxFrom_find p l (k + 1)
    unfold idxFrom
    by_cases hp : p y = true
    · rw [if_pos hp, List.find?_cons_of_pos hp]
      exact ⟨fun h => (by cases h), fun x h => ⟨0, by omega, by simpa using h⟩⟩
    · rw [if_neg hp, List.find?_cons_of_neg hp]
      refine ⟨h1, fun x hx => ?_⟩
      obtain ⟨j, h3, h4⟩ := h2 x hx
      exact ⟨j + 1, by omega, by simpa using h4⟩
end Lg
set_option linter.all false
set_option maxRecDepth 100000
set_option maxHeartbeats 2000000
namespace Lg
open Go Go.Proofs
def orI : List Int → Int
  | [] => 0
  | x :: l => if x ≠ 0 then x else orI l
theorem orI_cons (x : Int) (l : List Int) : orI (x :: l) = if x ≠ 0 then x else orI l := rfl
theorem cmpOr_fn (l : List Int) (hl : l.length ≤ 1000) : PFn Tryd.prog 60 [.ints l] (· = .int (orI l)) := by
  refine PFn.mk (Spec.body Tryd.func60 rfl rfl (Tryd.ntmps60) rfl fun w0 own0 M => ?_)
  have hL := intRows_len l
  repeat' (first | refine Ops.nil ?_ | refine Then.norm ?_ | refine Cw.seq ?_ | refine Cw.region ?_ | refine Cw.block ?_ | refine Cw.exit ?_ | refine Cw.skip ?_ | refine Cw.ret ?_ | refine Then.exit ?_ | refine Then.ret ?_ | refine InB.exit ?_ | refine InB.norm ?_ | refine InB.ret ?_ | refine InB.exit_ne rfl ?_ | (refine Ops.k_move ?_; first | refine Ops.move rfl rfl ?_ | refine Ops.move_any rfl ?_) | (refine Ops.k_assign ?_; first | refine Ops.assign rfl rfl ?_ | refine Ops.assign_any rfl ?_) | (refine Ops.k_load ?_; first | refine Ops.load_ref_one rfl rfl ?_ | refine Ops.load_ref_agg rfl rfl rfl ?_ | refine Ops.load_box_one rfl goPk rfl rfl ?_ | refine Ops.load_box_agg rfl goPk rfl rfl ?_ | refine Ops.load_own_one rfl goPk (by first | rfl | assumption | (simp [*]; done)) rfl rfl ?_ | refine Ops.load_own_agg rfl goPk (by first | rfl | assumption | (simp [*]; done)) rfl ?_ | refine Ops.load_box_part rfl goPk rfl rfl rfl ?_ | refine Ops.load_q_one rfl goPk (by first | rfl | assumption | (simp [*]; done)) rfl rfl ?_) | (refine Ops.k_c_len ?_; first | refine Ops.len_raw rfl rfl ?_ | refine Ops.len_sl rfl rfl ?_ | refine Ops.len_str rfl rfl rfl ?_ | refine Ops.len_q rfl rfl ?_) | (refine Ops.k_b_lss ?_; first | refine Ops.lss rfl rfl rfl ?_) | (refine Ops.k_b_neq ?_; first | refine Ops.neq rfl rfl rfl ?_) | (refine Ops.k_b_add ?_; first | refine Ops.add rfl rfl (by first | omega | (simp; done) | (simp; omega)) rfl ?_) | (refine Ops.k_indexAddr ?_; first | refine Ops.indexAddr_sl rfl rfl (by omega) (by first | rfl | assumption | (simp [*]; done)) rfl ?_ | refine Ops.indexAddr_own rfl rfl goPk (by first | rfl | omega | (simp; done) | (simp; omega)) (by first | omega | (simp; done) | (simp; omega)) (by first | omega | (simp; done) | (simp; omega)) rfl ?_ | refine Ops.indexAddr_q rfl rfl goPk (by first | rfl | omega | (simp; done) | (simp; omega)) (by first | omega | (simp; done) | (simp; omega)) (by first | omega | (simp; done) | (simp; omega)) rfl ?_) | (refine Cw.k_cond ?_; first | refine Cw.cond_true rfl ?_ | refine Cw.cond_false rfl ?_ | (refine Cw.cond_dec rfl (fun hc => ?_) (fun hc => ?_) <;> try (exfalso; omega)) | refine Cw.cond_bool rfl (fun hc => ?_) (fun hc => ?_)))
  refine Cw.loop (ι := Nat) (fun k => k ≤ l.length ∧ orI (l.drop k) = orI l) (fun k => [(3, .int 0), (6, .ints l), (7, .int (intRows l).length), (8, .int k)]) (fun _ => []) (fun k => l.length - k) ⟨0, ⟨by omega, rfl⟩, (Ent.mk goSub goTk)⟩ ?_
  rintro k ⟨hk, h1⟩
  by_cases hkl : k < l.length
  · obtain ⟨x, hx⟩ := at_lt hkl
    have hrow := intRows_at hx
    rw [drop_at hx, orI_cons] at h1
    by_cases hz : x = 0
    · rw [if_neg (by omega)] at h1
      repeat' (first | refine Ops.nil ?_ | refine Then.norm ?_ | refine Cw.seq ?_ | refine Cw.region ?_ | refine Cw.block ?_ | refine Cw.exit ?_ | refine Cw.skip ?_ | refine Cw.ret ?_ | refine Then.exit ?_ | refine Then.ret ?_ | refine InB.exit ?_ | refine InB.norm ?_ | refine InB.ret ?_ | refine InB.exit_ne rfl ?_ | (refine Ops.k_move ?_; first | refine Ops.move rfl rfl ?_ | refine Ops.move_any rfl ?_) | (refine Ops.k_assign ?_; first | refine Ops.assign rfl rfl ?_ | refine Ops.assign_any rfl ?_) | (refine Ops.k_load ?_; first | refine Ops.load_ref_one rfl rfl ?_ | refine Ops.load_ref_agg rfl rfl rfl ?_ | refine Ops.load_box_one rfl goPk rfl rfl ?_ | refine Ops.load_box_agg rfl goPk rfl rfl ?_ | refine Ops.load_own_one rfl goPk (by first | rfl | assumption | (simp [*]; done)) rfl rfl ?_ | refine Ops.load_own_agg rfl goPk (by first | rfl | assumption | (simp [*]; done)) rfl ?_ | refine Ops.load_box_part rfl goPk rfl rfl rfl ?_ | refine Ops.load_q_one rfl goPk (by first | rfl | assumption | (simp [*]; done)) rfl rfl ?_) | (refine Ops.k_c_len ?_; first | refine Ops.len_raw rfl rfl ?_ | refine Ops.len_sl rfl rfl ?_ | refine Ops.len_str rfl rfl rfl ?_ | refine Ops.len_q rfl rfl ?_) | (refine Ops.k_b_lss ?_; first | refine Ops.lss rfl rfl rfl ?_) | (refine Ops.k_b_neq ?_; first | refine Ops.neq rfl rfl rfl ?_) | (refine Ops.k_b_add ?_; first | refine Ops.add rfl rfl (by first | omega | (simp; done) | (simp; omega)) rfl ?_) | (refine Ops.k_indexAddr ?_; first | refine Ops.indexAddr_sl rfl rfl (by omega) (by first | rfl | assumption | (simp [*]; done)) rfl ?_ | refine Ops.indexAddr_own rfl rfl goPk (by first | rfl | omega | (simp; done) | (simp; omega)) (by first | omega | (simp; done) | (simp; omega)) (by first | omega | (simp; done) | (simp; omega)) rfl ?_ | refine Ops.indexAddr_q rfl rfl goPk (by first | rfl | omega | (simp; done) | (simp; omega)) (by first | omega | (simp; done) | (simp; omega)) (by first | omega | (simp; done) | (simp; omega)) rfl ?_) | (refine Cw.k_cond ?_; first | refine Cw.cond_true rfl ?_ | refine Cw.cond_false rfl ?_ | (refine Cw.cond_dec rfl (fun hc => ?_) (fun hc => ?_) <;> try (exfalso; omega)) | refine Cw.cond_bool rfl (fun hc => ?_) (fun hc => ?_)))
      exact ⟨k + 1, ⟨by omega, h1⟩, by omega, (Ent.mk goSub goTk)⟩
    · rw [if_pos hz] at h1
      repeat' (first | refine Ops.nil ?_ | refine Then.norm ?_ | refine Cw.seq ?_ | refine Cw.region ?_ | refine Cw.block ?_ | refine Cw.exit ?_ | refine Cw.skip ?_ | refine Cw.ret ?_ | refine Then.exit ?_ | refine Then.ret ?_ | refine InB.exit ?_ | refine InB.norm ?_ | refine InB.ret ?_ | refine InB.exit_ne rfl ?_ | (refine Ops.k_move ?_; first | refine Ops.move rfl rfl ?_ | refine Ops.move_any rfl ?_) | (refine Ops.k_assign ?_; first | refine Ops.assign rfl rfl ?_ | refine Ops.assign_any rfl ?_) | (refine Ops.k_load ?_; first | refine Ops.load_ref_one rfl rfl ?_ | refine Ops.load_ref_agg rfl rfl rfl ?_ | refine Ops.load_box_one rfl goPk rfl rfl ?_ | refine Ops.load_box_agg rfl goPk rfl rfl ?_ | refine Ops.load_own_one rfl goPk (by first | rfl | assumption | (simp [*]; done)) rfl rfl ?_ | refine Ops.load_own_agg rfl goPk (by first | rfl | assumption | (simp [*]; done)) rfl ?_ | refine Ops.load_box_part rfl goPk rfl rfl rfl ?_ | refine Ops.load_q_one rfl goPk (by first | rfl | assumption | (simp [*]; done)) rfl rfl ?_) | (refine Ops.k_c_len ?_; first | refine Ops.len_raw rfl rfl ?_ | refine Ops.len_sl rfl rfl ?_ | refine Ops.len_str rfl rfl rfl ?_ | refine Ops.len_q rfl rfl ?_) | (refine Ops.k_b_lss ?_; first | refine Ops.lss rfl rfl rfl ?_) | (refine Ops.k_b_neq ?_; first | refine Ops.neq rfl rfl rfl ?_) | (refine Ops.k_b_add ?_; first | refine Ops.add rfl rfl (by first | omega | (simp; done) | (simp; omega)) rfl ?_) | (refine Ops.k_indexAddr ?_; first | refine Ops.indexAddr_sl rfl rfl (by omega) (by first | rfl | assumption | (simp [*]; done)) rfl ?_ | refine Ops.indexAddr_own rfl rfl goPk (by first | rfl | omega | (simp; done) | (simp; omega)) (by first | omega | (simp; done) | (simp; omega)) (by first | omega | (simp; done) | (simp; omega)) rfl ?_ | refine Ops.indexAddr_q rfl rfl goPk (by first | rfl | omega | (simp; done) | (simp; omega)) (by first | omega | (simp; done) | (simp; omega)) (by first | omega | (simp; done) | (simp; omega)) rfl ?_) | (refine Cw.k_cond ?_; first | refine Cw.cond_true rfl ?_ | refine Cw.cond_false rfl ?_ | (refine Cw.cond_dec rfl (fun hc => ?_) (fun hc => ?_) <;> try (exfalso; omega)) | refine Cw.cond_bool rfl (fun hc => ?_) (fun hc => ?_)))
      exact Fin.ret Ent.refl (Outs.one rfl rfl) ⟨rfl, congrArg Tr.int h1⟩
  · rw [List.drop_eq_nil_of_le (by omega), orI] at h1
    repeat' (first | refine Ops.nil ?_ | refine Then.norm ?_ | refine Cw.seq ?_ | refine Cw.region ?_ | refine Cw.block ?_ | refine Cw.exit ?_ | refine Cw.skip ?_ | refine Cw.ret ?_ | refine Then.exit ?_ | refine Then.ret ?_ | refine InB.exit ?_ | refine InB.norm ?_ | refine InB.ret ?_ | refine InB.exit_ne rfl ?_ | (refine Ops.k_move ?_; first | refine Ops.move rfl rfl ?_ | refine Ops.move_any rfl ?_) | (refine Ops.k_assign ?_; first | refine Ops.assign rfl rfl ?_ | refine Ops.assign_any rfl ?_) | (refine Ops.k_load ?_; first | refine Ops.load_ref_one rfl rfl ?_ | refine Ops.load_ref_agg rfl rfl rfl ?_ | refine Ops.load_box_one rfl goPk rfl rfl ?_ | refine Ops.load_box_agg rfl goPk rfl rfl ?_ | refine Ops.load_own_one rfl goPk (by first | rfl | assumption | (simp [*]; done)) rfl rfl ?_ | refine Ops.load_own_agg rfl goPk (by first | rfl | assumption | (simp [*]; done)) rfl ?_ | refine Ops.load_box_part rfl goPk rfl rfl rfl ?_ | refine Ops.load_q_one rfl goPk (by first | rfl | assumption | (simp [*]; done)) rfl rfl ?_) | (refine Ops.k_c_len ?_; first | refine Ops.len_raw rfl rfl ?_ | refine Ops.len_sl rfl rfl ?_ | refine Ops.len_str rfl rfl rfl ?_ | refine Ops.len_q rfl rfl ?_) | (refine Ops.k_b_lss ?_; first | refine Ops.lss rfl rfl rfl ?_) | (refine Ops.k_b_neq ?_; first | refine Ops.neq rfl rfl rfl ?_) | (refine Ops.k_b_add ?_; first | refine Ops.add rfl rfl (by first | omega | (simp; done) | (simp; omega)) rfl ?_) | (refine Ops.k_indexAddr ?_; first | refine Ops.indexAddr_sl rfl rfl (by omega) (by first | rfl | assumption | (simp [*]; done)) rfl ?_ | refine Ops.indexAddr_own rfl rfl goPk (by first | rfl | omega | (simp; done) | (simp; omega)) (by first | omega | (simp; done) | (simp; omega)) (by first | omega | (simp; done) | (simp; omega)) rfl ?_ | refine Ops.indexAddr_q rfl rfl goPk (by first | rfl | omega | (simp; done) | (simp; omega)) (by first | omega | (simp; done) | (simp; omega)) (by first | omega | (simp; done) | (simp; omega)) rfl ?_) | (refine Cw.k_cond ?_; first | refine Cw.cond_true rfl ?_ | refine Cw.cond_false rfl ?_ | (refine Cw.cond_dec rfl (fun hc => ?_) (fun hc => ?_) <;> try (exfalso; omega)) | refine Cw.cond_bool rfl (fun hc => ?_) (fun hc => ?_)))
    exact Fin.ret Ent.refl (Outs.one rfl rfl) ⟨rfl, congrArg Tr.int h1⟩
end Lg
