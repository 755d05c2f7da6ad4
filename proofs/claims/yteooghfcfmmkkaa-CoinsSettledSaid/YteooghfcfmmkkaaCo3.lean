/- A part of the proof of a law of this seat: it adds no condition. By an AI agent. -/
import Derived.Test.YteooghfcfmmkkaaLgOrd
import Derived.Test.YteooghfcfmmkkaaStl
section
set_option linter.all false
set_option maxRecDepth 100000
set_option maxHeartbeats 1000000
namespace Lg
open Go

/-- neighbours that are the same, once -/
def dd {α : Type} [DecidableEq α] : List α → List α
  | [] => []
  | [a] => [a]
  | a :: b :: l => if a = b then dd (b :: l) else a :: dd (b :: l)
theorem dd_mem {α : Type} [DecidableEq α] : ∀ (l : List α) (x : α), x ∈ dd l ↔ x ∈ l
  | [], x => Iff.rfl
  | [a], x => Iff.rfl
  | a :: b :: l, x => by
    have ih := dd_mem (b :: l) x
    unfold dd
    split
    · rename_i h
      subst h
      rw [ih]
      simp
    · rw [List.mem_cons, List.mem_cons, ih]
theorem dd_head {α : Type} [DecidableEq α] : ∀ (a : α) (l : List α), ∃ r, dd (a :: l) = a :: r
  | a, [] => ⟨[], rfl⟩
  | a, b :: l => by
    unfold dd
    split
    · rename_i h
      subst h
      exact dd_head a l
    · exact ⟨_, rfl⟩
theorem dd_sorted {α : Type} [DecidableEq α] {le : α → α → Prop} (ha : ∀ a b, le a b → le b a → a = b) : ∀ (l : List α), l.Pairwise le → (dd l).Pairwise fun a b => le a b ∧ a ≠ b
  | [], _ => List.Pairwise.nil
  | [a], _ => by unfold dd; exact List.pairwise_singleton _ _
  | a :: b :: l, h => by
    have hh := List.pairwise_cons.1 h
    have ih := dd_sorted ha (b :: l) hh.2
    unfold dd
    split
    · exact ih
    · rename_i hne
      refine List.pairwise_cons.2 ⟨fun y hy => ?_, ih⟩
      have hy2 : y ∈ b :: l := (dd_mem _ _).1 hy
      refine ⟨hh.1 y hy2, fun e => ?_⟩
      subst e
      rcases List.mem_cons.1 hy2 with h2 | h2
      · exact hne h2
      · have h3 := (List.pairwise_cons.1 hh.2).1 a h2
        exact hne (ha a b (hh.1 b (by simp)) h3)
/-- strictly sorted lists of the same members are the same -/
theorem strict_uniq {α : Type} {lt : α → α → Prop} (hi : ∀ a, ¬ lt a a) (ht : ∀ a b c, lt a b → lt b c → lt a c) {l1 l2 : List α} (h1 : l1.Pairwise lt) (h2 : l2.Pairwise lt) (hm : ∀ x, x ∈ l1 ↔ x ∈ l2) : l1 = l2 := by
  have n1 : l1.Nodup := List.Pairwise.imp (fun {a b} (h : lt a b) (e : a = b) => hi b (e ▸ h)) h1
  have n2 : l2.Nodup := List.Pairwise.imp (fun {a b} (h : lt a b) (e : a = b) => hi b (e ▸ h)) h2
  have hp : l1.Perm l2 := (List.perm_ext_iff_of_nodup n1 n2).2 hm
  exact sorted_uniq (le := lt) hp (fun a _ b _ h3 h4 => absurd (ht a b a h3 h4) (hi a)) h1 h2
theorem dd_sub {α : Type} [DecidableEq α] : ∀ l : List α, (dd l).Sublist l
  | [] => List.Sublist.refl _
  | [a] => List.Sublist.refl _
  | a :: b :: l => by
    have ih := dd_sub (b :: l)
    unfold dd
    split
    · exact ih.trans (List.sublist_cons_self _ _)
    · exact ih.cons₂ _
end Lg
end
section
set_option linter.all false
set_option maxRecDepth 100000
set_option maxHeartbeats 1000000
namespace Lg
open Go Go.Proofs

/-! ### CoinsSettled in plain terms -/
structure Dbt where
  p : Int
  v : Int
deriving DecidableEq
def Dbt.lt (a b : Dbt) : Prop := a.p < b.p ∨ (a.p = b.p ∧ a.v < b.v)
def isD (can : Nat → Bool) (p v : Int) : Bool := decide (p < v) && !can (v - p).toNat
def prs (can : Nat → Bool) (ps ts : List Int) : List Dbt := ps.flatMap fun p => (ts.filter (isD can p)).map fun v => ⟨p, v⟩
theorem prs_mem {can : Nat → Bool} {ps ts : List Int} {x : Dbt} : x ∈ prs can ps ts ↔ x.p ∈ ps ∧ x.v ∈ ts ∧ isD can x.p x.v = true := by
  unfold prs
  rw [List.mem_flatMap]
  constructor
  · rintro ⟨p, hp, h⟩
    obtain ⟨v, hv, rfl⟩ := List.mem_map.1 h
    rw [List.mem_filter] at hv
    exact ⟨hp, hv.1, hv.2⟩
  · rintro ⟨h1, h2, h3⟩
    exact ⟨x.p, h1, List.mem_map.2 ⟨x.v, List.mem_filter.2 ⟨h2, h3⟩, rfl⟩⟩
theorem prs_sorted {can : Nat → Bool} {ps ts : List Int} (h1 : ps.Pairwise (· < ·)) (h2 : ts.Pairwise (· < ·)) : (prs can ps ts).Pairwise Dbt.lt := by
  unfold prs
  rw [List.pairwise_flatMap]
  refine ⟨fun p _ => ?_, h1.imp fun {a b} hab x hx y hy => ?_⟩
  · rw [List.pairwise_map]
    exact (h2.filter _).imp fun h => .inr ⟨rfl, h⟩
  · obtain ⟨v, _, rfl⟩ := List.mem_map.1 hx
    obtain ⟨w, _, rfl⟩ := List.mem_map.1 hy
    exact .inl hab
theorem Dbt.lt_irrefl (a : Dbt) : ¬ a.lt a := by unfold Dbt.lt; omega
theorem Dbt.lt_trans (a b c : Dbt) (h1 : a.lt b) (h2 : b.lt c) : a.lt c := by unfold Dbt.lt at *; omega
/-- sorted and put together first, or last -/
theorem doubts_eq {can : Nat → Bool} {ps ts P T : List Int} (hp : P.Perm ps) (ht : T.Perm ts) (sp : P.Pairwise (· ≤ ·)) (st : T.Pairwise (· ≤ ·)) {L : List Dbt} (hl : L.Perm (prs can ps ts)) (sl : L.Pairwise fun a b => ¬ b.lt a) :
    prs can (dd P) (dd T) = dd L := by
  have e1 := dd_sorted (le := fun a b : Int => a ≤ b) (fun a b h1 h2 => Int.le_antisymm h1 h2) P sp
  have e2 := dd_sorted (le := fun a b : Int => a ≤ b) (fun a b h1 h2 => Int.le_antisymm h1 h2) T st
  have e3 := dd_sorted (le := fun a b : Dbt => ¬ b.lt a) (fun a b h1 h2 => by
    obtain ⟨p, v⟩ := a
    obtain ⟨q, w⟩ := b
    unfold Dbt.lt at h1 h2
    simp only at h1 h2
    have h3 : p = q := by omega
    have h4 : v = w := by omega
    rw [h3, h4]) L sl
  refine strict_uniq Dbt.lt_irrefl Dbt.lt_trans (prs_sorted (e1.imp fun h => ?_) (e2.imp fun h => ?_)) (e3.imp fun {a b} h => ?_) fun x => ?_
  · have := h.1; have := h.2; omega
  · have := h.1; have := h.2; omega
  · obtain ⟨p, v⟩ := a
    obtain ⟨q, w⟩ := b
    obtain ⟨h1, h2⟩ := h
    unfold Dbt.lt at h1 ⊢
    simp only at h1 ⊢
    by_cases h3 : p = q
    · refine .inr ⟨h3, ?_⟩
      by_cases h4 : v = w
      · exact absurd (by rw [h3, h4]) h2
      · omega
    · exact .inl (by omega)
  · rw [prs_mem, dd_mem, dd_mem, dd_mem, hp.mem_iff, ht.mem_iff, hl.mem_iff, prs_mem]
/-! ### settling -/
def setN (t : Tube) (a : Int) : Int := min a (t.most - t.cnt)
def setT : List Tube → List Int → List Tube
  | t :: l, a :: bs => ⟨t.val, t.cnt + setN t a, t.most⟩ :: setT l bs
  | _, _ => []
def setO : List Tube → List Int → Int
  | t :: l, a :: bs => (a - setN t a) * t.val + setO l bs
  | _, _ => 0
/-! ### the float -/
abbrev FS := List Int × Int × Bool
def flStep (l : List Tube) (i : Nat) (st : FS) : FS := match l[i]? with
  | none => st
  | some t => if st.1.getD i 0 < t.most ∧ t.val ≤ st.2.1 then (st.1.set i (st.1.getD i 0 + 1), st.2.1 - t.val, true) else st
def flUp (l : List Tube) (st : FS) : Nat → FS
  | 0 => st
  | i + 1 => flStep l i (flUp l st i)
theorem getD_at {l : List Int} {i : Nat} {x : Int} (h : l[i]? = some x) : l.getD i 0 = x := by rw [List.getD_eq_getElem?_getD, h]; rfl
theorem flUp_yes {l : List Tube} {st : FS} {i : Nat} {o : List Int} {w : Int} {ch : Bool} {t : Tube} {x : Int} (h : flUp l st i = (o, w, ch)) (ht : l[i]? = some t) (hx : o[i]? = some x) (h1 : x < t.most) (h2 : t.val ≤ w) :
    flUp l st (i + 1) = (o.set i (x + 1), w - t.val, true) := by
  show flStep l i (flUp l st i) = _
  rw [h]
  unfold flStep
  rw [ht]
  simp only [getD_at hx]
  rw [if_pos ⟨h1, h2⟩]
theorem flUp_no {l : List Tube} {st : FS} {i : Nat} {o : List Int} {w : Int} {ch : Bool} {t : Tube} {x : Int} (h : flUp l st i = (o, w, ch)) (ht : l[i]? = some t) (hx : o[i]? = some x) (h1 : ¬ (x < t.most ∧ t.val ≤ w)) :
    flUp l st (i + 1) = (o, w, ch) := by
  show flStep l i (flUp l st i) = _
  rw [h]
  unfold flStep
  rw [ht]
  simp only [getD_at hx]
  rw [if_neg h1]
structure FlOk (l : List Tube) (o : List Int) (w : Int) : Prop where
  len : o.length = l.length
  w0 : 0 ≤ w
  bd : ∀ x ∈ o, 0 ≤ x ∧ x ≤ 1000
theorem flUp_ok {l : List Tube} (ho : TbOk l) {o : List Int} {w : Int} (hk : FlOk l o w) : ∀ i, i ≤ l.length → ∀ o2 w2 ch, flUp l (o, w, false) i = (o2, w2, ch) → FlOk l o2 w2 ∧ w2 ≤ w ∧ (ch = true → w2 < w)
  | 0, _, o2, w2, ch, h => by
    cases h
    exact ⟨hk, Int.le_refl _, fun h => nomatch h⟩
  | i + 1, hi, o2, w2, ch, h => by
    rcases hst : flUp l (o, w, false) i with ⟨o3, w3, c3⟩
    obtain ⟨k3, hw, hc⟩ := flUp_ok ho hk i (by omega) o3 w3 c3 hst
    obtain ⟨t, ht⟩ := at_lt (l := l) (k := i) (by omega)
    have hlen := k3.len
    obtain ⟨x, hx⟩ := at_lt (l := o3) (k := i) (by omega)
    have hv := ho.val t (List.mem_of_getElem? ht)
    have hm := ho.cnt t (List.mem_of_getElem? ht)
    have hb := k3.bd x (List.mem_of_getElem? hx)
    by_cases hh : x < t.most ∧ t.val ≤ w3
    · rw [flUp_yes hst ht hx hh.1 hh.2] at h
      cases h
      refine ⟨⟨by rw [List.length_set]; exact hlen, by omega, fun y hy => ?_⟩, by omega, fun _ => by omega⟩
      rcases List.mem_or_eq_of_mem_set hy with h2 | h2
      · exact k3.bd y h2
      · subst h2; omega
    · rw [flUp_no hst ht hx hh] at h
      cases h
      exact ⟨k3, hw, hc⟩
def flRun (l : List Tube) : Nat → List Int → Int → List Int
  | 0, o, _ => o
  | f + 1, o, w => match flUp l (o, w, false) l.length with
    | (o2, w2, true) => flRun l f o2 w2
    | (o2, _, false) => o2
theorem flRun_fuel {l : List Tube} (ho : TbOk l) : ∀ (f : Nat) (o : List Int) (w : Int), FlOk l o w → w < f → flRun l (f + 1) o w = flRun l f o w
  | 0, o, w, hk, h => absurd hk.w0 (by omega)
  | f + 1, o, w, hk, h => by
    rcases hst : flUp l (o, w, false) l.length with ⟨o2, w2, ch⟩
    obtain ⟨k2, hw, hc⟩ := flUp_ok ho hk _ (Nat.le_refl _) _ _ _ hst
    rw [flRun, flRun, hst]
    cases ch
    · rfl
    · exact flRun_fuel ho f o2 w2 k2 (by have := hc rfl; omega)
theorem flRun_more {l : List Tube} (ho : TbOk l) {f : Nat} {o : List Int} {w : Int} (hk : FlOk l o w) (h : w < f) : ∀ d, flRun l (f + d) o w = flRun l f o w
  | 0 => rfl
  | d + 1 => by rw [← Nat.add_assoc, flRun_fuel ho _ _ _ hk (by omega), flRun_more ho hk h d]
def flF (l : List Tube) (o : List Int) (w : Int) : List Int := flRun l (w.toNat + 1) o w
theorem flF_end {l : List Tube} {o o2 : List Int} {w w2 : Int} (h : flUp l (o, w, false) l.length = (o2, w2, false)) : flF l o w = o2 := by
  unfold flF
  rw [flRun, h]
theorem flF_next {l : List Tube} (ho : TbOk l) {o o2 : List Int} {w w2 : Int} (hk : FlOk l o w) (h : flUp l (o, w, false) l.length = (o2, w2, true)) : flF l o w = flF l o2 w2 := by
  obtain ⟨k2, hw, hc⟩ := flUp_ok ho hk _ (Nat.le_refl _) _ _ _ h
  have := hc rfl
  have := k2.w0
  unfold flF
  rw [flRun, h]
  simp only
  have h3 := flRun_more ho k2 (f := w2.toNat + 1) (by omega) (w.toNat - (w2.toNat + 1))
  rw [show w2.toNat + 1 + (w.toNat - (w2.toNat + 1)) = w.toNat by omega] at h3
  exact h3
/-- what the tubes hold is taken off, from the first to the k-th -/
def flT (l : List Tube) (o : List Int) : Nat → List Int
  | 0 => o
  | k + 1 => (flT l o k).set k ((flT l o k).getD k 0 - (match l[k]? with | none => 0 | some t => t.cnt))
theorem flT_len (l : List Tube) (o : List Int) : ∀ k, (flT l o k).length = o.length
  | 0 => rfl
  | k + 1 => by rw [flT, List.length_set, flT_len l o k]
theorem flT_at {l : List Tube} {o : List Int} : ∀ {k j : Nat}, k ≤ j → (flT l o k)[j]? = o[j]?
  | 0, j, _ => rfl
  | k + 1, j, h => by
    rw [flT, List.getElem?_set]
    rw [if_neg (by omega), flT_at (by omega)]
theorem flT_step {l : List Tube} {o : List Int} {k : Nat} {t : Tube} {x : Int} (ht : l[k]? = some t) (hx : o[k]? = some x) : flT l o (k + 1) = (flT l o k).set k (x - t.cnt) := by
  rw [flT, ht, getD_at ((flT_at (Nat.le_refl _)).trans hx)]
def floatR (l : List Tube) (w : Int) : List Int := flT l (flF l (List.replicate l.length 0) w) l.length
theorem flOk_0 (l : List Tube) {w : Int} (h : 0 ≤ w) : FlOk l (List.replicate l.length 0) w := ⟨List.length_replicate, h, fun x hx => by rw [List.eq_of_mem_replicate hx]; simp⟩
end Lg
end
section
set_option linter.all false
set_option maxRecDepth 100000
set_option maxHeartbeats 8000000
namespace Lg
open Go Go.Proofs

theorem stlStep_in {m c a : Int} {j : Nat} (h : c + min (j : Int) (m - c) < m) : c + min (j : Int) (m - c) + 1 = c + min ((j + 1 : Nat) : Int) (m - c) ∧ ((j + 1 : Nat) : Int) - min ((j + 1 : Nat) : Int) (m - c) = (j : Int) - min (j : Int) (m - c) := by omega
theorem stlStep_out {m c : Int} {j : Nat} (hc : c ≤ m) (h : ¬ c + min (j : Int) (m - c) < m) : c + min (j : Int) (m - c) = c + min ((j + 1 : Nat) : Int) (m - c) ∧ ((j + 1 : Nat) : Int) - min ((j + 1 : Nat) : Int) (m - c) = (j : Int) - min (j : Int) (m - c) + 1 := by omega
attribute [local irreducible] intRows
theorem settleOf_fn (T : List Tube) (A : List Int) (hl : T.length ≤ 10) (hA : A.length = T.length) (hT : ∀ d ∈ T, 1 ≤ d.val ∧ d.val ≤ 10000 ∧ 0 ≤ d.cnt ∧ d.cnt ≤ d.most ∧ d.most ≤ 1000) (hAb : ∀ a ∈ A, 0 ≤ a ∧ a ≤ 10000) :
    PFn Try.prog 14 [.tubes T, .ints A] (· = .tup [.tubes (stlT T A), .int (stlR T A)]) := by
  have kCl := clone_tube (T.map Tube.row) (by intro r hr; obtain ⟨d, _, rfl⟩ := List.mem_map.1 hr; rfl) (by rw [List.length_map]; omega)
  have hTr : (T.map Tube.row).length = T.length := List.length_map _
  have hAl : (intRows A).length = T.length := by rw [intRows_len, hA]
  refine PFn.mk (Spec.body Try.func14 rfl rfl (Try.ntmps14) rfl fun w0 own0 M => ?_)
  repeat' (first | refine goH ?_ | refine goV ?_ | refine goI ?_ | (refine Cw.k_cond ?_; first | (refine Cw.cond_dec rfl (fun hc => ?_) (fun hc => ?_) <;> try (exfalso; omega)) | refine Cw.cond_bool rfl (fun hc => ?_) (fun hc => ?_)) | (refine Ops.k_calla ?_; first | (refine Ops.k_callf 36 ?_; (refine Ops.callO kCl (Evs.cons rfl Evs.nil) rfl ?_; rintro ad cap rows rfl))) | refine goR ?_ | refine goP ?_ | apply PSeq.cons | apply PSeq.yes rfl rfl rfl | exact goW | fail)
  rw [hTr]
  refine Cw.loopI [(6, _), (12, _), (13, _)] _ (fun q e cc => ∃ (k : Nat) (s : Int) (W : List Tube), q = T.length - k ∧ (k ≤ T.length ∧ W = stlW T A k ∧ s = stlR (T.take k) (A.take k) ∧ 0 ≤ s ∧ s ≤ 200000000 * (k : Int)) ∧ e = [(7, .int s), (14, .int k)] ∧ cc = [Chunk.own ad cap 3 46 (W.map Tube.row)])
    ⟨_, _, _, (Ent.mkP goSub goPm), 0, 0, T, rfl, ⟨by omega, (stlW_zero T A).symm, rfl, by omega, by omega⟩, rfl, rfl⟩ ?_
  rintro _ _ _ ⟨k, s, W, rfl, ⟨hk, hW, hs, hs1, hs2⟩, rfl, rfl⟩
  have hWl : W.length = T.length := by rw [hW]; exact stlW_len hA hk
  have hWr : (W.map Tube.row).length = T.length := by rw [List.length_map, hWl]
  by_cases hkl : k < T.length
  · obtain ⟨d, hd⟩ := at_lt hkl
    obtain ⟨a, ha⟩ := at_lt (l := A) (k := k) (by omega)
    obtain ⟨hw1, hw2⟩ := stlW_at hd ha
    rw [← hW] at hw1 hw2
    have hTd := hT d (List.mem_of_getElem? hd)
    have hAa := hAb a (List.mem_of_getElem? ha)
    have hrowA : (intRows A)[((k : Nat) : Int).toNat]? = some [.int a] := by rw [Int.toNat_natCast]; exact intRows_at ha
    have hsn := stlR_snoc hd ha
    rw [← hs] at hsn
    unfold stlO at hsn
    have hset : (W.map Tube.row).set k [.int d.val, .int (d.cnt + min a (d.most - d.cnt)), .int d.most] = (stlW T A (k + 1)).map Tube.row := by rw [← hw2, List.map_set]; rfl
    have hrow0 : (W.map Tube.row)[k]? = some [.int d.val, .int d.cnt, .int d.most] := rows_at hw1
    have hself : (W.map Tube.row) = (W.map Tube.row).set k [.int d.val, .int d.cnt, .int d.most] := by
      obtain ⟨hh, ee⟩ := List.getElem?_eq_some_iff.1 hrow0
      rw [← ee]
      exact (List.set_getElem_self hh).symm
    clear hT hAb hw1 hw2 hd ha hW hs hrow0
    obtain ⟨n, rfl⟩ : ∃ n : Nat, a = (n : Int) := ⟨a.toNat, by omega⟩
    generalize e9 : stlR (T.take (k + 1)) (A.take (k + 1)) = s9 at *
    generalize eW : (stlW T A (k + 1)) = W9 at *
    generalize W.map Tube.row = R at *
    repeat' (first | refine goH ?_ | refine goV ?_ | refine goI ?_ | (refine Cw.k_cond ?_; first | (refine Cw.cond_dec rfl (fun hc => ?_) (fun hc => ?_) <;> try (exfalso; omega)) | refine Cw.cond_bool rfl (fun hc => ?_) (fun hc => ?_)) | refine goR ?_ | refine goP ?_ | apply PSeq.cons | apply PSeq.yes rfl rfl rfl | exact goW | fail)
    refine Cw.loopI [(6, _), (8, _), (12, _), (13, _), (14, _), (19, _)] _ (fun q e cc => ∃ (j : Nat) (c u z : Int), q = n - j ∧ (j ≤ n ∧ c = d.cnt + min (j : Int) (d.most - d.cnt) ∧ u = (j : Int) - min (j : Int) (d.most - d.cnt) ∧ z = s + u * d.val) ∧ e = [(7, .int z), (20, .int j)] ∧ cc = [Chunk.own ad cap 3 46 (R.set k [.int d.val, .int c, .int d.most])])
      ⟨_, _, _, (Ent.mkP goSub goPm), 0, d.cnt, 0, s, rfl, ⟨by omega, by omega, by omega, by omega⟩, rfl, by rw [← hself]⟩ ?_
    rintro _ _ _ ⟨j, c, u, z, rfl, ⟨hj, hc, hu, hz⟩, rfl, rfl⟩
    have hR9 : (R.set k [Tr.int d.val, Tr.int c, Tr.int d.most]).length = T.length := by rw [List.length_set]; exact hWr
    have hpr := mulBd (a := u) (b := d.val) (A := 10000) (B := 10000) (by omega) (by omega)
    by_cases hjn : j < n
    · have hrow : (R.set k [Tr.int d.val, Tr.int c, Tr.int d.most])[((k : Nat) : Int).toNat]? = some [.int d.val, .int c, .int d.most] := by
        rw [Int.toNat_natCast, List.getElem?_set_self (by rw [hWr]; exact hkl)]
      by_cases hcm : c < d.most
      · obtain ⟨x1, x2⟩ := stlStep_in (a := 0) (m := d.most) (c := d.cnt) (j := j) (by omega)
        have e1 : (R.set k [Tr.int d.val, Tr.int c, Tr.int d.most]).set ((k : Nat) : Int).toNat ([Tr.int d.val, Tr.int c, Tr.int d.most].set (0 + 1) (Tr.int (c + 1))) = R.set k [Tr.int d.val, Tr.int (c + 1), Tr.int d.most] := by rw [Int.toNat_natCast, List.set_set]; rfl
        repeat' (first | refine goH ?_ | (refine Ops.k_store ?_; first | (refine Ops.store_own1 rfl rfl goPk (by first | rfl | assumption | (simp [*]; done)) (by decide) ?_; rw [e1])) | refine goV ?_ | refine goI ?_ | (refine Cw.k_cond ?_; first | (refine Cw.cond_dec rfl (fun hc => ?_) (fun hc => ?_) <;> try (exfalso; omega)) | refine Cw.cond_bool rfl (fun hc => ?_) (fun hc => ?_)) | refine goR ?_ | refine goP ?_ | apply PSeq.cons | apply PSeq.yes rfl rfl rfl | exact goW | fail)
        exact ⟨_, _, _, (Ent.mk goSub goTk), ⟨j + 1, c + 1, u, z, rfl, ⟨by omega, by omega, by omega, hz⟩, rfl, rfl⟩, by omega⟩
      · obtain ⟨x1, x2⟩ := stlStep_out (m := d.most) (c := d.cnt) (j := j) (by omega) (by omega)
        have e2 : z + d.val = s + (u + 1) * d.val := by rw [Int.add_mul, Int.one_mul]; omega
        generalize u * d.val = pr at *
        repeat' (first | refine goH ?_ | refine goV ?_ | refine goI ?_ | (refine Cw.k_cond ?_; first | (refine Cw.cond_dec rfl (fun hc => ?_) (fun hc => ?_) <;> try (exfalso; omega)) | refine Cw.cond_bool rfl (fun hc => ?_) (fun hc => ?_)) | refine goR ?_ | refine goP ?_ | apply PSeq.cons | apply PSeq.yes rfl rfl rfl | exact goW | fail)
        exact ⟨_, _, _, (Ent.mk goSub goTk), ⟨j + 1, c, u + 1, _, rfl, ⟨by omega, by omega, by omega, e2⟩, rfl, rfl⟩, by omega⟩
    have hjn : j = n := by omega
    subst hjn
    have hz9 : s9 = z := by rw [hz, hsn, hu]
    have hset9 : R.set k [Tr.int d.val, Tr.int c, Tr.int d.most] = W9.map Tube.row := by rw [hc]; exact hset
    rw [hset9]
    rw [hset9] at hR9
    clear hset hset9 hself hsn
    subst hz9
    repeat' (first | refine goH ?_ | refine goV ?_ | refine goI ?_ | (refine Cw.k_cond ?_; first | (refine Cw.cond_dec rfl (fun hc => ?_) (fun hc => ?_) <;> try (exfalso; omega)) | refine Cw.cond_bool rfl (fun hc => ?_) (fun hc => ?_)) | refine goR ?_ | refine goP ?_ | apply PSeq.cons | apply PSeq.yes rfl rfl rfl | exact goW | fail)
    exact ⟨_, _, _, (Ent.mk goSub goTk), ⟨k + 1, s9, W9, rfl, ⟨by omega, eW.symm, e9.symm, by omega, by omega⟩, rfl, rfl⟩, by omega⟩
  · have hke : k = T.length := by omega
    subst hke
    rw [stlW_end T A hA] at hW
    rw [List.take_length, ← hA, List.take_length] at hs
    subst hW
    rw [← hs]
    rw [← hWr]
    repeat' (first | refine goH ?_ | refine goV ?_ | refine goI ?_ | (refine Cw.k_cond ?_; first | (refine Cw.cond_dec rfl (fun hc => ?_) (fun hc => ?_) <;> try (exfalso; omega)) | refine Cw.cond_bool rfl (fun hc => ?_) (fun hc => ?_)) | refine goR ?_ | refine goP ?_ | apply PSeq.cons | apply PSeq.yes rfl rfl rfl | exact goW | fail)
    refine Fin.ret (Ent.trans (Ent.settle (s := 4) rfl goPk rfl) (Ent.take goTk)) (Outs.many rfl (OutL.cons goOe (OutL.cons goOe OutL.nil)) rfl) ⟨rfl, rfl⟩
end Lg
end
