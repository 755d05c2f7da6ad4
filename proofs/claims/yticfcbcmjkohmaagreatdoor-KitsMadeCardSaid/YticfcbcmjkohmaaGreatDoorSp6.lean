/- A part of the proof of a law of this seat: it adds no condition. By an AI agent. -/
import Derived.Test.YticfcbcmjkohmaaGreatDoorLgOrd
import Derived.Test.YticfcbcmjkohmaaGreatDoorPick9
import Derived.Test.YticfcbcmjkohmaaGreatDoorShareI
section
set_option linter.all false
set_option maxRecDepth 100000
set_option maxHeartbeats 4000000
namespace Lg
open Go Go.Proofs

/-! ### what shares add up to -/
theorem addOne_sum {out : List Int} {i : Int} (h : 0 ≤ i ∧ i < out.length) : sumL (addOne out i) = sumL out + 1 := by
  obtain ⟨x, hx⟩ := at_lt (l := out) (k := i.toNat) (by omega)
  unfold addOne sumL
  rw [sumF_set hx, List.getD_eq_getElem?_getD, hx]
  simp only [Option.getD_some]
  omega
theorem shF_sum : ∀ (L out : List Int), (∀ i ∈ L, 0 ≤ i ∧ i < out.length) → (∀ v ∈ out, 0 ≤ v) → sumL (shF out L) = sumL out + L.length ∧ ∀ v ∈ shF out L, 0 ≤ v
  | [], out, _, h => ⟨by simp [shF], h⟩
  | i :: L, out, hi, h => by
    have hl : (addOne out i).length = out.length := by unfold addOne; rw [List.length_set]
    obtain ⟨h1, h2⟩ := shF_sum L (addOne out i) (fun j hj => by rw [hl]; exact hi j (by simp [hj])) (fun v hv => by
      unfold addOne at hv
      rcases List.mem_or_eq_of_mem_set hv with hv | rfl
      · exact h v hv
      · obtain ⟨x, hx⟩ := at_lt (l := out) (k := i.toNat) (by have := hi i (by simp); omega)
        have := h x (List.mem_of_getElem? hx)
        rw [List.getD_eq_getElem?_getD, hx]
        simp only [Option.getD_some]
        omega)
    rw [addOne_sum (hi i (by simp))] at h1
    refine ⟨?_, h2⟩
    rw [shF, h1, List.length_cons]
    omega
theorem shOf_sum {t : Int} {ws : List Int} (ht : 0 ≤ t) (hw : ∀ w ∈ ws, 0 ≤ w) (hs : 1 ≤ sumL ws) (hn : 1 ≤ ws.length) : sumL (shOf t ws) = t ∧ ∀ v ∈ shOf t ws, 0 ≤ v := by
  have hlf := sh_left (t := t) hs hn
  have hbl : (shBase t (sumL ws) ws).length = ws.length := by unfold shBase; rw [List.length_map]
  obtain ⟨h1, h2⟩ := shF_sum ((shOrd t (sumL ws) ws).take (shLeft t (sumL ws) ws).toNat) (shBase t (sumL ws) ws) (fun i hi => by
      have hi := List.mem_of_mem_take hi
      unfold shOrd at hi
      have := upto_mem ((isort_perm _ _).mem_iff.1 hi)
      rw [hbl]
      exact this) (fun v hv => by
      unfold shBase at hv
      obtain ⟨w, hw1, rfl⟩ := List.mem_map.1 hv
      exact Int.ediv_nonneg (Int.mul_nonneg ht (hw w hw1)) (by omega))
  refine ⟨?_, h2⟩
  unfold shOf
  have hol : (shOrd t (sumL ws) ws).length = ws.length := by unfold shOrd; rw [isort_len, upto_len]
  rw [h1, List.length_take, hol, Nat.min_eq_left (by omega)]
  unfold shLeft at *
  omega
theorem le_sumL : ∀ {l : List Int}, (∀ v ∈ l, 0 ≤ v) → ∀ v ∈ l, v ≤ sumL l
  | x :: l, h, v, hv => by
    have h0 : 0 ≤ sumL l := sumF_ge (fun y hy => h y (by simp [hy]))
    have hx := h x (by simp)
    rw [sumL_cons]
    rcases List.mem_cons.1 hv with rfl | hv
    · omega
    · have := le_sumL (fun y hy => h y (by simp [hy])) v hv
      omega
theorem sumL_drop {l : List Int} {k : Nat} {v : Int} (h : l[k]? = some v) : sumL (l.drop k) = v + sumL (l.drop (k + 1)) := by
  rw [drop_at h, sumL_cons]

/-! ### what picking leaves -/
theorem manyAt_step {st : List Lot × Int × List Piece} {i : Int} (k : Nat) : manyAt (takeStep st i).1 k ≤ manyAt st.1 k := by
  unfold takeStep
  cases h : st.1[i.toNat]? with
  | none => exact Int.le_refl _
  | some x =>
    simp only
    split
    · unfold manyAt
      by_cases e : i.toNat = k
      · subst e
        rw [List.getElem?_set_self (List.getElem?_eq_some_iff.1 h).1, h]
        simp only
        omega
      · rw [List.getElem?_set_ne e]
        exact Int.le_refl _
    · exact Int.le_refl _
theorem manyAt_fold (k : Nat) : ∀ (L : List Int) (st : List Lot × Int × List Piece), manyAt (L.foldl takeStep st).1 k ≤ manyAt st.1 k
  | [], st => Int.le_refl _
  | i :: L, st => by
    rw [List.foldl_cons]
    exact Int.le_trans (manyAt_fold k L _) (manyAt_step k)
theorem fold_done {l0 : List Lot} : ∀ (L : List Int) (st : List Lot × Int × List Piece), Same l0 st.1 → 0 ≤ st.2.1 → 0 < (L.foldl takeStep st).2.1 → ∀ i ∈ L, manyAt (L.foldl takeStep st).1 i.toNat ≤ 0
  | i :: L, st, s, h0, h, j, hj => by
    obtain ⟨a1, a2, a3, a4⟩ := takeStep_same s h0 i
    rw [List.foldl_cons] at h ⊢
    obtain ⟨_, _, b3, _⟩ := fold_same L a1 a2
    rcases List.mem_cons.1 hj with rfl | hj
    · refine Int.le_trans (manyAt_fold _ L _) ?_
      have hp : 0 < (takeStep st j).2.1 := by omega
      unfold takeStep at hp ⊢
      cases hx : st.1[j.toNat]? with
      | none => unfold manyAt; simp only [hx]; exact Int.le_refl _
      | some x =>
        rw [hx] at hp
        simp only at hp ⊢
        split at hp
        · rename_i hm
          rw [if_pos hm]
          simp only at hp
          unfold manyAt
          rw [List.getElem?_set_self (List.getElem?_eq_some_iff.1 hx).1]
          simp only
          omega
        · rename_i hm
          rw [if_neg hm]
          unfold manyAt
          rw [hx]
          simp only
          omega
    · exact fold_done L _ a1 a2 h j hj
theorem step_fresh {st : List Lot × Int × List Piece} {p : ByteArray} {fr : Int} {i : Nat} (hc : candB st.1 p fr i = true) (q : ByteArray) :
    freshI (takeStep st (i : Int)).1 q fr = freshI st.1 q fr - (if q = p then st.2.1 - (takeStep st (i : Int)).2.1 else 0) := by
  unfold takeStep
  rw [show ((i : Nat) : Int).toNat = i from rfl]
  cases hx : st.1[i]? with
  | none => simp only; split <;> omega
  | some x =>
    simp only
    split
    · by_cases e : q = p
      · subst e
        rw [if_pos rfl, freshI_set hx hc]
        simp only
        omega
      · rw [if_neg e]
        unfold candB at hc
        rw [hx] at hc
        have hc := of_decide_eq_true hc
        unfold freshI
        simp only
        rw [sumF_set hx]
        unfold freshP
        rw [if_neg (fun h => e (h.1.symm.trans hc.1)), if_neg (fun h => e (h.1.symm.trans hc.1))]
        omega
    · split <;> simp
theorem fold_fresh {l : List Lot} {p : ByteArray} {fr : Int} (q : ByteArray) : ∀ (L : List Int) (st : List Lot × Int × List Piece), Same l st.1 → 0 ≤ st.2.1 → (∀ i ∈ L, ∃ k : Nat, i = k ∧ candB l p fr k = true) →
    freshI (L.foldl takeStep st).1 q fr = freshI st.1 q fr - (if q = p then st.2.1 - (L.foldl takeStep st).2.1 else 0)
  | [], st, _, _, _ => by simp only [List.foldl_nil]; split <;> omega
  | i :: L, st, s, h0, hL => by
    obtain ⟨a1, a2, a3, a4⟩ := takeStep_same s h0 i
    obtain ⟨k, rfl, hk⟩ := hL i (by simp)
    rw [List.foldl_cons, fold_fresh q L _ a1 a2 (fun j hj => hL j (by simp [hj])), step_fresh (by rw [s.cand]; exact hk) q]
    split <;> omega
theorem pick_fresh {l : List Lot} (ho : LOk l) {p : ByteArray} {many fr : Int} (h0 : 0 ≤ many) (hm : many ≤ freshI l p fr) (q : ByteArray) :
    freshI (pickR l p many fr).1 q fr = freshI l q fr - (if q = p then many else 0) := by
  have hc : ∀ i ∈ ordL l p fr, ∃ k : Nat, i = k ∧ candB l p fr k = true := fun i hi => by
    obtain ⟨k, h1, _, h3⟩ := ordL_mem.1 hi
    exact ⟨k, h1, h3⟩
  obtain ⟨s1, s2, s3, s4⟩ := fold_same (l0 := l) (ordL l p fr) (st := (l, many, [])) (Same.refl ho) h0
  have hff := fun q => fold_fresh q (ordL l p fr) (l, many, []) (Same.refl ho) h0 hc
  have hz : (pickR l p many fr).2.1 = 0 := by
    unfold pickR
    refine Classical.byContradiction fun hne => ?_
    have hpos : 0 < ((ordL l p fr).foldl takeStep (l, many, [])).2.1 := by omega
    have hd := fold_done (ordL l p fr) (l, many, []) (Same.refl ho) h0 hpos
    have h1 := hff p
    rw [if_pos rfl] at h1
    simp only at h1
    obtain ⟨i, hi, hok⟩ := fresh_pos (c := ((ordL l p fr).foldl takeStep (l, many, [])).1) (p := p) (fr := fr) (by omega)
    unfold okB at hok
    rw [Bool.and_eq_true, decide_eq_true_iff, s1.cand] at hok
    have := hd i (ordL_mem.2 ⟨i, rfl, by rw [← s1.len]; exact hi, hok.1⟩)
    rw [show ((i : Nat) : Int).toNat = i from rfl] at this
    omega
  have h1 := hff q
  unfold pickR at hz ⊢
  rw [h1, hz]
  simp
theorem pick_same {l : List Lot} (ho : LOk l) (p : ByteArray) {many : Int} (fr : Int) (h0 : 0 ≤ many) : LOk (pickR l p many fr).1 ∧ (pickR l p many fr).1.length = l.length := by
  obtain ⟨s1, _⟩ := fold_same (l0 := l) (ordL l p fr) (st := (l, many, [])) (Same.refl ho) h0
  exact ⟨s1.ok ho, s1.len⟩
theorem freshI_bd {l : List Lot} (ho : LOk l) (p : ByteArray) (fr : Int) : 0 ≤ freshI l p fr ∧ freshI l p fr ≤ l.length * 100000 := by
  have : ∀ l : List Lot, (∀ x ∈ l, 0 ≤ x.many ∧ x.many ≤ 100000) → 0 ≤ freshI l p fr ∧ freshI l p fr ≤ l.length * 100000 := by
    intro l
    induction l with
    | nil => intro _; exact ⟨Int.le_refl 0, Int.le_refl 0⟩
    | cons x l ih =>
      intro h
      have h1 := h x (by simp)
      have h2 := ih (fun y hy => h y (by simp [hy]))
      rw [freshI, sumF_cons, ← freshI, List.length_cons]
      have : 0 ≤ freshP p fr x ∧ freshP p fr x ≤ 100000 := by unfold freshP; split <;> omega
      have e : ((l.length + 1 : Nat) : Int) * 100000 = l.length * 100000 + 100000 := by omega
      omega
  exact this l ho.many

/-! ### needs -/
structure Need where
  pl : ByteArray
  pr : ByteArray
  many : Int
def Need.row (x : Need) : List Tr := [.str x.pl, .str x.pr, .int x.many]
abbrev Tr.needs (l : List Need) : Tr := Tr.sl 3 (l.map Need.row)
def wts (p : ByteArray) (l : List Need) : List Int := (l.filter fun x => decide (x.pr = p)).map Need.many
def cntP (p : ByteArray) (l : List Need) : Nat := (wts p l).length
theorem wts_app (p : ByteArray) (a b : List Need) : wts p (a ++ b) = wts p a ++ wts p b := by
  unfold wts
  rw [List.filter_append, List.map_append]
theorem wts_one (p : ByteArray) (x : Need) : wts p [x] = if x.pr = p then [x.many] else [] := by
  unfold wts
  rw [List.filter_cons]
  by_cases h : x.pr = p
  · rw [if_pos h, if_pos (by simp [h])]; rfl
  · rw [if_neg h, if_neg (by simp [h])]; rfl
theorem wts_take {l : List Need} {k : Nat} {x : Need} (p : ByteArray) (h : l[k]? = some x) : wts p (l.take (k + 1)) = wts p (l.take k) ++ if x.pr = p then [x.many] else [] := by
  rw [take_at h, wts_app, wts_one]
theorem wts_at {l : List Need} {k : Nat} {x : Need} (h : l[k]? = some x) : (wts x.pr l)[cntP x.pr (l.take k)]? = some x.many := by
  have e : l = l.take k ++ [x] ++ l.drop (k + 1) := by rw [← take_at h, List.take_append_drop]
  unfold cntP
  conv => lhs; arg 1; rw [e]
  rw [wts_app, wts_app, wts_one, if_pos rfl, List.append_assoc, List.getElem?_append_right (Nat.le_refl _), Nat.sub_self]
  rfl
theorem wts_mem {p : ByteArray} {l : List Need} {v : Int} (h : v ∈ wts p l) : ∃ x ∈ l, x.pr = p ∧ x.many = v := by
  unfold wts at h
  obtain ⟨x, hx, rfl⟩ := List.mem_map.1 h
  have := List.mem_filter.1 hx
  exact ⟨x, this.1, of_decide_eq_true this.2, rfl⟩
theorem wts_len (p : ByteArray) (l : List Need) : (wts p l).length ≤ l.length := by
  unfold wts
  rw [List.length_map]
  exact List.length_filter_le _ _
/-- needs that are right -/
structure NOk (l : List Need) : Prop where
  len : l.length ≤ 10
  many : ∀ x ∈ l, 0 ≤ x.many ∧ x.many ≤ 100000
theorem NOk.wts {l : List Need} (h : NOk l) (p : ByteArray) : (∀ v ∈ wts p l, 0 ≤ v ∧ v ≤ 100000) ∧ (wts p l).length ≤ 10 ∧ 0 ≤ sumL (wts p l) ∧ sumL (wts p l) ≤ 1000000 := by
  have h1 : ∀ v ∈ Lg.wts p l, 0 ≤ v ∧ v ≤ 100000 := fun v hv => by
    obtain ⟨x, hx, _, rfl⟩ := wts_mem hv
    exact h.many x hx
  have h2 := sumL_bd h1
  have h3 := wts_len p l
  have h4 := h.len
  exact ⟨h1, by omega, h2.1, by omega⟩
/-- what each product's needs get -/
def shP (lots : List Lot) (fr : Int) (l : List Need) (p : ByteArray) : List Int := if freshI lots p fr < sumL (wts p l) then shOf (freshI lots p fr) (wts p l) else wts p l
theorem shP_len (lots : List Lot) (fr : Int) (l : List Need) (p : ByteArray) : (shP lots fr l p).length = (wts p l).length := by
  unfold shP
  split
  · exact shOf_len _ _
  · rfl
theorem shP_sum {lots : List Lot} (ho : LOk lots) {l : List Need} (hn : NOk l) (fr : Int) (p : ByteArray) : (∀ v ∈ shP lots fr l p, 0 ≤ v ∧ v ≤ 1000000) ∧ sumL (shP lots fr l p) ≤ freshI lots p fr := by
  obtain ⟨w1, w2, w3, w4⟩ := hn.wts p
  have hf := (freshI_bd ho p fr).1
  unfold shP
  split
  · rename_i hlt
    have hne : 1 ≤ (Lg.wts p l).length := by
      cases h : Lg.wts p l with
      | nil => rw [h, sumL_nil] at hlt; omega
      | cons _ _ => simp
    obtain ⟨h1, h2⟩ := shOf_sum hf (fun w hw => (w1 w hw).1) (by omega) hne
    refine ⟨fun v hv => ⟨h2 v hv, ?_⟩, by omega⟩
    have := le_sumL h2 v hv
    omega
  · exact ⟨fun v hv => by have := w1 v hv; omega, by omega⟩
/-- what each need gets -/
def kgets (lots : List Lot) (fr : Int) (l : List Need) : List Int := (List.range l.length).map fun i => match l[i]? with
  | none => 0
  | some x => (shP lots fr l x.pr).getD (cntP x.pr (l.take i)) 0
theorem kgets_len (lots : List Lot) (fr : Int) (l : List Need) : (kgets lots fr l).length = l.length := by simp [kgets]
theorem kgets_at {lots : List Lot} {fr : Int} {l : List Need} {k : Nat} {x : Need} (h : l[k]? = some x) : (shP lots fr l x.pr)[cntP x.pr (l.take k)]? = some ((kgets lots fr l).getD k 0) ∧ (kgets lots fr l)[k]? = some ((kgets lots fr l).getD k 0) := by
  have hk := (List.getElem?_eq_some_iff.1 h).1
  have e : (kgets lots fr l)[k]? = some ((shP lots fr l x.pr).getD (cntP x.pr (l.take k)) 0) := by
    unfold kgets
    rw [List.getElem?_map, List.getElem?_range hk, Option.map_some, h]
  have hw := (List.getElem?_eq_some_iff.1 (wts_at h)).1
  obtain ⟨v, hv⟩ := at_lt (l := shP lots fr l x.pr) (k := cntP x.pr (l.take k)) (by rw [shP_len]; exact hw)
  rw [List.getD_eq_getElem?_getD (l := kgets lots fr l), e]
  simp only [Option.getD_some]
  rw [List.getD_eq_getElem?_getD, hv]
  simp
structure Kt where
  pl : ByteArray
  pr : ByteArray
  ps : List Piece
def Kt.row (x : Kt) : List Tr := [.str x.pl, .str x.pr, .pieces x.ps]
def kitS (fr : Int) (st : List Kt × List Lot) (x : Need × Int) : List Kt × List Lot := (st.1 ++ [⟨x.1.pl, x.1.pr, (pickR st.2 x.1.pr x.2 fr).2.2⟩], (pickR st.2 x.1.pr x.2 fr).1)
def kitSt (lots : List Lot) (fr : Int) (l : List Need) (k : Nat) : List Kt × List Lot := ((l.zip (kgets lots fr l)).take k).foldl (kitS fr) ([], lots)
theorem kitSt_succ {lots : List Lot} {fr : Int} {l : List Need} {k : Nat} {x : Need} (h : l[k]? = some x) : kitSt lots fr l (k + 1) = kitS fr (kitSt lots fr l k) (x, (kgets lots fr l).getD k 0) := by
  have hz : (l.zip (kgets lots fr l))[k]? = some (x, (kgets lots fr l).getD k 0) := by
    rw [List.getElem?_zip_eq_some]
    exact ⟨h, (kgets_at h).2⟩
  unfold kitSt
  rw [take_at hz, List.foldl_append]
  rfl
/-- on the way: what is left is enough -/
theorem kit_inv {lots : List Lot} (ho : LOk lots) {l : List Need} (hn : NOk l) (fr : Int) : ∀ k, k ≤ l.length → LOk (kitSt lots fr l k).2 ∧ (kitSt lots fr l k).2.length = lots.length ∧ (kitSt lots fr l k).1.length = k ∧ ∀ p, sumL ((shP lots fr l p).drop (cntP p (l.take k))) ≤ freshI (kitSt lots fr l k).2 p fr
  | 0, _ => ⟨ho, rfl, rfl, fun p => (shP_sum ho hn fr p).2⟩
  | k + 1, hk => by
    obtain ⟨h1, h2, h3, h4⟩ := kit_inv ho hn fr k (by omega)
    obtain ⟨x, hx⟩ := at_lt (l := l) (k := k) (by omega)
    have ka := (kgets_at (lots := lots) (fr := fr) hx).1
    rw [kitSt_succ hx]
    generalize (kgets lots fr l).getD k 0 = v at *
    generalize kitSt lots fr l k = st at *
    have hv := (shP_sum ho hn fr x.pr).1 v (List.mem_of_getElem? ka)
    have hd := sumL_drop ka
    have hge : 0 ≤ sumL ((shP lots fr l x.pr).drop (cntP x.pr (l.take k) + 1)) := sumF_ge (fun y hy => ((shP_sum ho hn fr x.pr).1 y (List.mem_of_mem_drop hy)).1)
    have h5 := h4 x.pr
    have hps := pick_same h1 x.pr fr hv.1
    refine ⟨hps.1, hps.2.trans h2, by simp [kitS, h3], fun p => ?_⟩
    have hpf := pick_fresh h1 (p := x.pr) (many := v) (fr := fr) hv.1 (by omega) p
    have hc : cntP p (l.take (k + 1)) = cntP p (l.take k) + if x.pr = p then 1 else 0 := by
      unfold cntP
      rw [wts_take p hx, List.length_append]
      split <;> rfl
    show _ ≤ freshI (pickR st.2 x.pr v fr).1 p fr
    rw [hpf, hc]
    by_cases e : p = x.pr
    · subst e
      rw [if_pos rfl, if_pos rfl]
      omega
    · rw [if_neg e, if_neg (fun h => e h.symm)]
      have := h4 p
      rw [Nat.add_zero]
      omega
/-- a need's pick, on the way -/
theorem kit_step {lots : List Lot} (ho : LOk lots) {l : List Need} (hn : NOk l) {fr : Int} {k : Nat} {x : Need} (hx : l[k]? = some x) :
    LOk (kitSt lots fr l k).2 ∧ (kitSt lots fr l k).2.length = lots.length ∧ (kitSt lots fr l k).1.length = k ∧ 0 ≤ (kgets lots fr l).getD k 0 ∧ (kgets lots fr l).getD k 0 ≤ 1000000 ∧ (kgets lots fr l).getD k 0 ≤ freshI (kitSt lots fr l k).2 x.pr fr := by
  have hk := (List.getElem?_eq_some_iff.1 hx).1
  obtain ⟨h1, h2, h3, h4⟩ := kit_inv ho hn fr k (by omega)
  have ka := (kgets_at (lots := lots) (fr := fr) hx).1
  have hv := (shP_sum ho hn fr x.pr).1 _ (List.mem_of_getElem? ka)
  have hd := sumL_drop ka
  have hge : 0 ≤ sumL ((shP lots fr l x.pr).drop (cntP x.pr (l.take k) + 1)) := sumF_ge (fun y hy => ((shP_sum ho hn fr x.pr).1 y (List.mem_of_mem_drop hy)).1)
  have h5 := h4 x.pr
  exact ⟨h1, h2, h3, hv.1, hv.2, by omega⟩
end Lg
end
section
set_option linter.all false
set_option maxRecDepth 100000
set_option maxHeartbeats 4000000
namespace Lg
open Go Go.Proofs

/-- the length in bits of a small number: some number -/
theorem len64_fn (n : Int) (hn : 0 ≤ n ∧ n ≤ 200) : PFn Tryz.prog 79 [Tr.raw (.int .u64 n)] (fun r => ∃ v : Int, r = .int v) := by
  refine PFn.mk (Spec.body Tryz.func79 rfl rfl (Tryz.ntmps79) rfl fun w0 own0 M => ?_)
  repeat' (first | refine goH ?_ | (refine Ops.k_convert ?_; first | (refine Ops.convN Tryz.underlying115 Tryz.underlying5 rfl (wrap_u8 (by omega)) rfl ?_) | (refine Ops.convN Tryz.underlying5 Tryz.underlying3 rfl (wrap_i64 (by omega)) rfl ?_)) | (refine Ops.k_index ?_; first | (refine Ops.indexS_any Tryz.underlying9 rfl rfl (by refine ⟨by omega, ?_⟩; show n < 256; omega) rfl (fun v hv => ?_))) | refine goV ?_ | refine goI ?_ | (refine Cw.k_cond ?_; first | (refine Cw.cond_dec rfl (fun hc => ?_) (fun hc => ?_) <;> try (exfalso; omega)) | refine Cw.cond_bool rfl (fun hc => ?_) (fun hc => ?_)) | fail)
  exact Fin.ret (Ent.take goTk) (Outs.one rfl rfl) ⟨rfl, _, rfl⟩
theorem bitsLen_fn (n : Int) (hn : 0 ≤ n ∧ n ≤ 200) : PFn Tryz.prog 58 [Tr.raw (.int .u64 n)] (fun r => ∃ v : Int, r = .int v) := by
  have h := len64_fn n hn
  unfold PFn at h
  refine PFn.mk (Spec.body Tryz.func58 rfl rfl (Tryz.ntmps58) rfl fun w0 own0 M => ?_)
  repeat' (first | refine goH ?_ | refine goV ?_ | refine goI ?_ | (refine Cw.k_cond ?_; first | (refine Cw.cond_dec rfl (fun hc => ?_) (fun hc => ?_) <;> try (exfalso; omega)) | refine Cw.cond_bool rfl (fun hc => ?_) (fun hc => ?_)) | (refine Ops.k_calla ?_; first | (refine Ops.call (cf := []) h (Evs.cons rfl Evs.nil) (by simp) rfl ?_; rintro r cs' ⟨rfl, v, rfl⟩)) | fail)
  exact Fin.ret (Ent.take goTk) (Outs.one rfl rfl) ⟨rfl, _, rfl⟩
end Lg
end
section
set_option linter.all false
set_option maxRecDepth 100000
set_option maxHeartbeats 8000000
namespace Lg
open Go Go.Proofs

/-! ### strings compared; names with numbers -/
theorem cmpString_fn (a b : ByteArray) : PFn Tryz.prog 49 [.str a, .str b] (· = .int (cmpS a b)) := by
  have hx : ∀ w, (callFunc 64 #[.string a, .string b]).run Tryz.prog w = .ok (.value (.int .i64 (cmpS a b))) w := fun w => by
    rw [run_callFunc_extern Tryz.func64 (by kernel_rfl) (by kernel_rfl) (by kernel_rfl) (e := Extern.BytealgCompare.compare) (by kernel_rfl), Lib.run_compareString, cmpS_cb]
    rfl
  refine PFn.mk (Spec.body Tryz.func49 rfl rfl (Tryz.ntmps49) rfl fun w0 own0 M => ?_)
  repeat' (first | refine goH ?_ | refine goV ?_ | refine goI ?_ | (refine Cw.k_cond ?_; first | (refine Cw.cond_dec rfl (fun hc => ?_) (fun hc => ?_) <;> try (exfalso; omega)) | refine Cw.cond_bool rfl (fun hc => ?_) (fun hc => ?_)) | refine Ops.ext2 hx rfl rfl rfl ?_ | fail)
  exact Fin.ret (Ent.take goTk) (Outs.one rfl rfl) ⟨rfl, rfl⟩
theorem compareS_fn (a b : ByteArray) : PFn Tryz.prog 27 [.str a, .str b] (· = .int (cmpS a b)) := by
  have k1 := cmpString_fn a b
  refine PFn.mk (Spec.body Tryz.func27 rfl rfl (Tryz.ntmps27) rfl fun w0 own0 M => ?_)
  repeat' (first | refine goH ?_ | refine goV ?_ | refine goI ?_ | (refine Cw.k_cond ?_; first | (refine Cw.cond_dec rfl (fun hc => ?_) (fun hc => ?_) <;> try (exfalso; omega)) | refine Cw.cond_bool rfl (fun hc => ?_) (fun hc => ?_)) | (refine Ops.k_calla ?_; first | (refine Ops.k_callf 49 ?_; refine Ops.callV k1 (Evs.cons rfl (Evs.cons rfl Evs.nil)) rfl ?_)) | fail)
  exact Fin.ret (Ent.take goTk) (Outs.one rfl rfl) ⟨rfl, rfl⟩
structure Nm where
  key : ByteArray
  many : Int
def Nm.row (x : Nm) : List Tr := [.str x.key, .int x.many]
abbrev Tr.nms (l : List Nm) : Tr := Tr.sl 2 (l.map Nm.row)
def nm0 : Nm := ⟨⟨#[]⟩, 0⟩
def nmLt (a b : Nm) : Bool := strLt a.key b.key
/-- insertion sort, of a slice of one's own, by a function that only reads -/
theorem insSort_nm {n : Nat} {xs : List Nm} {ad : Option Addr} {cap : Nat} {g : Nat} {caps : List Value} {cin : List Chunk} {lt : Nm → Nm → Bool} {cf : Nm → Nm → Int} (hlt : ∀ a b, lt a b = decide (cf a b < 0)) (hl : xs.length ≤ 1000000) (hn : n = xs.length)
    (hs : ∀ a b, a ∈ xs → b ∈ xs → Spec Tryz.prog g ([(fun x : Nm => Tr.agg x.row) a, (fun x : Nm => Tr.agg x.row) b] ++ caps.map Tr.raw) cin (fun r cs => r = Tr.int (cf a b) ∧ cs = cin)) :
    Spec Tryz.prog 70 [Tr.raw (.slice ad n cap), .int 0, .int n, Tr.raw (.func (.func g) #[] caps.toArray)] (Chunk.own ad cap 2 52 (xs.map Nm.row) :: cin) (fun r cs => r = Tr.tup [] ∧ cs = Chunk.own ad cap 2 52 ((isort lt xs).map Nm.row) :: cin) := by
  refine Spec.body Tryz.func70 rfl rfl (Tryz.ntmps70) rfl fun w0 own0 M => ?_
  repeat' (first | refine goH ?_ | refine goV ?_ | refine goG ?_ | (refine Ops.k_guard ?_; first | (refine Ops.guard_dec rfl rfl (fun hc => ?_) (fun hc => ?_) <;> try (exfalso; omega)) | refine Ops.guard_split rfl rfl (fun hc => ?_) (fun hc => ?_)) | refine goI ?_ | (refine Cw.k_cond ?_; first | (refine Cw.cond_dec rfl (fun hc => ?_) (fun hc => ?_) <;> try (exfalso; omega)) | refine Cw.cond_bool rfl (fun hc => ?_) (fun hc => ?_)) | refine goR ?_ | refine goP ?_ | apply PSeq.cons | apply PSeq.yes rfl rfl rfl | exact goW | fail)
  refine Cw.loopI [(0, _), (1, _), (2, _), (3, _)] cin (fun q e c => ∃ (i : Nat) (rows : List (List Tr)), q = n - i ∧ (1 ≤ i ∧ i ≤ max 1 n ∧ rows = (isort lt (xs.take i) ++ xs.drop i).map Nm.row ∧ rows.length = n) ∧ e = [(8, .int i)] ∧ c = [Chunk.own ad cap 2 52 rows])
    ⟨_, _, _, (Ent.mkP goSub goPm), 1, xs.map Nm.row, rfl, ⟨by omega, by omega, by rw [isort_take1, List.take_append_drop], by rw [List.length_map, hn]⟩, rfl, rfl⟩ ?_
  rintro _ _ _ ⟨i, rows, rfl, ⟨hi1, hi2, hrows, hrl⟩, rfl, rfl⟩
  by_cases hil : i < n
  · obtain ⟨x, hx⟩ : ∃ x, xs[i]? = some x := at_lt (by omega)
    obtain ⟨S, hS⟩ : ∃ S, S = isort lt (xs.take i) := ⟨_, rfl⟩
    have hSl : S.length = i := by rw [hS, isort_len, List.length_take]; omega
    have hSm : ∀ y ∈ S, y ∈ xs := fun y hy => List.mem_of_mem_take ((isort_perm lt (xs.take i)).mem_iff.1 (by rw [← hS]; exact hy))
    have hxm : x ∈ xs := List.mem_of_getElem? hx
    have hnext : isort lt (xs.take (i + 1)) = insB lt x S := by rw [take_at hx, isort_snoc, ← hS]
    rw [← hS, drop_at hx] at hrows
    repeat' (first | refine goH ?_ | refine goV ?_ | refine goG ?_ | (refine Ops.k_guard ?_; first | (refine Ops.guard_dec rfl rfl (fun hc => ?_) (fun hc => ?_) <;> try (exfalso; omega)) | refine Ops.guard_split rfl rfl (fun hc => ?_) (fun hc => ?_)) | refine goI ?_ | (refine Cw.k_cond ?_; first | (refine Cw.cond_dec rfl (fun hc => ?_) (fun hc => ?_) <;> try (exfalso; omega)) | refine Cw.cond_bool rfl (fun hc => ?_) (fun hc => ?_)) | refine goR ?_ | refine goP ?_ | apply PSeq.cons | apply PSeq.yes rfl rfl rfl | exact goW | fail)
    refine Cw.loopI [(0, _), (1, _), (2, _), (3, _), (8, _)] cin (fun q e c => ∃ (f m : List Nm) (rows : List (List Tr)) (j : Nat), q = f.length ∧ (f.length = j ∧ S = f ++ m ∧ insB lt x S = insB lt x f ++ m ∧ rows = (f ++ x :: (m ++ xs.drop (i + 1))).map Nm.row ∧ rows.length = n) ∧ e = [(9, .int j)] ∧ c = [Chunk.own ad cap 2 52 rows])
      ⟨_, _, _, (Ent.mkP goSub goPm), S, [], rows, i, rfl, ⟨hSl, by simp, by simp, by rw [hrows]; simp, hrl⟩, rfl, rfl⟩ ?_
    clear hrows hrl
    rintro _ _ _ ⟨f, m, rows, j, rfl, ⟨hj, hfm, hins, hrows, hrl⟩, rfl, rfl⟩
    have hfl : j ≤ i := by rw [← hSl, hfm, List.length_append]; omega
    have hx0 : rows[((j : Nat) : Int).toNat]? = some [.str x.key, .int x.many] := by rw [hrows]; exact rows_at (by simp [← hj])
    have fin : ∀ rows' : List (List Tr), rows' = (f ++ x :: (m ++ xs.drop (i + 1))).map Nm.row → insB lt x f = f ++ [x] → rows' = (isort lt (xs.take (i + 1)) ++ xs.drop (i + 1)).map Nm.row := by
      intro rows' h1 h2
      rw [h1, hnext, hins, h2]
      simp
    rcases List.eq_nil_or_concat f with rfl | ⟨f', y, rfl⟩
    · rw [List.length_nil] at hj
      subst hj
      have h0 := fin rows hrows (insB_nil lt x)
      repeat' (first | refine goH ?_ | refine goV ?_ | refine goG ?_ | (refine Ops.k_guard ?_; first | (refine Ops.guard_dec rfl rfl (fun hc => ?_) (fun hc => ?_) <;> try (exfalso; omega)) | refine Ops.guard_split rfl rfl (fun hc => ?_) (fun hc => ?_)) | refine goI ?_ | (refine Cw.k_cond ?_; first | (refine Cw.cond_dec rfl (fun hc => ?_) (fun hc => ?_) <;> try (exfalso; omega)) | refine Cw.cond_bool rfl (fun hc => ?_) (fun hc => ?_)) | refine goR ?_ | refine goP ?_ | apply PSeq.cons | apply PSeq.yes rfl rfl rfl | exact goW | fail)
      exact ⟨_, _, _, (Ent.mkP goSub goPm), ⟨i + 1, rows, rfl, ⟨by omega, by omega, h0, hrl⟩, rfl, rfl⟩, by omega⟩
    · rw [List.concat_eq_append] at *
      have hym : y ∈ xs := hSm y (by rw [hfm]; simp)
      have hspec := hs x y hxm hym
      have hjl : (f' ++ [y]).length = f'.length + 1 := by simp
      rw [hjl] at hj
      subst hj
      have hy0 : rows[(((f'.length + 1 : Nat) : Int) - 1).toNat]? = some [.str y.key, .int y.many] := by
        rw [hrows, show (((f'.length + 1 : Nat) : Int) - 1).toNat = f'.length by omega]
        exact rows_at (by simp)
      cases hc0 : lt x y
      · have hcf : ¬ cf x y < 0 := by rw [hlt] at hc0; simpa using hc0
        have h0 := fin rows hrows (insB_ge lt hc0)
        repeat' (first | refine goH ?_ | refine goV ?_ | refine goG ?_ | (refine Ops.k_guard ?_; first | (refine Ops.guard_dec rfl rfl (fun hc => ?_) (fun hc => ?_) <;> try (exfalso; omega)) | refine Ops.guard_split rfl rfl (fun hc => ?_) (fun hc => ?_)) | refine goI ?_ | (refine Cw.k_cond ?_; first | (refine Cw.cond_dec rfl (fun hc => ?_) (fun hc => ?_) <;> try (exfalso; omega)) | refine Cw.cond_bool rfl (fun hc => ?_) (fun hc => ?_)) | exact OpW.callS_fn rfl hspec (Evs.cons rfl (Evs.cons rfl Evs.nil)) List.perm_append_comm | refine goR ?_ | refine goP ?_ | apply PSeq.cons | apply PSeq.yes rfl rfl rfl | exact goW | fail)
        exact ⟨_, _, _, (Ent.mkP goSub goPm), ⟨i + 1, rows, rfl, ⟨by omega, by omega, h0, hrl⟩, rfl, rfl⟩, by omega⟩
      · have hcf : cf x y < 0 := by rw [hlt] at hc0; simpa using hc0
        have hset : (rows.set ((f'.length + 1 : Nat) : Int).toNat [.str y.key, .int y.many])[(((f'.length + 1 : Nat) : Int) - 1).toNat]? = some [.str y.key, .int y.many] := by
          rw [List.getElem?_set_ne (by omega)]
          exact hy0
        have hlen2 : (rows.set ((f'.length + 1 : Nat) : Int).toNat [.str y.key, .int y.many]).length = n := by rw [List.length_set]; exact hrl
        have hres : (rows.set ((f'.length + 1 : Nat) : Int).toNat [.str y.key, .int y.many]).set (((f'.length + 1 : Nat) : Int) - 1).toNat [.str x.key, .int x.many] = (f' ++ x :: (y :: m ++ xs.drop (i + 1))).map Nm.row := by
          rw [hrows, show (((f'.length + 1 : Nat) : Int) - 1).toNat = f'.length by omega, show ((f'.length + 1 : Nat) : Int).toNat = f'.length + 1 by omega]
          simp [List.set_append]
          all_goals (try exact ⟨rfl, rfl⟩)
        have hm : S = f' ++ (y :: m) := by rw [hfm]; simp
        have hins2 : insB lt x S = insB lt x f' ++ (y :: m) := by rw [hins, insB_lt lt hc0]; simp
        clear fin hnext hS hSl hSm hfm hins hrows
        repeat' (first | refine goH ?_ | refine goV ?_ | refine goG ?_ | (refine Ops.k_guard ?_; first | (refine Ops.guard_dec rfl rfl (fun hc => ?_) (fun hc => ?_) <;> try (exfalso; omega)) | refine Ops.guard_split rfl rfl (fun hc => ?_) (fun hc => ?_)) | refine goI ?_ | (refine Cw.k_cond ?_; first | (refine Cw.cond_dec rfl (fun hc => ?_) (fun hc => ?_) <;> try (exfalso; omega)) | refine Cw.cond_bool rfl (fun hc => ?_) (fun hc => ?_)) | exact OpW.callS_fn rfl hspec (Evs.cons rfl (Evs.cons rfl Evs.nil)) List.perm_append_comm | refine goR ?_ | refine goP ?_ | apply PSeq.cons | apply PSeq.yes rfl rfl rfl | exact goW | fail)
        refine Cw.region_seqF (m := 15) [2, 3, 4] rfl (by decide +kernel) rfl (fun a w d => ?_) ?_
        · have h9 := rd_raw (d.env 9 _ rfl)
          have hs : a.tmps.size = 53 := d.tmps
          have h9' : a.tmps[9]'(by omega) = .int .i64 ((f'.length + 1 : Nat) : Int) := by simpa [hs] using h9
          exact FlRun.move rfl rfl rfl rfl (FlRun.move rfl rfl rfl rfl (FlRun.sub1 (p := ((f'.length + 1 : Nat) : Int)) rfl rfl rfl rfl (by simp [Act.put, Act.eval, hs, h9']) FlRun.nil))
        repeat' (first | refine goH ?_ | refine goV ?_ | refine goG ?_ | (refine Ops.k_guard ?_; first | (refine Ops.guard_dec rfl rfl (fun hc => ?_) (fun hc => ?_) <;> try (exfalso; omega)) | refine Ops.guard_split rfl rfl (fun hc => ?_) (fun hc => ?_)) | refine goI ?_ | (refine Cw.k_cond ?_; first | (refine Cw.cond_dec rfl (fun hc => ?_) (fun hc => ?_) <;> try (exfalso; omega)) | refine Cw.cond_bool rfl (fun hc => ?_) (fun hc => ?_)) | refine NoP.norm ?_ | refine goR ?_ | refine goP ?_ | apply PSeq.cons | apply PSeq.yes rfl rfl rfl | exact goW | fail)
        refine ⟨_, _, _, ?_, ⟨f', y :: m, _, f'.length, rfl, ⟨rfl, hm, hins2, hres, by rw [List.length_set]; exact hlen2⟩, rfl, rfl⟩, by simp⟩
        rw [show ((f'.length + 1 : Nat) : Int) - 1 = (f'.length : Int) by omega]
        exact (Ent.mkP goSub goPm)
  · have hin : xs.take i = xs := List.take_of_length_le (by omega)
    rw [hin, List.drop_eq_nil_of_le (by omega), List.append_nil] at hrows
    subst hrows
    repeat' (first | refine goH ?_ | refine goV ?_ | refine goG ?_ | (refine Ops.k_guard ?_; first | (refine Ops.guard_dec rfl rfl (fun hc => ?_) (fun hc => ?_) <;> try (exfalso; omega)) | refine Ops.guard_split rfl rfl (fun hc => ?_) (fun hc => ?_)) | refine goI ?_ | (refine Cw.k_cond ?_; first | (refine Cw.cond_dec rfl (fun hc => ?_) (fun hc => ?_) <;> try (exfalso; omega)) | refine Cw.cond_bool rfl (fun hc => ?_) (fun hc => ?_)) | refine goR ?_ | refine goP ?_ | apply PSeq.cons | apply PSeq.yes rfl rfl rfl | exact goW | fail)
    exact Fin.norm (Ent.mkP goSub goPm) (Outs.zero rfl) ⟨rfl, rfl⟩

/-- slices.SortFunc on at most 12 elements -/
theorem pdq_nm {n : Nat} {d : Int} {xs : List Nm} {ad : Option Addr} {cap : Nat} {g : Nat} {caps : List Value} {cin : List Chunk} {lt : Nm → Nm → Bool} {cf : Nm → Nm → Int} (hlt : ∀ a b, lt a b = decide (cf a b < 0)) (hl : xs.length ≤ 12) (hn : n = xs.length)
    (hs : ∀ a b, a ∈ xs → b ∈ xs → Spec Tryz.prog g ([(fun x : Nm => Tr.agg x.row) a, (fun x : Nm => Tr.agg x.row) b] ++ caps.map Tr.raw) cin (fun r cs => r = Tr.int (cf a b) ∧ cs = cin)) :
    Spec Tryz.prog 57 [Tr.raw (.slice ad n cap), .int 0, .int n, .int d, Tr.raw (.func (.func g) #[] caps.toArray)] (Chunk.own ad cap 2 52 (xs.map Nm.row) :: cin) (fun r cs => r = Tr.tup [] ∧ cs = Chunk.own ad cap 2 52 ((isort lt xs).map Nm.row) :: cin) := by
  have hi := insSort_nm (ad := ad) (cap := cap) hlt (show xs.length ≤ 1000000 by omega) hn hs
  refine Spec.body Tryz.func57 rfl rfl (Tryz.ntmps57) rfl fun w0 own0 M => ?_
  repeat' (first | refine goH ?_ | refine goV ?_ | refine goG ?_ | (refine Ops.k_guard ?_; first | (refine Ops.guard_dec rfl rfl (fun hc => ?_) (fun hc => ?_) <;> try (exfalso; omega)) | refine Ops.guard_split rfl rfl (fun hc => ?_) (fun hc => ?_)) | refine goI ?_ | (refine Cw.k_cond ?_; first | (refine Cw.cond_dec rfl (fun hc => ?_) (fun hc => ?_) <;> try (exfalso; omega)) | refine Cw.cond_bool rfl (fun hc => ?_) (fun hc => ?_)) | refine goR ?_ | refine goP ?_ | apply PSeq.cons | apply PSeq.yes rfl rfl rfl | exact goW | fail)
  refine Cw.loopI [(0, _), (4, _)] _ (fun q e c => q = 0 ∧ e = [(1, .int 0), (2, .int n), (3, .int d), (10, .bool true), (11, .bool true)] ∧ c = []) ⟨_, _, _, (Ent.mkP goSub goPm), rfl, rfl, rfl⟩ ?_
  rintro _ _ _ ⟨rfl, rfl, rfl⟩
  repeat' (first | refine goH ?_ | refine goV ?_ | refine goG ?_ | (refine Ops.k_guard ?_; first | (refine Ops.guard_dec rfl rfl (fun hc => ?_) (fun hc => ?_) <;> try (exfalso; omega)) | refine Ops.guard_split rfl rfl (fun hc => ?_) (fun hc => ?_)) | refine goI ?_ | (refine Cw.k_cond ?_; first | (refine Cw.cond_dec rfl (fun hc => ?_) (fun hc => ?_) <;> try (exfalso; omega)) | refine Cw.cond_bool rfl (fun hc => ?_) (fun hc => ?_)) | (refine Ops.k_calla ?_; first | (refine Ops.call (cf := []) hi (Evs.cons rfl (Evs.cons rfl (Evs.cons rfl (Evs.cons rfl Evs.nil)))) (by simp) rfl ?_; rintro r cs' ⟨rfl, rfl⟩)) | refine goR ?_ | refine goP ?_ | apply PSeq.cons | apply PSeq.yes rfl rfl rfl | exact goW | fail)
  first | exact Fin.norm (Ent.mkP goSub (by simp)) (Outs.zero rfl) ⟨rfl, rfl⟩ | exact Fin.ret (Ent.mkP goSub (by simp)) (Outs.zero rfl) ⟨rfl, rfl⟩
theorem sortFunc_nm {n : Nat} {xs : List Nm} {ad : Option Addr} {cap : Nat} {g : Nat} {caps : List Value} {cin : List Chunk} {lt : Nm → Nm → Bool} {cf : Nm → Nm → Int} (hlt : ∀ a b, lt a b = decide (cf a b < 0)) (hl : xs.length ≤ 12) (hn : n = xs.length)
    (hs : ∀ a b, a ∈ xs → b ∈ xs → Spec Tryz.prog g ([(fun x : Nm => Tr.agg x.row) a, (fun x : Nm => Tr.agg x.row) b] ++ caps.map Tr.raw) cin (fun r cs => r = Tr.int (cf a b) ∧ cs = cin)) :
    Spec Tryz.prog 35 [Tr.raw (.slice ad n cap), Tr.raw (.func (.func g) #[] caps.toArray)] (Chunk.own ad cap 2 52 (xs.map Nm.row) :: cin) (fun r cs => r = Tr.tup [] ∧ cs = Chunk.own ad cap 2 52 ((isort lt xs).map Nm.row) :: cin) := by
  have hi := fun d => pdq_nm (d := d) (ad := ad) (cap := cap) hlt hl hn hs
  have hb := bitsLen_fn n (by omega)
  unfold PFn at hb
  refine Spec.body Tryz.func35 rfl rfl (Tryz.ntmps35) rfl fun w0 own0 M => ?_
  repeat' (first | refine goH ?_ | (refine Ops.k_convert ?_; first | (refine Ops.convN Tryz.underlying3 Tryz.underlying99 rfl (wrap_u64 (by omega)) rfl ?_)) | refine goV ?_ | refine goI ?_ | (refine Cw.k_cond ?_; first | (refine Cw.cond_dec rfl (fun hc => ?_) (fun hc => ?_) <;> try (exfalso; omega)) | refine Cw.cond_bool rfl (fun hc => ?_) (fun hc => ?_)) | (refine Ops.k_calla ?_; first | (refine Ops.k_callf 58 ?_; (refine Ops.call hb (Evs.cons rfl Evs.nil) (by rw [List.nil_append]) rfl ?_; rintro r cs' ⟨rfl, v, rfl⟩; rw [List.nil_append])) | (refine Ops.call (cf := []) (hi _) (Evs.cons rfl (Evs.cons rfl (Evs.cons rfl (Evs.cons rfl (Evs.cons rfl Evs.nil))))) (by simp) rfl ?_; rintro r cs' ⟨rfl, rfl⟩)) | fail)
  first | exact Fin.norm (Ent.mkP goSub (by simp)) (Outs.zero rfl) ⟨rfl, rfl⟩ | exact Fin.ret (Ent.mkP goSub (by simp)) (Outs.zero rfl) ⟨rfl, rfl⟩

theorem nmLtR_fn (x y : Nm) : PFn Tryz.prog 63 [.agg x.row, .agg y.row] (· = .int (cmpS x.key y.key)) := by
  have k1 := compareS_fn x.key y.key
  unfold Nm.row
  refine PFn.mk (Spec.body Tryz.func63 rfl rfl (Tryz.ntmps63) rfl fun w0 own0 M => ?_)
  repeat' (first | refine goH ?_ | refine goV ?_ | refine goB (fun b => ?_) | refine goI ?_ | (refine Cw.k_cond ?_; first | (refine Cw.cond_dec rfl (fun hc => ?_) (fun hc => ?_) <;> try (exfalso; omega)) | refine Cw.cond_bool rfl (fun hc => ?_) (fun hc => ?_)) | (refine Ops.k_calla ?_; first | (refine Ops.k_callf 27 ?_; refine Ops.callV k1 (Evs.cons rfl (Evs.cons rfl Evs.nil)) rfl ?_)) | fail)
  exact Fin.ret (Ent.take goTk) (Outs.one rfl rfl) ⟨rfl, rfl⟩
theorem nmLt_c (a b : Nm) : nmLt a b = decide (cmpS a.key b.key < 0) := by
  unfold nmLt
  rw [Bool.eq_iff_iff, decide_eq_true_iff]
  exact (cmpS_lt _ _).symm
theorem sortedNamed_fn {n : Nat} {xs : List Nm} {ad : Option Addr} {cap : Nat} (hl : xs.length ≤ 12) (hn : n = xs.length) : Spec Tryz.prog 47 [Tr.raw (.slice ad n cap)] [Chunk.own ad cap 2 52 (xs.map Nm.row)] (fun r cs => r = Tr.raw (.slice ad n cap) ∧ cs = [Chunk.own ad cap 2 52 ((isort nmLt xs).map Nm.row)]) := by
  have k1 : ∀ (ad : Option Addr) (cap : Nat), Spec Tryz.prog 35 [Tr.raw (.slice ad n cap), Tr.raw (.func (.func 63) #[] #[])] [Chunk.own ad cap 2 52 (xs.map Nm.row)] (fun r cs => r = Tr.tup [] ∧ cs = [Chunk.own ad cap 2 52 ((isort nmLt xs).map Nm.row)]) := fun ad cap => sortFunc_nm (lt := nmLt) (cf := fun a b => cmpS a.key b.key) (caps := []) (cin := []) nmLt_c hl hn (fun a b _ _ => (nmLtR_fn a b).lend)
  refine Spec.body Tryz.func47 rfl rfl (Tryz.ntmps47) rfl fun w0 own0 M => ?_
  repeat' (first | refine goH ?_ | refine goV ?_ | refine goI ?_ | (refine Cw.k_cond ?_; first | (refine Cw.cond_dec rfl (fun hc => ?_) (fun hc => ?_) <;> try (exfalso; omega)) | refine Cw.cond_bool rfl (fun hc => ?_) (fun hc => ?_)) | (refine Ops.k_calla ?_; first | (refine Ops.k_callf 35 ?_; (refine Ops.call (k1 _ _) (Evs.cons rfl (Evs.cons rfl Evs.nil)) goPm rfl ?_; rintro r cs' ⟨rfl, rfl⟩))) | fail)
  exact Fin.ret (Ent.take goTk) (Outs.one rfl rfl) ⟨rfl, rfl⟩
end Lg
end
