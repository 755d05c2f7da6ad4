/- A part of the proof of a law of this seat: it adds no condition. By an AI agent. -/
import Derived.Shelf.Slices.In.SortNone
import Derived.Test.YteommidoocekmaaGreatDoorLgFrm
import Derived.Test.YteommidoocekmaaGreatDoorCmpStr
import Derived.Test.YteommidoocekmaaGreatDoorGrp
section
set_option linter.all false
set_option maxRecDepth 100000
set_option maxHeartbeats 1000000
namespace Lg
open Go

theorem dd_short {α : Type} [DecidableEq α] {l : List α} (h : l.length < 2) : dd l = l := by
  rcases l with _ | ⟨a, _ | ⟨b, l⟩⟩
  · rfl
  · rfl
  · simp at h; omega
theorem dd_snoc {α : Type} [DecidableEq α] (a b : α) : ∀ l : List α, dd (l ++ [a] ++ [b]) = if a = b then dd (l ++ [a]) else dd (l ++ [a]) ++ [b]
  | [] => by
    show dd [a, b] = _
    by_cases h : a = b
    · rw [if_pos h, dd, if_pos h, h]; rfl
    · rw [if_neg h, dd, if_neg h]; rfl
  | [c] => by
    have ih := dd_snoc a b []
    simp only [List.nil_append] at ih
    show dd (c :: a :: [b]) = _
    rw [show dd ([c] ++ [a]) = if c = a then dd [a] else c :: dd [a] from rfl]
    have e : dd (c :: a :: [b]) = if c = a then dd (a :: [b]) else c :: dd (a :: [b]) := rfl
    rw [e]
    have ih2 : dd (a :: [b]) = if a = b then dd [a] else dd [a] ++ [b] := ih
    rw [ih2]
    by_cases h1 : c = a <;> by_cases h2 : a = b <;> simp [h1, h2]
  | c :: d :: l => by
    have ih := dd_snoc a b (d :: l)
    have e : ∀ m : List α, dd (c :: d :: m) = if c = d then dd (d :: m) else c :: dd (d :: m) := fun m => rfl
    show dd (c :: d :: (l ++ [a] ++ [b])) = if a = b then dd (c :: d :: (l ++ [a])) else dd (c :: d :: (l ++ [a])) ++ [b]
    rw [e, e]
    have ih2 : dd (d :: (l ++ [a] ++ [b])) = if a = b then dd (d :: (l ++ [a])) else dd (d :: (l ++ [a])) ++ [b] := ih
    rw [ih2]
    by_cases h1 : c = d <;> by_cases h2 : a = b <;> simp [h1, h2]
theorem dd_take {α : Type} [DecidableEq α] {L : List α} {k : Nat} {a b : α} (hk : 1 ≤ k) (ha : L[k - 1]? = some a) (hb : L[k]? = some b) : dd (L.take (k + 1)) = if a = b then dd (L.take k) else dd (L.take k) ++ [b] := by
  have e1 : L.take k = L.take (k - 1) ++ [a] := by
    have := take_at ha
    rwa [show k - 1 + 1 = k by omega] at this
  rw [take_at hb, e1]
  exact dd_snoc a b _
theorem dd_go {α : Type} [DecidableEq α] {L : List α} {k : Nat} {a b : α} (hk : 1 ≤ k) (ha : L[k - 1]? = some a) (hb : L[k]? = some b) (hd : dd (L.take k) = L.take k) (h : a ≠ b) : dd (L.take (k + 1)) = L.take (k + 1) := by
  rw [dd_take hk ha hb, if_neg h, hd, take_at hb]
/-- what memory holds while a slice is made compact: m taken, the first j of L seen -/
structure Cpt {α : Type} [DecidableEq α] (L W : List α) (m j : Nat) : Prop where
  len : W.length = L.length
  hm : m = (dd (L.take j)).length
  lt : m < j
  hj : j ≤ L.length
  done : W.take m = dd (L.take j)
  rest : W.drop (j - 1) = L.drop (j - 1)
theorem dd_dup {α : Type} [DecidableEq α] {L : List α} {k : Nat} {a : α} (hk : 1 ≤ k) (ha : L[k - 1]? = some a) (hb : L[k]? = some a) (hd : dd (L.take k) = L.take k) : Cpt L L k (k + 1) := by
  have hlt := (List.getElem?_eq_some_iff.1 hb).1
  have e : dd (L.take (k + 1)) = L.take k := by rw [dd_take hk ha hb, if_pos rfl, hd]
  exact ⟨rfl, by rw [e, List.length_take]; omega, by omega, by omega, by rw [e], rfl⟩
theorem Cpt.at0 {α : Type} [DecidableEq α] {L W : List α} {m j q : Nat} (h : Cpt L W m j) (hq : j - 1 ≤ q) : W[q]? = L[q]? := by
  have := congrArg (fun l => l[q - (j - 1)]?) h.rest
  simp only [List.getElem?_drop] at this
  rwa [show j - 1 + (q - (j - 1)) = q by omega] at this
theorem Cpt.same {α : Type} [DecidableEq α] {L W : List α} {m j : Nat} {a : α} (h : Cpt L W m j) (ha : L[j - 1]? = some a) (hb : L[j]? = some a) : Cpt L W m (j + 1) := by
  have hlt := (List.getElem?_eq_some_iff.1 hb).1
  have hj : 1 ≤ j := by have := h.lt; omega
  have e : dd (L.take (j + 1)) = dd (L.take j) := by rw [dd_take hj ha hb, if_pos rfl]
  refine ⟨h.len, by rw [e]; exact h.hm, by have := h.lt; omega, by omega, by rw [e]; exact h.done, ?_⟩
  have := congrArg (List.drop 1) h.rest
  rw [List.drop_drop, List.drop_drop] at this
  rwa [show j - 1 + 1 = j + 1 - 1 by omega] at this
theorem Cpt.new {α : Type} [DecidableEq α] {L W : List α} {m j : Nat} {a b : α} (h : Cpt L W m j) (ha : L[j - 1]? = some a) (hb : L[j]? = some b) (hab : a ≠ b) : Cpt L (W.set m b) (m + 1) (j + 1) := by
  have hlt := (List.getElem?_eq_some_iff.1 hb).1
  have hl := h.lt
  have hj : 1 ≤ j := by omega
  have hw := h.len
  have e : dd (L.take (j + 1)) = dd (L.take j) ++ [b] := by rw [dd_take hj ha hb, if_neg hab]
  refine ⟨by rw [List.length_set]; exact h.len, by rw [e, List.length_append, ← h.hm]; rfl, by omega, by omega, ?_, ?_⟩
  · rw [e, ← h.done]
    have hg : (W.set m b)[m]? = some b := List.getElem?_set_self (by omega)
    rw [take_at hg, List.take_set, List.set_eq_of_length_le (by rw [List.length_take]; omega)]
  · rw [List.drop_set, if_pos (by omega)]
    have := congrArg (List.drop 1) h.rest
    rw [List.drop_drop, List.drop_drop] at this
    rwa [show j - 1 + 1 = j + 1 - 1 by omega] at this
end Lg
end
section
set_option linter.all false
set_option maxRecDepth 100000
set_option maxHeartbeats 4000000
namespace Lg
open Go Go.Proofs

def strRows (l : List ByteArray) : List (List Tr) := l.map fun x => [Tr.str x]
abbrev Tr.strs (l : List ByteArray) : Tr := Tr.sl 1 (strRows l)
theorem strRows_len (l : List ByteArray) : (strRows l).length = l.length := by simp [strRows]
theorem strRows_at {l : List ByteArray} {j : Nat} {x : ByteArray} (h : l[j]? = some x) : (strRows l)[j]? = some [Tr.str x] := rows_at h
theorem strRows_get {l : List ByteArray} {j : Nat} (h : j < l.length) : (strRows l)[j]? = some [Tr.str l[j]] := strRows_at (List.getElem?_eq_getElem h)
inductive IsStrs : List (List Tr) → List ByteArray → Prop
  | nil : IsStrs [] []
  | cons {rows : List (List Tr)} {l : List ByteArray} {x : ByteArray} (h : IsStrs rows l) : IsStrs ([Tr.str x] :: rows) (x :: l)
theorem IsStrs.eq {rows : List (List Tr)} {l : List ByteArray} (h : IsStrs rows l) : rows = strRows l := by
  induction h with
  | nil => rfl
  | cons h ih => rw [ih]; rfl
/-- one of some strings -/
theorem one_gen {rows : List (List Tr)} {l : List ByteArray} (hr : IsStrs rows l) (h : 0 < l.length ∧ l.length ≤ 100000) :
    Gen Tryz.prog 25 22 [.sl 1 rows] 1 (fun r => ∃ v, r = .str v ∧ v ∈ l) := by
  have h := hr.eq
  subst h
  unfold Gen
  intro b xs N hN
  refine Spec.body Tryz.func22 rfl rfl (Tryz.ntmps22) rfl fun w0 own0 M => ?_
  have hl := strRows_len l
  repeat' (first | refine goH ?_ | refine goV ?_ | refine goI ?_ | (refine Cw.k_cond ?_; first | (refine Cw.cond_dec rfl (fun hc => ?_) (fun hc => ?_) <;> try (exfalso; omega)) | refine Cw.cond_bool rfl (fun hc => ?_) (fun hc => ?_)) | (refine Ops.k_calla ?_; first | (refine Ops.k_callf 21 ?_; (refine Ops.callG (next_gen _ (by omega)) (Evs.cons rfl (Evs.cons rfl Evs.nil)) goPk (by omega) rfl ?_; rintro r ⟨v, rfl, hv⟩; unfold InRange at hv; have hj : v.toNat < l.length := (by omega); have hj2 := strRows_get hj))) | fail)
  exact Fin.ret Ent.refl (Outs.one rfl rfl) ⟨rfl, _, rfl, List.getElem_mem hj⟩
end Lg
end
section
set_option linter.all false
set_option maxRecDepth 100000
set_option maxHeartbeats 8000000
namespace Lg
open Go Go.Proofs

/-! ### strings, sorted, each once -/
/-- a copy of its own -/
theorem clone_str (rows : List (List Tr)) (hk : ∀ r ∈ rows, r.length = 1) (hl : rows.length ≤ 1000000) : PFnO Tryz.prog 54 [.sl 1 rows] 1 9 (· = rows) := by
  unfold PFnO
  refine Spec.body Tryz.func54 rfl rfl (Tryz.ntmps54) rfl fun w0 own0 M => ?_
  repeat' (first | refine goH ?_ | ((fail_if_success refine Ops.k_b_eql ?_); (fail_if_success refine Ops.k_buildSlice ?_); refine goV ?_) | ((fail_if_success refine Ops.k_b_eql ?_); (fail_if_success refine Ops.k_buildSlice ?_); refine goC (fun ad cap => ?_)) | refine goI ?_ | (refine Cw.k_cond ?_; first | (refine Cw.cond_dec rfl (fun hc => ?_) (fun hc => ?_) <;> try (exfalso; omega)) | refine Cw.cond_bool rfl (fun hc => ?_) (fun hc => ?_)) | fail)
  refine Ops.eql_nilS rfl rfl (fun b hb => ?_)
  cases b
  · repeat' (first | refine goH ?_ | ((fail_if_success refine Ops.k_buildSlice ?_); refine goV ?_) | ((fail_if_success refine Ops.k_buildSlice ?_); refine goC (fun ad cap => ?_)) | refine goI ?_ | (refine Cw.k_cond ?_; first | (refine Cw.cond_dec rfl (fun hc => ?_) (fun hc => ?_) <;> try (exfalso; omega)) | refine Cw.cond_bool rfl (fun hc => ?_) (fun hc => ?_)) | fail)
    refine Ops.buildSlice_own (by exact Parts.nil) rfl rfl rfl (fun ad cap => ?_)
    repeat' (first | refine goH ?_ | refine goV ?_ | refine goC (fun ad cap => ?_) | refine goI ?_ | (refine Cw.k_cond ?_; first | (refine Cw.cond_dec rfl (fun hc => ?_) (fun hc => ?_) <;> try (exfalso; omega)) | refine Cw.cond_bool rfl (fun hc => ?_) (fun hc => ?_)) | fail)
    exact Fin.ret (Ent.take goTk) (Outs.one rfl rfl) ⟨_, _, _, rfl, rfl, rfl⟩
  · have hr := hb rfl
    subst hr
    repeat' (first | refine goH ?_ | refine goV ?_ | refine goC (fun ad cap => ?_) | refine goI ?_ | (refine Cw.k_cond ?_; first | (refine Cw.cond_dec rfl (fun hc => ?_) (fun hc => ?_) <;> try (exfalso; omega)) | refine Cw.cond_bool rfl (fun hc => ?_) (fun hc => ?_)) | fail)
    exact Fin.ret (Ent.trans (Ent.nil 1 9) (Ent.take goTk)) (Outs.one rfl rfl) ⟨none, 0, [], rfl, rfl, rfl⟩

theorem OpV.str_nev {P : Program} {Γ : Ctx} {env : Env} {cs : List Chunk} {ty T T2 : TypeId} {x y : Operand} {s u : ByteArray} {r : Bool} (hr : decide (s = u) = r) (hx : ev env x = some (.str s)) (hy : ev env y = some (.str u)) : OpV P Γ (.binOp .neq T x y T2) ty env cs (.bool (!r)) := by
  have := OpV.neqS (P := P) (Γ := Γ) (ty := ty) (cs := cs) (T := T) (T2 := T2) hx hy
  have e : decide (s ≠ u) = !r := by rw [← hr]; by_cases h : s = u <;> simp [h]
  rwa [e] at this
/-- slices.Compact of a slice of one's own: neighbours that are the same, once -/
theorem compact_str {ad : Option Addr} {n cap : Nat} (L : List ByteArray) (hn : n = L.length) (hl : n ≤ 1000000) :
    Spec Tryz.prog 56 [Tr.raw (.slice ad n cap)] [Chunk.own ad cap 1 9 (L.map (fun x => [Tr.str x]))] (fun r cs => ∃ m, m = (dd L).length ∧ r = Tr.raw (.slice ad m cap) ∧ cs = [Chunk.own ad cap 1 9 ((dd L).map (fun x => [Tr.str x]))]) := by
  refine Spec.body Tryz.func56 rfl rfl (Tryz.ntmps56) rfl fun w0 own0 M => ?_
  have hLr : (L.map (fun x => [Tr.str x])).length = n := by rw [List.length_map, hn]
  by_cases hs : n < 2
  · repeat' (first | refine goH ?_ | refine goV ?_ | refine goI ?_ | (refine Cw.k_cond ?_; first | (refine Cw.cond_dec rfl (fun hc => ?_) (fun hc => ?_) <;> try (exfalso; omega)) | refine Cw.cond_bool rfl (fun hc => ?_) (fun hc => ?_)) | refine goR ?_ | refine goP ?_ | apply PSeq.cons | apply PSeq.yes rfl rfl rfl | exact goW | fail)
    have hd : dd L = L := dd_short (by omega)
    rw [hd]
    exact Fin.ret (Ent.take goTk) (Outs.one rfl rfl) ⟨_, hn, rfl, rfl⟩
  repeat' (first | refine goH ?_ | refine goV ?_ | refine goI ?_ | (refine Cw.k_cond ?_; first | (refine Cw.cond_dec rfl (fun hc => ?_) (fun hc => ?_) <;> try (exfalso; omega)) | refine Cw.cond_bool rfl (fun hc => ?_) (fun hc => ?_)) | refine goR ?_ | refine goP ?_ | apply PSeq.cons | apply PSeq.yes rfl rfl rfl | exact goW | fail)
  refine Cw.loopI [(0, _)] _ (fun q e cc => ∃ (k : Nat), q = n - k ∧ (1 ≤ k ∧ k ≤ n ∧ dd (L.take k) = L.take k) ∧ e = [(3, .int k)] ∧ cc = [Chunk.own ad cap 1 9 (L.map (fun x => [Tr.str x]))]) ⟨_, _, _, (Ent.mkP goSub goPm), 1, rfl, ⟨by omega, by omega, dd_short (by rw [List.length_take]; omega)⟩, rfl, rfl⟩ ?_
  rintro _ _ _ ⟨k, rfl, ⟨hk1, hk, hd⟩, rfl, rfl⟩
  by_cases hkl : k < n
  rotate_left
  · have hke : k = n := by omega
    subst hke
    rw [hn, List.take_length] at hd
    repeat' (first | refine goH ?_ | refine goV ?_ | refine goI ?_ | (refine Cw.k_cond ?_; first | (refine Cw.cond_dec rfl (fun hc => ?_) (fun hc => ?_) <;> try (exfalso; omega)) | refine Cw.cond_bool rfl (fun hc => ?_) (fun hc => ?_)) | refine goR ?_ | refine goP ?_ | apply PSeq.cons | apply PSeq.yes rfl rfl rfl | exact goW | fail)
    rw [hd]
    exact Fin.ret (Ent.take goTk) (Outs.one rfl rfl) ⟨_, hn, rfl, rfl⟩
  refine Cw.own_form (List.Perm.refl _) (by omega) ?_
  rintro g rfl hcp hcm
  rw [hLr] at hcp
  obtain ⟨a, ha⟩ := at_lt (l := L) (k := k - 1) (by omega)
  obtain ⟨b, hb⟩ := at_lt (l := L) (k := k) (by omega)
  have ra : (L.map (fun x => [Tr.str x]))[((k : Int) - 1).toNat]? = some ((fun x => [Tr.str x]) a) := by rw [show ((k : Int) - 1).toNat = k - 1 by omega]; exact rows_at ha
  have rb : (L.map (fun x => [Tr.str x]))[((k : Nat) : Int).toNat]? = some ((fun x => [Tr.str x]) b) := by rw [Int.toNat_natCast]; exact rows_at hb
  simp only at ra rb
  by_cases hab : b = a
  rotate_left
  · have hd2 := dd_go hk1 ha hb hd (fun h => hab h.symm)
    have he : decide (b = a) = false := decide_eq_false hab
    repeat' (first | refine goH ?_ | refine goV ?_ | refine goI ?_ | (refine Cw.k_cond ?_; first | (refine Cw.cond_dec rfl (fun hc => ?_) (fun hc => ?_) <;> try (exfalso; omega)) | refine Cw.cond_bool rfl (fun hc => ?_) (fun hc => ?_)) | refine goR ?_ | refine goP ?_ | apply PSeq.cons | apply PSeq.yes rfl rfl rfl | exact goW | fail)
    exact ⟨_, _, _, (Ent.mk goSub goTk), ⟨k + 1, rfl, ⟨by omega, by omega, hd2⟩, rfl, rfl⟩, by omega⟩
  subst hab
  have hw := dd_dup hk1 ha hb hd
  have he : decide (b = b) = true := decide_eq_true rfl
  clear ha hb
  repeat' (first | refine goH ?_ | ((fail_if_success refine Ops.k_slice ?_); refine goV ?_) | refine goI ?_ | (refine Cw.k_cond ?_; first | (refine Cw.cond_dec rfl (fun hc => ?_) (fun hc => ?_) <;> try (exfalso; omega)) | refine Cw.cond_bool rfl (fun hc => ?_) (fun hc => ?_)) | refine goR ?_ | refine goP ?_ | apply PSeq.cons | apply PSeq.yes rfl rfl rfl | exact goW | fail)
  clear he
  refine Ops.k_slice ?_
  refine Ops.sliceR_l rfl rfl (by omega) (by omega) rfl ?_
  clear ra rb
  rw [show Tr.raw (Value.slice (some ⟨g, 0 + ((k : Nat) : Int).toNat * 1, none⟩) (n - ((k : Nat) : Int).toNat) (cap - ((k : Nat) : Int).toNat)) = Tr.qsl (some ⟨g, 0, none⟩) k 1 (n - k) (cap - k) by unfold Tr.qsl; rw [Int.toNat_natCast, Nat.zero_add]; rfl]
  repeat' (first | refine goH ?_ | refine goV ?_ | refine goI ?_ | (refine Cw.k_cond ?_; first | (refine Cw.cond_dec rfl (fun hc => ?_) (fun hc => ?_) <;> try (exfalso; omega)) | refine Cw.cond_bool rfl (fun hc => ?_) (fun hc => ?_)) | refine goR ?_ | refine goP ?_ | apply PSeq.cons | apply PSeq.yes rfl rfl rfl | exact goW | fail)
  refine Cw.loopI [(0, _), (4, _)] _ (fun q e cc => ∃ (i m : Nat) (W : List ByteArray), q = n - i ∧ (1 ≤ i ∧ k + i ≤ n ∧ Cpt L W m (k + i)) ∧ e = [(3, .int m), (5, .int i)] ∧ cc = [Chunk.own (some ⟨g, 0, none⟩) cap 1 9 (W.map (fun x => [Tr.str x]))]) ⟨_, _, _, (Ent.mkP goSub goPm), 1, k, L, rfl, ⟨by omega, by omega, hw⟩, rfl, rfl⟩ ?_
  clear hw
  rintro _ _ _ ⟨i, m, W, rfl, ⟨hi1, hik, hw⟩, rfl, rfl⟩
  have hWl : (W.map (fun x => [Tr.str x])).length = n := by rw [List.length_map, hw.len, hn]
  have hmlt := hw.lt
  by_cases hin : k + i < n
  · obtain ⟨a, ha⟩ := at_lt (l := L) (k := k + i - 1) (by omega)
    obtain ⟨b, hb⟩ := at_lt (l := L) (k := k + i) (by omega)
    have ra : (W.map (fun x => [Tr.str x]))[k + ((i : Int) - 1).toNat]? = some ((fun x => [Tr.str x]) a) := by rw [show k + ((i : Int) - 1).toNat = k + i - 1 by omega]; exact rows_at ((hw.at0 (by omega)).trans ha)
    have rb : (W.map (fun x => [Tr.str x]))[k + ((i : Nat) : Int).toNat]? = some ((fun x => [Tr.str x]) b) := by rw [Int.toNat_natCast]; exact rows_at ((hw.at0 (by omega)).trans hb)
    simp only at ra rb
    by_cases hab : b = a
    · subst hab
      have hw2 := hw.same ha hb
      have he : decide (b = b) = true := decide_eq_true rfl
      clear ha hb hw
      repeat' (first | refine goH ?_ | (refine Ops.k_indexAddr ?_; first | (refine Ops.indexAddr_sub rfl rfl goPk (by omega) (by omega) (by omega) rfl ?_)) | (refine Ops.k_b_neq ?_; first | (refine Ops.val' rfl (OpV.str_nev he rfl rfl) ?_)) | refine goV ?_ | refine goI ?_ | (refine Cw.k_cond ?_; first | (refine Cw.cond_dec rfl (fun hc => ?_) (fun hc => ?_) <;> try (exfalso; omega)) | refine Cw.cond_bool rfl (fun hc => ?_) (fun hc => ?_)) | (apply OpV.w; apply OpV.k_indexAddr; exact OpV.indexAddr_sub rfl rfl goPk (by omega) (by omega) (by omega)) | (apply OpV.w; apply OpV.k_b_neq; exact OpV.str_nev he rfl rfl) | refine goR ?_ | refine goP ?_ | apply PSeq.cons | apply PSeq.yes rfl rfl rfl | exact goW | fail)
      exact ⟨_, _, _, (Ent.mk goSub goTk), ⟨i + 1, m, W, rfl, ⟨by omega, by omega, hw2⟩, rfl, rfl⟩, by omega⟩
    · have hw2 := hw.new ha hb (fun h => hab h.symm)
      have he : decide (b = a) = false := decide_eq_false hab
      have hset : (W.map (fun x => [Tr.str x])).set m ((fun x => [Tr.str x]) b) = (W.set m b).map (fun x => [Tr.str x]) := by rw [List.map_set]
      obtain ⟨c, hc⟩ := at_lt (l := W) (k := m) (by rw [hw.len]; omega)
      have rc : (W.map (fun x => [Tr.str x]))[((m : Nat) : Int).toNat]? = some ((fun x => [Tr.str x]) c) := by rw [Int.toNat_natCast]; exact rows_at hc
      try simp only at rc hset
      clear ha hb hw hc
      repeat' (first | refine goH ?_ | (refine Ops.k_indexAddr ?_; first | (refine Ops.indexAddr_sub rfl rfl goPk (by omega) (by omega) (by omega) rfl ?_)) | (refine Ops.k_b_neq ?_; first | (refine Ops.val' rfl (OpV.str_nev he rfl rfl) ?_)) | refine goV ?_ | refine goI ?_ | (refine Cw.k_cond ?_; first | (refine Cw.cond_dec rfl (fun hc => ?_) (fun hc => ?_) <;> try (exfalso; omega)) | refine Cw.cond_bool rfl (fun hc => ?_) (fun hc => ?_)) | (apply OpV.w; apply OpV.k_indexAddr; exact OpV.indexAddr_sub rfl rfl goPk (by omega) (by omega) (by omega)) | (apply OpV.w; apply OpV.k_b_neq; exact OpV.str_nev he rfl rfl) | refine goR ?_ | refine goP ?_ | apply PSeq.cons | apply PSeq.yes rfl rfl rfl | exact goW | fail)
      erw [hset]
      exact ⟨_, _, _, (Ent.mk goSub goTk), ⟨i + 1, m + 1, _, rfl, ⟨by omega, by omega, hw2⟩, rfl, rfl⟩, by omega⟩
  have hie : k + i = n := by omega
  have hdone := hw.done
  have hm := hw.hm
  rw [hie, hn, List.take_length] at hdone hm
  clear hw
  repeat' (first | refine goH ?_ | (refine Ops.k_slice ?_; first | (refine Ops.sliceR_l rfl rfl (by omega) (by omega) rfl ?_)) | ((fail_if_success refine Ops.k_c_clear ?_); refine goV ?_) | refine goI ?_ | (refine Cw.k_cond ?_; first | (refine Cw.cond_dec rfl (fun hc => ?_) (fun hc => ?_) <;> try (exfalso; omega)) | refine Cw.cond_bool rfl (fun hc => ?_) (fun hc => ?_)) | refine goR ?_ | refine goP ?_ | apply PSeq.cons | apply PSeq.yes rfl rfl rfl | exact goW | fail)
  refine Ops.k_c_clear ?_
  refine Ops.clear_part (o := m) rfl (List.Perm.refl _) (by rw [Int.toNat_natCast, Nat.zero_add]; rfl) (by omega) (by omega) ?_
  rw [Int.toNat_natCast]
  have hz : ((W.map (fun x => [Tr.str x])).take m ++ List.replicate (n - m) (List.map Tr.raw [Value.string ByteArray.empty])).take m = (dd L).map (fun x => [Tr.str x]) := by
    rw [List.take_append_of_le_length (by rw [List.length_take, hWl]; omega), List.take_take, Nat.min_self, ← List.map_take, hdone]
  have hzl : ((W.map (fun x => [Tr.str x])).take m ++ List.replicate (n - m) (List.map Tr.raw [Value.string ByteArray.empty])).length = n := by rw [List.length_append, List.length_take, hWl, List.length_replicate]; omega
  generalize (W.map (fun x => [Tr.str x])).take m ++ List.replicate (n - m) (List.map Tr.raw [Value.string ByteArray.empty]) = Z at *
  repeat' (first | refine goH ?_ | refine goV ?_ | refine goI ?_ | (refine Cw.k_cond ?_; first | (refine Cw.cond_dec rfl (fun hc => ?_) (fun hc => ?_) <;> try (exfalso; omega)) | refine Cw.cond_bool rfl (fun hc => ?_) (fun hc => ?_)) | refine goR ?_ | refine goP ?_ | apply PSeq.cons | apply PSeq.yes rfl rfl rfl | exact goW | fail)
  rw [Int.toNat_natCast, hz]
  exact Fin.ret (Ent.take goTk) (Outs.one rfl rfl) ⟨_, List.length_map _, rfl, rfl⟩

theorem strRows_kB (l : List ByteArray) : ∀ r ∈ strRows l, r.length = 1 := by
  intro r hr
  unfold strRows at hr
  obtain ⟨x, _, rfl⟩ := List.mem_map.1 hr
  rfl
theorem sortS_fn (xs : List ByteArray) (hl : xs.length ≤ 1000000) (ad : Option Addr) (cap n : Nat) (hn : n = xs.length) : ∃ ys : List ByteArray, ys.Perm xs ∧ (ys.Pairwise fun a b => ¬ strLt b a = true) ∧ Spec Tryz.prog 55 [Tr.raw (.slice ad n cap)] [Chunk.own ad cap 1 9 (strRows xs)] (fun r cs => cs = [Chunk.own ad cap 1 9 (strRows ys)]) := by
  by_cases h0 : xs.length = 0
  · have hus := List.eq_nil_of_length_eq_zero h0
    subst hus
    refine ⟨[], List.Perm.refl _, List.Pairwise.nil, ?_⟩
    have h : PFn Tryz.prog 55 [Tr.raw (.slice ad n cap)] (· = .raw (.tuple #[])) := PFn.of_calls (args := [.slice ad n cap]) (fun vs w => rfl) (fun w => by
      rw [hn]
      refine (Any.slices_Sort_string_none Tryz.lays190 ad cap w).mono ?_
      rintro e w' ⟨rfl, rfl⟩
      exact ⟨rfl, Go.RowKit.Below.refl _ _, fun _ => Nat.le_refl _⟩)
    refine Spec.mono (h.spec.frame [Chunk.own ad cap 1 9 (strRows [])]) ?_
    rintro r cs ⟨c2, ⟨rfl, _⟩, rfl⟩
    rfl
  · obtain ⟨ys, h1, h2, h3⟩ := sortStrs Tryz.lays190 (fun vs w => rfl) (ad := ad) (cap := cap) (E := 9) (xs := xs) hn (by omega) (by omega)
    refine ⟨ys, h1, h2.imp fun {a b} h => ?_, Spec.mono h3 ?_⟩
    · rw [strLt_list, h]
      simp
    · rintro r cs ⟨_, rfl⟩
      rfl
theorem sorted_fn (l : List ByteArray) (hl : l.length ≤ 1000000) : ∃ K : List ByteArray, (K.Pairwise fun a b => strLt a b = true) ∧ (∀ x, x ∈ K ↔ x ∈ l) ∧ K.length ≤ l.length ∧ PFn Tryz.prog 39 [.strs l] (· = .strs K) := by
  have hL := strRows_len l
  have hex : ∃ ys : List ByteArray, ys.Perm l ∧ (ys.Pairwise fun a b => ¬ strLt b a = true) ∧ ∀ (ad : Option Addr) (cap : Nat), Spec Tryz.prog 55 [Tr.raw (.slice ad (strRows l).length cap)] [Chunk.own ad cap 1 9 (strRows l)] (fun r cs => cs = [Chunk.own ad cap 1 9 (strRows ys)]) := by
    obtain ⟨ys, h1, h2, _⟩ := sortS_fn l hl none 0 _ hL
    refine ⟨ys, h1, h2, fun ad cap => ?_⟩
    obtain ⟨zs, g1, g2, g3⟩ := sortS_fn l hl ad cap _ hL
    have e : zs = ys := sorted_uniq (le := fun a b => ¬ strLt b a = true) (g1.trans h1.symm) (fun a _ b _ h3 h4 => by
      simp only [Bool.not_eq_true] at h3 h4
      exact strLt_tri h4 h3) g2 h2
    rwa [e] at g3
  obtain ⟨ys, h1, h2, h3⟩ := hex
  have hyl := h1.length_eq
  have k1 := clone_str (strRows l) (strRows_kB l) (by omega)
  unfold PFnO at k1
  have k2 := fun (ad : Option Addr) (cap : Nat) => compact_str (ad := ad) (cap := cap) (n := (strRows l).length) ys (by omega) (by omega)
  have hd := dd_sorted (le := fun a b => ¬ strLt b a = true) (fun a b h3 h4 => by
      simp only [Bool.not_eq_true] at h3 h4
      exact strLt_tri h4 h3) ys h2
  refine ⟨dd ys, hd.imp fun {a b} h => ?_, fun x => by rw [dd_mem, h1.mem_iff], by have := (dd_sub ys).length_le; omega, ?_⟩
  · cases h5 : strLt a b with
    | true => rfl
    | false => exact absurd (strLt_tri h5 (by simpa using h.1)) h.2
  change ∀ (ad : Option Addr) (cap : Nat), Spec Tryz.prog 56 [Tr.raw (.slice ad (strRows l).length cap)] [Chunk.own ad cap 1 9 (strRows ys)] (fun r cs => ∃ m, m = (dd ys).length ∧ r = Tr.raw (.slice ad m cap) ∧ cs = [Chunk.own ad cap 1 9 (strRows (dd ys))]) at k2
  generalize hK : dd ys = K at *
  have hKl := strRows_len K
  clear hK hd h2
  refine PFn.mk (Spec.body Tryz.func39 rfl rfl (Tryz.ntmps39) rfl fun w0 own0 M => ?_)
  repeat' (first | refine goH ?_ | refine goV ?_ | refine goI ?_ | (refine Cw.k_cond ?_; first | (refine Cw.cond_dec rfl (fun hc => ?_) (fun hc => ?_) <;> try (exfalso; omega)) | refine Cw.cond_bool rfl (fun hc => ?_) (fun hc => ?_)) | (refine Ops.k_calla ?_; first | (refine Ops.k_callf 54 ?_; (refine Ops.call k1 (Evs.cons rfl Evs.nil) (List.Perm.refl _) rfl ?_; rintro r cs' ⟨ad, cap, rows, rfl, rfl, rfl⟩)) | (refine Ops.call (h3 _ _) (Evs.cons rfl Evs.nil) goPm rfl ?_; rintro r cs' rfl) | (refine Ops.k_callf 56 ?_; (refine Ops.call (k2 _ _) (Evs.cons rfl Evs.nil) goPm rfl ?_; rintro r cs' ⟨m, rfl, rfl, rfl⟩; rw [← hKl]))) | fail)
  refine Fin.ret (Ent.trans (Ent.settle (s := 2) rfl goPk rfl) (Ent.take goTk)) (Outs.sole rfl goOe) ⟨rfl, rfl⟩
/-! ### who is a suspect -/
def oddB (L : List Int) : List Int := (L.filter fun n => !decide (n = 0)).drop ((L.filter fun n => !decide (n = 0)).length - 60)
def negB (L : List Int) : Nat := (L.filter fun n => decide (n < 0)).length
def susB (L : List Int) (least : Int) : Bool := decide (sumQ L < 0) && decide (headsP (oddB L).length (negB (oddB L)) * least ≤ ((2 ^ (oddB L).length : Nat) : Int))
def SusP (l : List Bag) (least : Int) (x : Nm) : Prop := (∃ b ∈ l, b.who = x.key) ∧ x.many = sumQ (ownB l x.key) ∧ susB (ownB l x.key) least = true
theorem oddB_len (L : List Int) : (oddB L).length ≤ 60 := by unfold oddB; rw [List.length_drop]; omega
theorem negB_len (L : List Int) : negB L ≤ L.length := List.length_filter_le _ _
theorem negB_take {L : List Int} {k : Nat} {x : Int} (h : L[k]? = some x) : (negB (L.take (k + 1)) : Int) = negB (L.take k) + (if x < 0 then 1 else 0) := by
  unfold negB
  rw [take_at h, List.filter_append, List.length_append]
  by_cases hx : x < 0
  · simp [hx]
  · simp [hx]
theorem frac_le {H Q least : Int} (hH : 0 ≤ H) (hQ : 1 ≤ Q) (hl : 1 ≤ least) : (frac H Q).num ≤ (frac H Q).den.tdiv least ↔ H * least ≤ Q := by
  have hg := gcdI_pos (a := H) hQ
  unfold frac
  simp only
  have d1 : gcdI H Q ∣ H := by unfold gcdI; exact Int.ofNat_dvd_left.2 (Nat.gcd_dvd_left _ _)
  have d2 : gcdI H Q ∣ Q := by unfold gcdI; exact Int.ofNat_dvd_left.2 (Nat.gcd_dvd_right _ _)
  generalize gcdI H Q = g at *
  obtain ⟨a, rfl⟩ := d1
  obtain ⟨b, rfl⟩ := d2
  have hb : 0 ≤ b := by
    refine Classical.byContradiction fun h => ?_
    have := Int.mul_nonpos_of_nonneg_of_nonpos (a := g) (b := b) (by omega) (by omega)
    omega
  rw [Int.mul_tdiv_cancel_left a (by omega), Int.mul_ediv_cancel_left b (by omega), Int.tdiv_eq_ediv_of_nonneg hb, Int.le_ediv_iff_mul_le (by omega)]
  rw [Int.mul_assoc]
  exact (Int.mul_le_mul_left (by omega)).symm
theorem gcd_frac_bd {H Q : Int} (hH : 0 ≤ H ∧ H ≤ 1152921504606846976) (hQ : 1 ≤ Q ∧ Q ≤ 1152921504606846976) : 0 ≤ (frac H Q).num ∧ (frac H Q).num ≤ 1152921504606846976 ∧ 0 ≤ (frac H Q).den ∧ (frac H Q).den ≤ 1152921504606846976 := by
  have hg := gcdI_pos (a := H) hQ.1
  unfold frac
  simp only
  generalize gcdI H Q = g at *
  rw [Int.tdiv_eq_ediv_of_nonneg hH.1]
  have h1 := Int.ediv_nonneg hH.1 (show 0 ≤ g by omega)
  have h2 := Int.ediv_nonneg (show 0 ≤ Q by omega) (show 0 ≤ g by omega)
  have h3 := Int.ediv_le_self g hH.1
  have h4 := Int.ediv_le_self g (show 0 ≤ Q by omega)
  omega
end Lg
end
