/- A part of the proof of a law of this seat: it adds no condition. By an AI agent. -/
import Derived.Shelf.Sort.Plain
import Derived.Shelf.Slices.In.SortNone
import Derived.Test.YtaoclkglimibeaaGreatDoorLgLawV
import Derived.Test.YtaoclkglimibeaaGreatDoorNmS
section
set_option linter.all false
set_option maxRecDepth 100000
set_option maxHeartbeats 1000000
namespace Lg
open Go

theorem dd_short {α : Type} [DecidableEq α] {l : List α} (h : l.length < 2) : dd l = l := by
  rcases l with _ | ⟨a, _ | ⟨b, l⟩⟩
  · rfl
  · rfl
  · simp at h; omega
theorem dd_snoc {α : Type} [DecidableEq α] (a b : α) : ∀ l : List α, dd (l ++ [a] ++ [b]) = if a = b then dd (l ++ [a]) else dd (l ++ [a]) ++ [b]
  | [] => by
    show dd [a, b] = _
    by_cases h : a = b
    · rw [if_pos h, dd, if_pos h, h]; rfl
    · rw [if_neg h, dd, if_neg h]; rfl
  | [c] => by
    have ih := dd_snoc a b []
    simp only [List.nil_append] at ih
    show dd (c :: a :: [b]) = _
    rw [show dd ([c] ++ [a]) = if c = a then dd [a] else c :: dd [a] from rfl]
    have e : dd (c :: a :: [b]) = if c = a then dd (a :: [b]) else c :: dd (a :: [b]) := rfl
    rw [e]
    have ih2 : dd (a :: [b]) = if a = b then dd [a] else dd [a] ++ [b] := ih
    rw [ih2]
    by_cases h1 : c = a <;> by_cases h2 : a = b <;> simp [h1, h2]
  | c :: d :: l => by
    have ih := dd_snoc a b (d :: l)
    have e : ∀ m : List α, dd (c :: d :: m) = if c = d then dd (d :: m) else c :: dd (d :: m) := fun m => rfl
    show dd (c :: d :: (l ++ [a] ++ [b])) = if a = b then dd (c :: d :: (l ++ [a])) else dd (c :: d :: (l ++ [a])) ++ [b]
    rw [e, e]
    have ih2 : dd (d :: (l ++ [a] ++ [b])) = if a = b then dd (d :: (l ++ [a])) else dd (d :: (l ++ [a])) ++ [b] := ih
    rw [ih2]
    by_cases h1 : c = d <;> by_cases h2 : a = b <;> simp [h1, h2]
theorem dd_take {α : Type} [DecidableEq α] {L : List α} {k : Nat} {a b : α} (hk : 1 ≤ k) (ha : L[k - 1]? = some a) (hb : L[k]? = some b) : dd (L.take (k + 1)) = if a = b then dd (L.take k) else dd (L.take k) ++ [b] := by
  have e1 : L.take k = L.take (k - 1) ++ [a] := by
    have := take_at ha
    rwa [show k - 1 + 1 = k by omega] at this
  rw [take_at hb, e1]
  exact dd_snoc a b _
theorem dd_go {α : Type} [DecidableEq α] {L : List α} {k : Nat} {a b : α} (hk : 1 ≤ k) (ha : L[k - 1]? = some a) (hb : L[k]? = some b) (hd : dd (L.take k) = L.take k) (h : a ≠ b) : dd (L.take (k + 1)) = L.take (k + 1) := by
  rw [dd_take hk ha hb, if_neg h, hd, take_at hb]
/-- what memory holds while a slice is made compact: m taken, the first j of L seen -/
structure Cpt {α : Type} [DecidableEq α] (L W : List α) (m j : Nat) : Prop where
  len : W.length = L.length
  hm : m = (dd (L.take j)).length
  lt : m < j
  hj : j ≤ L.length
  done : W.take m = dd (L.take j)
  rest : W.drop (j - 1) = L.drop (j - 1)
theorem dd_dup {α : Type} [DecidableEq α] {L : List α} {k : Nat} {a : α} (hk : 1 ≤ k) (ha : L[k - 1]? = some a) (hb : L[k]? = some a) (hd : dd (L.take k) = L.take k) : Cpt L L k (k + 1) := by
  have hlt := (List.getElem?_eq_some_iff.1 hb).1
  have e : dd (L.take (k + 1)) = L.take k := by rw [dd_take hk ha hb, if_pos rfl, hd]
  exact ⟨rfl, by rw [e, List.length_take]; omega, by omega, by omega, by rw [e], rfl⟩
theorem Cpt.at0 {α : Type} [DecidableEq α] {L W : List α} {m j q : Nat} (h : Cpt L W m j) (hq : j - 1 ≤ q) : W[q]? = L[q]? := by
  have := congrArg (fun l => l[q - (j - 1)]?) h.rest
  simp only [List.getElem?_drop] at this
  rwa [show j - 1 + (q - (j - 1)) = q by omega] at this
theorem Cpt.same {α : Type} [DecidableEq α] {L W : List α} {m j : Nat} {a : α} (h : Cpt L W m j) (ha : L[j - 1]? = some a) (hb : L[j]? = some a) : Cpt L W m (j + 1) := by
  have hlt := (List.getElem?_eq_some_iff.1 hb).1
  have hj : 1 ≤ j := by have := h.lt; omega
  have e : dd (L.take (j + 1)) = dd (L.take j) := by rw [dd_take hj ha hb, if_pos rfl]
  refine ⟨h.len, by rw [e]; exact h.hm, by have := h.lt; omega, by omega, by rw [e]; exact h.done, ?_⟩
  have := congrArg (List.drop 1) h.rest
  rw [List.drop_drop, List.drop_drop] at this
  rwa [show j - 1 + 1 = j + 1 - 1 by omega] at this
theorem Cpt.new {α : Type} [DecidableEq α] {L W : List α} {m j : Nat} {a b : α} (h : Cpt L W m j) (ha : L[j - 1]? = some a) (hb : L[j]? = some b) (hab : a ≠ b) : Cpt L (W.set m b) (m + 1) (j + 1) := by
  have hlt := (List.getElem?_eq_some_iff.1 hb).1
  have hl := h.lt
  have hj : 1 ≤ j := by omega
  have hw := h.len
  have e : dd (L.take (j + 1)) = dd (L.take j) ++ [b] := by rw [dd_take hj ha hb, if_neg hab]
  refine ⟨by rw [List.length_set]; exact h.len, by rw [e, List.length_append, ← h.hm]; rfl, by omega, by omega, ?_, ?_⟩
  · rw [e, ← h.done]
    have hg : (W.set m b)[m]? = some b := List.getElem?_set_self (by omega)
    rw [take_at hg, List.take_set, List.set_eq_of_length_le (by rw [List.length_take]; omega)]
  · rw [List.drop_set, if_pos (by omega)]
    have := congrArg (List.drop 1) h.rest
    rw [List.drop_drop, List.drop_drop] at this
    rwa [show j - 1 + 1 = j + 1 - 1 by omega] at this
end Lg
end
section
set_option linter.all false
set_option maxRecDepth 100000
set_option maxHeartbeats 8000000
namespace Lg
open Go Go.Proofs

/-! ### sorting strings, at whatever length; coilref.sorted -/
/-- a copy of its own -/
theorem clone_str (rows : List (List Tr)) (hk : ∀ r ∈ rows, r.length = 1) (hl : rows.length ≤ 1000000) : PFnO Tryz.prog 64 [.sl 1 rows] 1 9 (· = rows) := by
  unfold PFnO
  refine Spec.body Tryz.func64 rfl rfl (Tryz.ntmps64) rfl fun w0 own0 M => ?_
  repeat' (first | refine goH ?_ | ((fail_if_success refine Ops.k_b_eql ?_); (fail_if_success refine Ops.k_buildSlice ?_); refine goV ?_) | ((fail_if_success refine Ops.k_b_eql ?_); (fail_if_success refine Ops.k_buildSlice ?_); refine goC (fun ad cap => ?_)) | refine goI ?_ | (refine Cw.k_cond ?_; first | (refine Cw.cond_dec rfl (fun hc => ?_) (fun hc => ?_) <;> try (exfalso; omega)) | refine Cw.cond_bool rfl (fun hc => ?_) (fun hc => ?_)) | fail)
  refine Ops.eql_nilS rfl rfl (fun b hb => ?_)
  cases b
  · repeat' (first | refine goH ?_ | ((fail_if_success refine Ops.k_buildSlice ?_); refine goV ?_) | ((fail_if_success refine Ops.k_buildSlice ?_); refine goC (fun ad cap => ?_)) | refine goI ?_ | (refine Cw.k_cond ?_; first | (refine Cw.cond_dec rfl (fun hc => ?_) (fun hc => ?_) <;> try (exfalso; omega)) | refine Cw.cond_bool rfl (fun hc => ?_) (fun hc => ?_)) | fail)
    refine Ops.buildSlice_own (by exact Parts.nil) rfl rfl rfl (fun ad cap => ?_)
    repeat' (first | refine goH ?_ | refine goV ?_ | refine goC (fun ad cap => ?_) | refine goI ?_ | (refine Cw.k_cond ?_; first | (refine Cw.cond_dec rfl (fun hc => ?_) (fun hc => ?_) <;> try (exfalso; omega)) | refine Cw.cond_bool rfl (fun hc => ?_) (fun hc => ?_)) | fail)
    exact Fin.ret (Ent.take goTk) (Outs.one rfl rfl) ⟨_, _, _, rfl, rfl, rfl⟩
  · have hr := hb rfl
    subst hr
    repeat' (first | refine goH ?_ | refine goV ?_ | refine goC (fun ad cap => ?_) | refine goI ?_ | (refine Cw.k_cond ?_; first | (refine Cw.cond_dec rfl (fun hc => ?_) (fun hc => ?_) <;> try (exfalso; omega)) | refine Cw.cond_bool rfl (fun hc => ?_) (fun hc => ?_)) | fail)
    exact Fin.ret (Ent.trans (Ent.nil 1 9) (Ent.take goTk)) (Outs.one rfl rfl) ⟨none, 0, [], rfl, rfl, rfl⟩

theorem OpV.str_nev {P : Program} {Γ : Ctx} {env : Env} {cs : List Chunk} {ty T T2 : TypeId} {x y : Operand} {s u : ByteArray} {r : Bool} (hr : decide (s = u) = r) (hx : ev env x = some (.str s)) (hy : ev env y = some (.str u)) : OpV P Γ (.binOp .neq T x y T2) ty env cs (.bool (!r)) := by
  have := OpV.neqS (P := P) (Γ := Γ) (ty := ty) (cs := cs) (T := T) (T2 := T2) hx hy
  have e : decide (s ≠ u) = !r := by rw [← hr]; by_cases h : s = u <;> simp [h]
  rwa [e] at this
/-- slices.Compact of a slice of one's own: neighbours that are the same, once -/
theorem compact_str {ad : Option Addr} {n cap : Nat} (L : List ByteArray) (hn : n = L.length) (hl : n ≤ 1000000) :
    Spec Tryz.prog 66 [Tr.raw (.slice ad n cap)] [Chunk.own ad cap 1 9 (L.map (fun x => [Tr.str x]))] (fun r cs => ∃ m, m = (dd L).length ∧ r = Tr.raw (.slice ad m cap) ∧ cs = [Chunk.own ad cap 1 9 ((dd L).map (fun x => [Tr.str x]))]) := by
  refine Spec.body Tryz.func66 rfl rfl (Tryz.ntmps66) rfl fun w0 own0 M => ?_
  have hLr : (L.map (fun x => [Tr.str x])).length = n := by rw [List.length_map, hn]
  by_cases hs : n < 2
  · repeat' (first | refine goH ?_ | refine goV ?_ | refine goI ?_ | (refine Cw.k_cond ?_; first | (refine Cw.cond_dec rfl (fun hc => ?_) (fun hc => ?_) <;> try (exfalso; omega)) | refine Cw.cond_bool rfl (fun hc => ?_) (fun hc => ?_)) | refine goR ?_ | refine goP ?_ | apply PSeq.cons | apply PSeq.yes rfl rfl rfl | exact goW | fail)
    have hd : dd L = L := dd_short (by omega)
    rw [hd]
    exact Fin.ret (Ent.take goTk) (Outs.one rfl rfl) ⟨_, hn, rfl, rfl⟩
  repeat' (first | refine goH ?_ | refine goV ?_ | refine goI ?_ | (refine Cw.k_cond ?_; first | (refine Cw.cond_dec rfl (fun hc => ?_) (fun hc => ?_) <;> try (exfalso; omega)) | refine Cw.cond_bool rfl (fun hc => ?_) (fun hc => ?_)) | refine goR ?_ | refine goP ?_ | apply PSeq.cons | apply PSeq.yes rfl rfl rfl | exact goW | fail)
  refine Cw.loopI [(0, _)] _ (fun q e cc => ∃ (k : Nat), q = n - k ∧ (1 ≤ k ∧ k ≤ n ∧ dd (L.take k) = L.take k) ∧ e = [(3, .int k)] ∧ cc = [Chunk.own ad cap 1 9 (L.map (fun x => [Tr.str x]))]) ⟨_, _, _, (Ent.mkP goSub goPm), 1, rfl, ⟨by omega, by omega, dd_short (by rw [List.length_take]; omega)⟩, rfl, rfl⟩ ?_
  rintro _ _ _ ⟨k, rfl, ⟨hk1, hk, hd⟩, rfl, rfl⟩
  by_cases hkl : k < n
  rotate_left
  · have hke : k = n := by omega
    subst hke
    rw [hn, List.take_length] at hd
    repeat' (first | refine goH ?_ | refine goV ?_ | refine goI ?_ | (refine Cw.k_cond ?_; first | (refine Cw.cond_dec rfl (fun hc => ?_) (fun hc => ?_) <;> try (exfalso; omega)) | refine Cw.cond_bool rfl (fun hc => ?_) (fun hc => ?_)) | refine goR ?_ | refine goP ?_ | apply PSeq.cons | apply PSeq.yes rfl rfl rfl | exact goW | fail)
    rw [hd]
    exact Fin.ret (Ent.take goTk) (Outs.one rfl rfl) ⟨_, hn, rfl, rfl⟩
  refine Cw.own_form (List.Perm.refl _) (by omega) ?_
  rintro g rfl hcp hcm
  rw [hLr] at hcp
  obtain ⟨a, ha⟩ := at_lt (l := L) (k := k - 1) (by omega)
  obtain ⟨b, hb⟩ := at_lt (l := L) (k := k) (by omega)
  have ra : (L.map (fun x => [Tr.str x]))[((k : Int) - 1).toNat]? = some ((fun x => [Tr.str x]) a) := by rw [show ((k : Int) - 1).toNat = k - 1 by omega]; exact rows_at ha
  have rb : (L.map (fun x => [Tr.str x]))[((k : Nat) : Int).toNat]? = some ((fun x => [Tr.str x]) b) := by rw [Int.toNat_natCast]; exact rows_at hb
  simp only at ra rb
  by_cases hab : b = a
  rotate_left
  · have hd2 := dd_go hk1 ha hb hd (fun h => hab h.symm)
    have he : decide (b = a) = false := decide_eq_false hab
    repeat' (first | refine goH ?_ | refine goV ?_ | refine goI ?_ | (refine Cw.k_cond ?_; first | (refine Cw.cond_dec rfl (fun hc => ?_) (fun hc => ?_) <;> try (exfalso; omega)) | refine Cw.cond_bool rfl (fun hc => ?_) (fun hc => ?_)) | refine goR ?_ | refine goP ?_ | apply PSeq.cons | apply PSeq.yes rfl rfl rfl | exact goW | fail)
    exact ⟨_, _, _, (Ent.mk goSub goTk), ⟨k + 1, rfl, ⟨by omega, by omega, hd2⟩, rfl, rfl⟩, by omega⟩
  subst hab
  have hw := dd_dup hk1 ha hb hd
  have he : decide (b = b) = true := decide_eq_true rfl
  clear ha hb
  repeat' (first | refine goH ?_ | ((fail_if_success refine Ops.k_slice ?_); refine goV ?_) | refine goI ?_ | (refine Cw.k_cond ?_; first | (refine Cw.cond_dec rfl (fun hc => ?_) (fun hc => ?_) <;> try (exfalso; omega)) | refine Cw.cond_bool rfl (fun hc => ?_) (fun hc => ?_)) | refine goR ?_ | refine goP ?_ | apply PSeq.cons | apply PSeq.yes rfl rfl rfl | exact goW | fail)
  clear he
  refine Ops.k_slice ?_
  refine Ops.sliceR_l rfl rfl (by omega) (by omega) rfl ?_
  clear ra rb
  rw [show Tr.raw (Value.slice (some ⟨g, 0 + ((k : Nat) : Int).toNat * 1, none⟩) (n - ((k : Nat) : Int).toNat) (cap - ((k : Nat) : Int).toNat)) = Tr.qsl (some ⟨g, 0, none⟩) k 1 (n - k) (cap - k) by unfold Tr.qsl; rw [Int.toNat_natCast, Nat.zero_add]; rfl]
  repeat' (first | refine goH ?_ | refine goV ?_ | refine goI ?_ | (refine Cw.k_cond ?_; first | (refine Cw.cond_dec rfl (fun hc => ?_) (fun hc => ?_) <;> try (exfalso; omega)) | refine Cw.cond_bool rfl (fun hc => ?_) (fun hc => ?_)) | refine goR ?_ | refine goP ?_ | apply PSeq.cons | apply PSeq.yes rfl rfl rfl | exact goW | fail)
  refine Cw.loopI [(0, _), (4, _)] _ (fun q e cc => ∃ (i m : Nat) (W : List ByteArray), q = n - i ∧ (1 ≤ i ∧ k + i ≤ n ∧ Cpt L W m (k + i)) ∧ e = [(3, .int m), (5, .int i)] ∧ cc = [Chunk.own (some ⟨g, 0, none⟩) cap 1 9 (W.map (fun x => [Tr.str x]))]) ⟨_, _, _, (Ent.mkP goSub goPm), 1, k, L, rfl, ⟨by omega, by omega, hw⟩, rfl, rfl⟩ ?_
  clear hw
  rintro _ _ _ ⟨i, m, W, rfl, ⟨hi1, hik, hw⟩, rfl, rfl⟩
  have hWl : (W.map (fun x => [Tr.str x])).length = n := by rw [List.length_map, hw.len, hn]
  have hmlt := hw.lt
  by_cases hin : k + i < n
  · obtain ⟨a, ha⟩ := at_lt (l := L) (k := k + i - 1) (by omega)
    obtain ⟨b, hb⟩ := at_lt (l := L) (k := k + i) (by omega)
    have ra : (W.map (fun x => [Tr.str x]))[k + ((i : Int) - 1).toNat]? = some ((fun x => [Tr.str x]) a) := by rw [show k + ((i : Int) - 1).toNat = k + i - 1 by omega]; exact rows_at ((hw.at0 (by omega)).trans ha)
    have rb : (W.map (fun x => [Tr.str x]))[k + ((i : Nat) : Int).toNat]? = some ((fun x => [Tr.str x]) b) := by rw [Int.toNat_natCast]; exact rows_at ((hw.at0 (by omega)).trans hb)
    simp only at ra rb
    by_cases hab : b = a
    · subst hab
      have hw2 := hw.same ha hb
      have he : decide (b = b) = true := decide_eq_true rfl
      clear ha hb hw
      repeat' (first | refine goH ?_ | (refine Ops.k_indexAddr ?_; first | (refine Ops.indexAddr_sub rfl rfl goPk (by omega) (by omega) (by omega) rfl ?_)) | (refine Ops.k_b_neq ?_; first | (refine Ops.val' rfl (OpV.str_nev he rfl rfl) ?_)) | refine goV ?_ | refine goI ?_ | (refine Cw.k_cond ?_; first | (refine Cw.cond_dec rfl (fun hc => ?_) (fun hc => ?_) <;> try (exfalso; omega)) | refine Cw.cond_bool rfl (fun hc => ?_) (fun hc => ?_)) | (apply OpV.w; apply OpV.k_indexAddr; exact OpV.indexAddr_sub rfl rfl goPk (by omega) (by omega) (by omega)) | (apply OpV.w; apply OpV.k_b_neq; exact OpV.str_nev he rfl rfl) | refine goR ?_ | refine goP ?_ | apply PSeq.cons | apply PSeq.yes rfl rfl rfl | exact goW | fail)
      exact ⟨_, _, _, (Ent.mk goSub goTk), ⟨i + 1, m, W, rfl, ⟨by omega, by omega, hw2⟩, rfl, rfl⟩, by omega⟩
    · have hw2 := hw.new ha hb (fun h => hab h.symm)
      have he : decide (b = a) = false := decide_eq_false hab
      have hset : (W.map (fun x => [Tr.str x])).set m ((fun x => [Tr.str x]) b) = (W.set m b).map (fun x => [Tr.str x]) := by rw [List.map_set]
      obtain ⟨c, hc⟩ := at_lt (l := W) (k := m) (by rw [hw.len]; omega)
      have rc : (W.map (fun x => [Tr.str x]))[((m : Nat) : Int).toNat]? = some ((fun x => [Tr.str x]) c) := by rw [Int.toNat_natCast]; exact rows_at hc
      try simp only at rc hset
      clear ha hb hw hc
      repeat' (first | refine goH ?_ | (refine Ops.k_indexAddr ?_; first | (refine Ops.indexAddr_sub rfl rfl goPk (by omega) (by omega) (by omega) rfl ?_)) | (refine Ops.k_b_neq ?_; first | (refine Ops.val' rfl (OpV.str_nev he rfl rfl) ?_)) | refine goV ?_ | refine goI ?_ | (refine Cw.k_cond ?_; first | (refine Cw.cond_dec rfl (fun hc => ?_) (fun hc => ?_) <;> try (exfalso; omega)) | refine Cw.cond_bool rfl (fun hc => ?_) (fun hc => ?_)) | (apply OpV.w; apply OpV.k_indexAddr; exact OpV.indexAddr_sub rfl rfl goPk (by omega) (by omega) (by omega)) | (apply OpV.w; apply OpV.k_b_neq; exact OpV.str_nev he rfl rfl) | refine goR ?_ | refine goP ?_ | apply PSeq.cons | apply PSeq.yes rfl rfl rfl | exact goW | fail)
      erw [hset]
      exact ⟨_, _, _, (Ent.mk goSub goTk), ⟨i + 1, m + 1, _, rfl, ⟨by omega, by omega, hw2⟩, rfl, rfl⟩, by omega⟩
  have hie : k + i = n := by omega
  have hdone := hw.done
  have hm := hw.hm
  rw [hie, hn, List.take_length] at hdone hm
  clear hw
  repeat' (first | refine goH ?_ | (refine Ops.k_slice ?_; first | (refine Ops.sliceR_l rfl rfl (by omega) (by omega) rfl ?_)) | ((fail_if_success refine Ops.k_c_clear ?_); refine goV ?_) | refine goI ?_ | (refine Cw.k_cond ?_; first | (refine Cw.cond_dec rfl (fun hc => ?_) (fun hc => ?_) <;> try (exfalso; omega)) | refine Cw.cond_bool rfl (fun hc => ?_) (fun hc => ?_)) | refine goR ?_ | refine goP ?_ | apply PSeq.cons | apply PSeq.yes rfl rfl rfl | exact goW | fail)
  refine Ops.k_c_clear ?_
  refine Ops.clear_part (o := m) rfl (List.Perm.refl _) (by rw [Int.toNat_natCast, Nat.zero_add]; rfl) (by omega) (by omega) ?_
  rw [Int.toNat_natCast]
  have hz : ((W.map (fun x => [Tr.str x])).take m ++ List.replicate (n - m) (List.map Tr.raw [Value.string ByteArray.empty])).take m = (dd L).map (fun x => [Tr.str x]) := by
    rw [List.take_append_of_le_length (by rw [List.length_take, hWl]; omega), List.take_take, Nat.min_self, ← List.map_take, hdone]
  have hzl : ((W.map (fun x => [Tr.str x])).take m ++ List.replicate (n - m) (List.map Tr.raw [Value.string ByteArray.empty])).length = n := by rw [List.length_append, List.length_take, hWl, List.length_replicate]; omega
  generalize (W.map (fun x => [Tr.str x])).take m ++ List.replicate (n - m) (List.map Tr.raw [Value.string ByteArray.empty]) = Z at *
  repeat' (first | refine goH ?_ | refine goV ?_ | refine goI ?_ | (refine Cw.k_cond ?_; first | (refine Cw.cond_dec rfl (fun hc => ?_) (fun hc => ?_) <;> try (exfalso; omega)) | refine Cw.cond_bool rfl (fun hc => ?_) (fun hc => ?_)) | refine goR ?_ | refine goP ?_ | apply PSeq.cons | apply PSeq.yes rfl rfl rfl | exact goW | fail)
  rw [Int.toNat_natCast, hz]
  exact Fin.ret (Ent.take goTk) (Outs.one rfl rfl) ⟨_, List.length_map _, rfl, rfl⟩

theorem strRows_kB (l : List ByteArray) : ∀ r ∈ strRows l, r.length = 1 := by
  intro r hr
  unfold strRows at hr
  obtain ⟨x, _, rfl⟩ := List.mem_map.1 hr
  rfl
theorem sortS_fn (xs : List ByteArray) (hl : xs.length ≤ 1000000) (ad : Option Addr) (cap n : Nat) (hn : n = xs.length) : ∃ ys : List ByteArray, ys.Perm xs ∧ (ys.Pairwise fun a b => ¬ strLt b a = true) ∧ Spec Tryz.prog 65 [Tr.raw (.slice ad n cap)] [Chunk.own ad cap 1 9 (strRows xs)] (fun r cs => cs = [Chunk.own ad cap 1 9 (strRows ys)]) := by
  by_cases h0 : xs.length = 0
  · have hus := List.eq_nil_of_length_eq_zero h0
    subst hus
    refine ⟨[], List.Perm.refl _, List.Pairwise.nil, ?_⟩
    have h : PFn Tryz.prog 65 [Tr.raw (.slice ad n cap)] (· = .raw (.tuple #[])) := PFn.of_calls (args := [.slice ad n cap]) (fun vs w => rfl) (fun w => by
      rw [hn]
      refine (Any.slices_Sort_string_none Tryz.lays190 ad cap w).mono ?_
      rintro e w' ⟨rfl, rfl⟩
      exact ⟨rfl, Go.RowKit.Below.refl _ _, fun _ => Nat.le_refl _⟩)
    refine Spec.mono (h.spec.frame [Chunk.own ad cap 1 9 (strRows [])]) ?_
    rintro r cs ⟨c2, ⟨rfl, _⟩, rfl⟩
    rfl
  · obtain ⟨ys, h1, h2, h3⟩ := sortStrs Tryz.lays190 (fun vs w => rfl) (ad := ad) (cap := cap) (E := 9) (xs := xs) hn (by omega) (by omega)
    refine ⟨ys, h1, h2.imp fun {a b} h => ?_, Spec.mono h3 ?_⟩
    · rw [strLt_list, h]
      simp
    · rintro r cs ⟨_, rfl⟩
      rfl
theorem sorted_fn (l : List ByteArray) (hl : l.length ≤ 1000000) : ∃ K : List ByteArray, (K.Pairwise fun a b => strLt a b = true) ∧ (∀ x, x ∈ K ↔ x ∈ l) ∧ K.length ≤ l.length ∧ PFn Tryz.prog 38 [.strs l] (· = .strs K) := by
  have hL := strRows_len l
  have hex : ∃ ys : List ByteArray, ys.Perm l ∧ (ys.Pairwise fun a b => ¬ strLt b a = true) ∧ ∀ (ad : Option Addr) (cap : Nat), Spec Tryz.prog 65 [Tr.raw (.slice ad (strRows l).length cap)] [Chunk.own ad cap 1 9 (strRows l)] (fun r cs => cs = [Chunk.own ad cap 1 9 (strRows ys)]) := by
    obtain ⟨ys, h1, h2, _⟩ := sortS_fn l hl none 0 _ hL
    refine ⟨ys, h1, h2, fun ad cap => ?_⟩
    obtain ⟨zs, g1, g2, g3⟩ := sortS_fn l hl ad cap _ hL
    have e : zs = ys := sorted_uniq (le := fun a b => ¬ strLt b a = true) (g1.trans h1.symm) (fun a _ b _ h3 h4 => by
      simp only [Bool.not_eq_true] at h3 h4
      exact strLt_tri h4 h3) g2 h2
    rwa [e] at g3
  obtain ⟨ys, h1, h2, h3⟩ := hex
  have hyl := h1.length_eq
  have k1 := clone_str (strRows l) (strRows_kB l) (by omega)
  unfold PFnO at k1
  have k2 := fun (ad : Option Addr) (cap : Nat) => compact_str (ad := ad) (cap := cap) (n := (strRows l).length) ys (by omega) (by omega)
  have hd := dd_sorted (le := fun a b => ¬ strLt b a = true) (fun a b h3 h4 => by
      simp only [Bool.not_eq_true] at h3 h4
      exact strLt_tri h4 h3) ys h2
  refine ⟨dd ys, hd.imp fun {a b} h => ?_, fun x => by rw [dd_mem, h1.mem_iff], by have := (dd_sub ys).length_le; omega, ?_⟩
  · cases h5 : strLt a b with
    | true => rfl
    | false => exact absurd (strLt_tri h5 (by simpa using h.1)) h.2
  change ∀ (ad : Option Addr) (cap : Nat), Spec Tryz.prog 66 [Tr.raw (.slice ad (strRows l).length cap)] [Chunk.own ad cap 1 9 (strRows ys)] (fun r cs => ∃ m, m = (dd ys).length ∧ r = Tr.raw (.slice ad m cap) ∧ cs = [Chunk.own ad cap 1 9 (strRows (dd ys))]) at k2
  generalize hK : dd ys = K at *
  have hKl := strRows_len K
  clear hK hd h2
  refine PFn.mk (Spec.body Tryz.func38 rfl rfl (Tryz.ntmps38) rfl fun w0 own0 M => ?_)
  repeat' (first | refine goH ?_ | refine goV ?_ | refine goI ?_ | (refine Cw.k_cond ?_; first | (refine Cw.cond_dec rfl (fun hc => ?_) (fun hc => ?_) <;> try (exfalso; omega)) | refine Cw.cond_bool rfl (fun hc => ?_) (fun hc => ?_)) | (refine Ops.k_calla ?_; first | (refine Ops.k_callf 64 ?_; (refine Ops.call k1 (Evs.cons rfl Evs.nil) (List.Perm.refl _) rfl ?_; rintro r cs' ⟨ad, cap, rows, rfl, rfl, rfl⟩)) | (refine Ops.call (h3 _ _) (Evs.cons rfl Evs.nil) goPm rfl ?_; rintro r cs' rfl) | (refine Ops.k_callf 66 ?_; (refine Ops.call (k2 _ _) (Evs.cons rfl Evs.nil) goPm rfl ?_; rintro r cs' ⟨m, rfl, rfl, rfl⟩; rw [← hKl]))) | fail)
  refine Fin.ret (Ent.trans (Ent.settle (s := 2) rfl goPk rfl) (Ent.take goTk)) (Outs.sole rfl goOe) ⟨rfl, rfl⟩
end Lg
end
section
set_option linter.all false
set_option maxRecDepth 100000
set_option maxHeartbeats 8000000
namespace Lg
open Go Go.Proofs

/-! ### Trial -/
def TrZ (L : List Ps) (Z : List Nm) : Prop := Z.Pairwise Nm.lt ∧ ∀ x, x ∈ Z ↔ x.key ∈ accs L ∧ x.many = bal x.key L
def nmP (p : ByteArray × Int) : Nm := ⟨p.1, p.2⟩
theorem nmP_row (g : List (ByteArray × Int)) (a : ByteArray) (v : Int) : (g.map nmP).map Nm.row ++ [[Tr.str a, Tr.int v]] = ((g ++ [(a, v)]).map nmP).map Nm.row := by rw [List.map_append, List.map_append]; rfl
theorem nmLtX_fn (x y : Nm) : PFn Tryz.prog 36 [.agg x.row, .agg y.row] (· = .int (cmpS x.key y.key)) := by
  have k1 := compareS_fn x.key y.key
  unfold Nm.row
  refine PFn.mk (Spec.body Tryz.func36 rfl rfl (Tryz.ntmps36) rfl fun w0 own0 M => ?_)
  repeat' (first | refine goH ?_ | refine goV ?_ | refine goB (fun b => ?_) | refine goI ?_ | (refine Cw.k_cond ?_; first | (refine Cw.cond_dec rfl (fun hc => ?_) (fun hc => ?_) <;> try (exfalso; omega)) | refine Cw.cond_bool rfl (fun hc => ?_) (fun hc => ?_)) | (refine Ops.k_calla ?_; first | (refine Ops.k_callf 37 ?_; refine Ops.callV k1 (Evs.cons rfl (Evs.cons rfl Evs.nil)) rfl ?_)) | fail)
  exact Fin.ret (Ent.take goTk) (Outs.one rfl rfl) ⟨rfl, rfl⟩
theorem accs_len {L : List Ps} (h : ∀ p ∈ L, OkP p) : (accs L).length ≤ 20 * L.length := by
  unfold accs
  induction L with
  | nil => simp
  | cons p L ih =>
    have h1 := ih fun q hq => h q (List.mem_cons_of_mem _ hq)
    have h2 := (h p (List.mem_cons_self ..)).1
    rw [List.flatMap_cons, List.length_append, List.length_map, List.length_cons]
    omega
theorem nd_len {α : Type} [DecidableEq α] {a b : List α} (ha : a.Nodup) (h : ∀ x ∈ a, x ∈ b) : a.length ≤ b.length := by
  induction a generalizing b with
  | nil => simp
  | cons x a ih =>
    rw [List.nodup_cons] at ha
    have hx := h x (List.mem_cons_self ..)
    have h1 := ih (b := b.erase x) ha.2 fun y hy => (List.mem_erase_of_ne (fun e => ha.1 (by rw [← e]; exact hy))).2 (h y (List.mem_cons_of_mem _ hy))
    rw [List.length_erase_of_mem hx] at h1
    have := List.length_pos_of_mem hx
    rw [List.length_cons]
    omega
theorem trialX_fn (bx n cap bm : Nat) (ad : Option Addr) (L : List Ps) (m : List (ByteArray × Int)) (Z : List Nm) (hs : LSt L) (hm : MI m L) (hZ : TrZ L Z) :
    Spec Tryz.prog 11 [.ptr bx] [ledX bx ad n cap bm, sumC' bm m] (fun r cs => r = .nms Z ∧ cs = [ledX bx ad n cap bm, sumC' bm m]) := by
  obtain ⟨hZ1, hZ2⟩ := hZ
  have hal := accs_len hs.ok.2
  have hLl := hs.ok.1
  have hml : m.length ≤ 40000 := by
    have := nd_len hm.nd (fun x hx => (hm.keys x).1 hx)
    rw [List.length_map] at this
    omega
  refine Spec.body Tryz.func11 rfl rfl (Tryz.ntmps11) rfl fun w0 own0 M => ?_
  repeat' (first | refine goH ?_ | (refine Ops.k_range ?_; first | (refine Ops.range rfl goPk rfl (fun r => ?_))) | refine goV ?_ | refine goC (fun ad cap => ?_) | refine goI ?_ | (refine Cw.k_cond ?_; first | (refine Cw.cond_dec rfl (fun hc => ?_) (fun hc => ?_) <;> try (exfalso; omega)) | refine Cw.cond_bool rfl (fun hc => ?_) (fun hc => ?_)) | fail)
  refine Cw.loopI [(10, _)] _ (fun q e c => ∃ (g left : List (ByteArray × Int)) (ad : Option Addr) (cap : Nat) (rows : List (List Tr)), q = left.length ∧ (m.Perm (g ++ left) ∧ rows = (g.map nmP).map Nm.row ∧ rows.length = g.length) ∧ e = [(3, Tr.raw (.slice ad rows.length cap))] ∧ c = [Chunk.rg Value.string bm r (tkv m) (tkv left), Chunk.own ad cap 2 40 rows])
    ⟨_, _, _, Ent.trans (Ent.nil 2 40) (Ent.mkP goSub goPm), [], m, none, 0, [], rfl, ⟨List.Perm.refl _, rfl, rfl⟩, rfl, rfl⟩ ?_
  rintro _ _ _ ⟨g, left, ad2, cap2, rows, rfl, ⟨hp, hrows, hrl⟩, rfl, rfl⟩
  have hgl : g.length ≤ 40000 := by have := hp.length_eq; rw [List.length_append] at this; omega
  repeat' (first | refine goH ?_ | ((fail_if_success refine Ops.k_next ?_); refine goV ?_) | ((fail_if_success refine Ops.k_next ?_); refine goC (fun ad cap => ?_)) | refine goI ?_ | (refine Cw.k_cond ?_; first | (refine Cw.cond_dec rfl (fun hc => ?_) (fun hc => ?_) <;> try (exfalso; omega)) | refine Cw.cond_bool rfl (fun hc => ?_) (fun hc => ?_)) | fail)
  refine Ops.k_next ?_
  refine Ops.nextC rfl goPk rfl (fun hl0 => ?_) (fun j a t hj => ?_)
  · have hl0 := tkv_nil hl0
    subst hl0
    rw [List.append_nil] at hp
    obtain ⟨Y, hY⟩ : ∃ Y, Y = g.map nmP := ⟨_, rfl⟩
    have hk : Y.map Nm.key = g.map Prod.fst := by rw [hY, List.map_map]; rfl
    have hYn : (Y.map Nm.key).Nodup := by rw [hk]; exact (hp.map Prod.fst).nodup_iff.1 hm.nd
    have hYm : ∀ x, x ∈ Y ↔ x.key ∈ accs L ∧ x.many = bal x.key L := fun x => by
      rw [hY, List.mem_map]
      constructor
      · rintro ⟨⟨a, v⟩, h1, rfl⟩
        have h2 := hp.mem_iff.2 h1
        have h3 := mI_mem hm.nd h2
        exact ⟨(hm.keys a).1 (List.mem_map_of_mem (f := Prod.fst) h2), by show v = bal a L; rw [← hm.val, h3]⟩
      · rintro ⟨h1, h2⟩
        obtain ⟨⟨a, v⟩, h3, h4⟩ := List.mem_map.1 ((hm.keys x.key).2 h1)
        refine ⟨(a, v), hp.mem_iff.1 h3, ?_⟩
        have h5 := mI_mem hm.nd h3
        rw [hm.val] at h5
        obtain ⟨xk, xm⟩ := x
        simp only at h2 h4
        unfold nmP
        simp only
        rw [h2, ← h4, h5]
    have hZZ : isort nmLt Y = Z := nm_uniq (isortN_strict hYn) hZ1 fun x => by rw [(isort_perm nmLt Y).mem_iff, hYm, hZ2]
    have hYl : rows.length = Y.length := by rw [hrows, hY, List.length_map]
    have kS := fun ad cap => sortNmK nmLtX_fn Y (by rw [hY, List.length_map]; omega) hYn ad cap
    rw [hZZ] at kS
    have hZl : (Z.map Nm.row).length = Y.length := by rw [List.length_map, ← hZZ, isort_len]
    rw [hYl]
    rw [← hY] at hrows
    subst hrows
    clear hp hZ1 hZ2 hYm hk hZZ hY
    repeat' (first | refine goH ?_ | refine goV ?_ | refine goC (fun ad cap => ?_) | refine goI ?_ | (refine Cw.k_cond ?_; first | (refine Cw.cond_dec rfl (fun hc => ?_) (fun hc => ?_) <;> try (exfalso; omega)) | refine Cw.cond_bool rfl (fun hc => ?_) (fun hc => ?_)) | (refine Ops.k_calla ?_; first | (refine Ops.k_callf 35 ?_; (refine Ops.call (kS _ _) (Evs.cons rfl (Evs.cons rfl Evs.nil)) goPm rfl ?_; rintro r cs' ⟨rfl, rfl⟩))) | fail)
    rw [← hZl]
    refine Fin.ret (Ent.trans (Ent.settle (s := 2) rfl goPk rfl) (Ent.take goTk)) (Outs.sole rfl goOe) ⟨rfl, rfl⟩
  · obtain ⟨v, hj2, rfl⟩ := tkv_at hj
    have hp2 := eraseIdx_snoc hp hj2
    have hlen := eraseIdx_len hj2
    rw [tkv_erase]
    generalize left.eraseIdx j = left2 at *
    have hnx := nmP_row g a v
    rw [← hrows] at hnx
    clear hp hm hZ1 hZ2
    repeat' (first | refine goH ?_ | (refine Ops.k_entry ?_; first | (refine Ops.entry rfl goPk rfl ?_)) | refine goV ?_ | refine goC (fun ad cap => ?_) | refine goI ?_ | (refine Cw.k_cond ?_; first | (refine Cw.cond_dec rfl (fun hc => ?_) (fun hc => ?_) <;> try (exfalso; omega)) | refine Cw.cond_bool rfl (fun hc => ?_) (fun hc => ?_)) | fail)
    exact ⟨_, _, _, (Ent.mk goSub goTk), ⟨g ++ [(a, v)], _, _, _, _, rfl, ⟨hp2, hnx, by simp [hrl]⟩, rfl, rfl⟩, by omega⟩
theorem balY_key (bx n cap : Nat) (ad ad2 : Option Addr) (n2 cap2 : Nat) (L : List Ps) (hs : LSt L) (hn : n = L.length) {a : ByteArray} (h : a ∈ accs L) :
    Spec Tryz.prog 39 [.ptr bx, .str a] [ledY bx ad n cap ad2 n2 cap2, ownE ad cap L] (fun r cs => r = .tup [.int (bal a L), .int 0] ∧ cs = [ledY bx ad n cap ad2 n2 cap2, ownE ad cap L]) := by
  have h1 := balY_fn bx n cap ad ad2 n2 cap2 L a hs.ok hn
  have hk : isKey a = true := by
    unfold accs at h
    obtain ⟨p, hp, hx⟩ := List.mem_flatMap.1 h
    obtain ⟨x, hx2, rfl⟩ := List.mem_map.1 hx
    exact hs.ky p hp x hx2
  unfold balT at h1
  rw [hk, if_neg (by decide)] at h1
  exact h1
theorem accs_take {L : List Ps} {k : Nat} {p : Ps} (h : L[k]? = some p) : accs (L.take (k + 1)) = accs (L.take k) ++ p.e.ls.map Ln.acc := by
  unfold accs
  rw [List.take_add_one, h, Option.toList_some, List.flatMap_append, List.flatMap_cons, List.flatMap_nil, List.append_nil]
theorem acc_snoc (A : List ByteArray) {l : List Ln} {j : Nat} {x : Ln} (h : l[j]? = some x) : strRows (A ++ (l.take j).map Ln.acc) ++ [[Tr.str x.acc]] = strRows (A ++ (l.take (j + 1)).map Ln.acc) := by
  rw [List.take_add_one, h, Option.toList_some, List.map_append, ← List.append_assoc]
  unfold strRows
  rw [List.map_append (l₁ := A ++ _)]
  rfl
def nmB (L : List Ps) (a : ByteArray) : Nm := ⟨a, bal a L⟩
theorem nmB_row (L : List Ps) {K : List ByteArray} {k : Nat} {a : ByteArray} (h : K[k]? = some a) : ((K.take k).map (nmB L)).map Nm.row ++ [[Tr.str a, Tr.int (bal a L)]] = ((K.take (k + 1)).map (nmB L)).map Nm.row := by
  rw [List.take_add_one, h, Option.toList_some, List.map_append, List.map_append]
  rfl
theorem trialY_fn (L : List Ps) (hs : LSt L) : ∃ Z : List Nm, TrZ L Z ∧ Z.length ≤ 40000 ∧ ∀ (bx n cap : Nat) (ad ad2 : Option Addr) (n2 cap2 : Nat), n = L.length →
    Spec Tryz.prog 12 [.ptr bx] [ledY bx ad n cap ad2 n2 cap2, ownE ad cap L] (fun r cs => r = .nms Z ∧ cs = [ledY bx ad n cap ad2 n2 cap2, ownE ad cap L]) := by
  have hal := accs_len hs.ok.2
  have hLl := hs.ok.1
  obtain ⟨K, hK1, hK2, hK3, kS⟩ := sorted_fn (accs L) (by omega)
  refine ⟨K.map (nmB L), ⟨?_, fun x => ?_⟩, by rw [List.length_map]; omega, ?_⟩
  · rw [List.pairwise_map]
    exact hK1
  · rw [List.mem_map]
    constructor
    · rintro ⟨a, h1, rfl⟩
      exact ⟨(hK2 a).1 h1, rfl⟩
    · rintro ⟨h1, h2⟩
      refine ⟨x.key, (hK2 _).2 h1, ?_⟩
      obtain ⟨xk, xm⟩ := x
      simp only at h2
      unfold nmB
      simp only
      rw [h2]
  intro bx n cap ad ad2 n2 cap2 hn
  have hL : (L.map enR).length = n := by rw [List.length_map, hn]
  have hbk := fun a (h : a ∈ K) => balY_key bx n cap ad ad2 n2 cap2 L hs hn ((hK2 a).1 h)
  have hKl := strRows_len K
  have hAl := strRows_len (accs L)
  have hok := hs.ok.2
  clear hK1 hK2 hs
  refine Spec.body Tryz.func12 rfl rfl (Tryz.ntmps12) rfl fun w0 own0 M => ?_
  repeat' (first | refine goH ?_ | refine goV ?_ | refine goB (fun b => ?_) | refine goC (fun ad cap => ?_) | refine goI ?_ | (refine Cw.k_cond ?_; first | (refine Cw.cond_dec rfl (fun hc => ?_) (fun hc => ?_) <;> try (exfalso; omega)) | refine Cw.cond_bool rfl (fun hc => ?_) (fun hc => ?_)) | fail)
  refine Cw.loopI [(0, _), (16, _), (17, _)] _ (fun q e c => ∃ (k : Nat) (ad3 : Option Addr) (cap3 : Nat) (rows : List (List Tr)), q = n - k ∧ (k ≤ n ∧ rows = strRows (accs (L.take k)) ∧ rows.length ≤ 20 * k) ∧ e = [(3, Tr.raw (.slice ad3 rows.length cap3)), (18, .int k)] ∧ c = [Chunk.own ad3 cap3 1 9 rows])
    ⟨_, _, _, Ent.trans (Ent.nil 1 9) (Ent.mkP goSub goPm), 0, none, 0, [], rfl, ⟨by omega, rfl, by simp⟩, rfl, rfl⟩ ?_
  rintro _ _ _ ⟨k, ad3, cap3, rows, rfl, ⟨hk, hrows, hrl⟩, rfl, rfl⟩
  by_cases hkl : k < n
  · obtain ⟨p, hp⟩ := at_lt (l := L) (k := k) (by omega)
    have hrow : (L.map enR)[k]? = some [.int p.e.day, .str p.e.text, .lns p.e.ls] := rows_at (f := enR) hp
    have hls := (hok p (List.mem_of_getElem? hp)).1
    have hlr : (p.e.ls.map Ln.row).length = p.e.ls.length := List.length_map _
    have hnx := accs_take hp
    generalize accs (L.take k) = A at *
    clear hp
    repeat' (first | refine goH ?_ | refine goV ?_ | refine goB (fun b => ?_) | refine goC (fun ad cap => ?_) | refine goI ?_ | (refine Cw.k_cond ?_; first | (refine Cw.cond_dec rfl (fun hc => ?_) (fun hc => ?_) <;> try (exfalso; omega)) | refine Cw.cond_bool rfl (fun hc => ?_) (fun hc => ?_)) | fail)
    refine Cw.loopI [(0, _), (16, _), (17, _), (18, _), (23, _), (24, _)] _ (fun q e c => ∃ (j : Nat) (ad3 : Option Addr) (cap3 : Nat) (rows : List (List Tr)), q = p.e.ls.length - j ∧ (j ≤ p.e.ls.length ∧ rows = strRows (A ++ (p.e.ls.take j).map Ln.acc) ∧ rows.length ≤ 20 * k + j) ∧ e = [(3, Tr.raw (.slice ad3 rows.length cap3)), (25, .int j)] ∧ c = [Chunk.own ad3 cap3 1 9 rows])
      ⟨_, _, _, (Ent.mkP goSub goPm), 0, ad3, cap3, rows, rfl, ⟨by omega, by rw [hrows, List.take_zero, List.map_nil, List.append_nil], by omega⟩, rfl, rfl⟩ ?_
    clear hrows hrl
    rintro _ _ _ ⟨j, ad3, cap3, rows, rfl, ⟨hj, hrows, hrl⟩, rfl, rfl⟩
    by_cases hjl : j < p.e.ls.length
    · obtain ⟨x, hx⟩ := at_lt hjl
      have hr2 : (p.e.ls.map Ln.row)[j]? = some [.str x.acc, .int x.c] := rows_at hx
      have hs2 := acc_snoc A hx
      rw [← hrows] at hs2
      clear hrows hx
      repeat' (first | refine goH ?_ | refine goV ?_ | refine goB (fun b => ?_) | refine goC (fun ad cap => ?_) | refine goI ?_ | (refine Cw.k_cond ?_; first | (refine Cw.cond_dec rfl (fun hc => ?_) (fun hc => ?_) <;> try (exfalso; omega)) | refine Cw.cond_bool rfl (fun hc => ?_) (fun hc => ?_)) | fail)
      exact ⟨_, _, _, (Ent.mk goSub goTk), ⟨j + 1, _, _, _, rfl, ⟨by omega, hs2, by rw [List.length_append]; simp only [List.length_cons, List.length_nil]; omega⟩, rfl, rfl⟩, by omega⟩
    · rw [List.take_of_length_le (by omega), ← hnx] at hrows
      repeat' (first | refine goH ?_ | refine goV ?_ | refine goB (fun b => ?_) | refine goC (fun ad cap => ?_) | refine goI ?_ | (refine Cw.k_cond ?_; first | (refine Cw.cond_dec rfl (fun hc => ?_) (fun hc => ?_) <;> try (exfalso; omega)) | refine Cw.cond_bool rfl (fun hc => ?_) (fun hc => ?_)) | fail)
      exact ⟨_, _, _, (Ent.mk goSub goTk), ⟨k + 1, _, _, _, rfl, ⟨by omega, hrows, by omega⟩, rfl, rfl⟩, by omega⟩
  rw [show L.take k = L from List.take_of_length_le (by omega)] at hrows
  subst hrows
  refine Cw.ent (Ent.settle (s := 3) rfl goPk rfl) ?_
  clear hrl
  repeat' (first | refine goH ?_ | refine goV ?_ | refine goB (fun b => ?_) | refine goC (fun ad cap => ?_) | refine goI ?_ | (refine Cw.k_cond ?_; first | (refine Cw.cond_dec rfl (fun hc => ?_) (fun hc => ?_) <;> try (exfalso; omega)) | refine Cw.cond_bool rfl (fun hc => ?_) (fun hc => ?_)) | (refine Ops.k_calla ?_; first | refine Ops.callV kS (Evs.cons rfl Evs.nil) rfl ?_) | fail)
  refine Cw.loopI [(0, _), (37, _), (38, _)] _ (fun q e c => ∃ (k : Nat) (ad3 : Option Addr) (cap3 : Nat) (rows : List (List Tr)), q = K.length - k ∧ (k ≤ K.length ∧ rows = ((K.take k).map (nmB L)).map Nm.row ∧ rows.length ≤ k) ∧ e = [(8, Tr.raw (.slice ad3 rows.length cap3)), (39, .int k)] ∧ c = [Chunk.own ad3 cap3 2 40 rows])
    ⟨_, _, _, Ent.trans (Ent.nil 2 40) (Ent.mkP goSub goPm), 0, none, 0, [], rfl, ⟨by omega, rfl, by simp⟩, rfl, rfl⟩ ?_
  clear hkl hk
  rintro _ _ _ ⟨k, ad3, cap3, rows, rfl, ⟨hk, hrows, hrl⟩, rfl, rfl⟩
  by_cases hkl : k < K.length
  rotate_left
  · rw [List.take_of_length_le (by omega)] at hrows
    subst hrows
    repeat' (first | refine goH ?_ | refine goV ?_ | refine goB (fun b => ?_) | refine goC (fun ad cap => ?_) | refine goI ?_ | (refine Cw.k_cond ?_; first | (refine Cw.cond_dec rfl (fun hc => ?_) (fun hc => ?_) <;> try (exfalso; omega)) | refine Cw.cond_bool rfl (fun hc => ?_) (fun hc => ?_)) | fail)
    refine Fin.ret (Ent.trans (Ent.settle (s := 2) rfl goPk rfl) (Ent.take goTk)) (Outs.sole rfl goOe) ⟨rfl, rfl⟩
  obtain ⟨a, ha⟩ := at_lt hkl
  have hrow : (strRows K)[k]? = some [.str a] := strRows_at ha
  have hb := hbk a (List.mem_of_getElem? ha)
  have hnx := nmB_row L ha
  rw [← hrows] at hnx
  clear hrows ha hbk
  generalize bal a L = v at *
  repeat' (first | refine goH ?_ | refine goV ?_ | refine goB (fun b => ?_) | refine goC (fun ad cap => ?_) | refine goI ?_ | (refine Cw.k_cond ?_; first | (refine Cw.cond_dec rfl (fun hc => ?_) (fun hc => ?_) <;> try (exfalso; omega)) | refine Cw.cond_bool rfl (fun hc => ?_) (fun hc => ?_)) | (refine Ops.k_calla ?_; first | (refine Ops.k_callf 39 ?_; refine Ops.callS hb (Evs.cons rfl (Evs.cons rfl Evs.nil)) goPm rfl ?_)) | fail)
  exact ⟨_, _, _, (Ent.mk goSub goTk), ⟨k + 1, _, _, _, rfl, ⟨by omega, hnx, by rw [List.length_append]; simp only [List.length_cons, List.length_nil]; omega⟩, rfl, rfl⟩, by omega⟩
end Lg
end
