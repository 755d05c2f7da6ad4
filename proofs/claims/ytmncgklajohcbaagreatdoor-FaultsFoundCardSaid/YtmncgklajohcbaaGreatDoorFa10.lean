/- A part of the proof of a law of this seat: it adds no condition. By an AI agent. -/
import Derived.Test.YtmncgklajohcbaaGreatDoorDd
import Derived.Test.YtmncgklajohcbaaGreatDoorFa8
section
set_option linter.all false
set_option maxRecDepth 100000
set_option maxHeartbeats 1000000
namespace Lg
open Go

theorem dd_short {α : Type} [DecidableEq α] {l : List α} (h : l.length < 2) : dd l = l := by
  rcases l with _ | ⟨a, _ | ⟨b, l⟩⟩
  · rfl
  · rfl
  · simp at h; omega
theorem dd_snoc {α : Type} [DecidableEq α] (a b : α) : ∀ l : List α, dd (l ++ [a] ++ [b]) = if a = b then dd (l ++ [a]) else dd (l ++ [a]) ++ [b]
  | [] => by
    show dd [a, b] = _
    by_cases h : a = b
    · rw [if_pos h, dd, if_pos h, h]; rfl
    · rw [if_neg h, dd, if_neg h]; rfl
  | [c] => by
    have ih := dd_snoc a b []
    simp only [List.nil_append] at ih
    show dd (c :: a :: [b]) = _
    rw [show dd ([c] ++ [a]) = if c = a then dd [a] else c :: dd [a] from rfl]
    have e : dd (c :: a :: [b]) = if c = a then dd (a :: [b]) else c :: dd (a :: [b]) := rfl
    rw [e]
    have ih2 : dd (a :: [b]) = if a = b then dd [a] else dd [a] ++ [b] := ih
    rw [ih2]
    by_cases h1 : c = a <;> by_cases h2 : a = b <;> simp [h1, h2]
  | c :: d :: l => by
    have ih := dd_snoc a b (d :: l)
    have e : ∀ m : List α, dd (c :: d :: m) = if c = d then dd (d :: m) else c :: dd (d :: m) := fun m => rfl
    show dd (c :: d :: (l ++ [a] ++ [b])) = if a = b then dd (c :: d :: (l ++ [a])) else dd (c :: d :: (l ++ [a])) ++ [b]
    rw [e, e]
    have ih2 : dd (d :: (l ++ [a] ++ [b])) = if a = b then dd (d :: (l ++ [a])) else dd (d :: (l ++ [a])) ++ [b] := ih
    rw [ih2]
    by_cases h1 : c = d <;> by_cases h2 : a = b <;> simp [h1, h2]
theorem dd_take {α : Type} [DecidableEq α] {L : List α} {k : Nat} {a b : α} (hk : 1 ≤ k) (ha : L[k - 1]? = some a) (hb : L[k]? = some b) : dd (L.take (k + 1)) = if a = b then dd (L.take k) else dd (L.take k) ++ [b] := by
  have e1 : L.take k = L.take (k - 1) ++ [a] := by
    have := take_at ha
    rwa [show k - 1 + 1 = k by omega] at this
  rw [take_at hb, e1]
  exact dd_snoc a b _
theorem dd_go {α : Type} [DecidableEq α] {L : List α} {k : Nat} {a b : α} (hk : 1 ≤ k) (ha : L[k - 1]? = some a) (hb : L[k]? = some b) (hd : dd (L.take k) = L.take k) (h : a ≠ b) : dd (L.take (k + 1)) = L.take (k + 1) := by
  rw [dd_take hk ha hb, if_neg h, hd, take_at hb]
theorem dd_le {α : Type} [DecidableEq α] : ∀ (l : List α), (dd l).length ≤ l.length
  | [] => Nat.le_refl _
  | [_] => Nat.le_refl _
  | a :: b :: l => by
    have ih := dd_le (b :: l)
    unfold dd
    split
    · simp only [List.length_cons] at ih ⊢; omega
    · simp only [List.length_cons] at ih ⊢; omega
/-- what memory holds while a slice is made compact: m taken, the first j of L seen -/
structure Cpt {α : Type} [DecidableEq α] (L W : List α) (m j : Nat) : Prop where
  len : W.length = L.length
  hm : m = (dd (L.take j)).length
  lt : m < j
  hj : j ≤ L.length
  done : W.take m = dd (L.take j)
  rest : W.drop (j - 1) = L.drop (j - 1)
theorem dd_dup {α : Type} [DecidableEq α] {L : List α} {k : Nat} {a : α} (hk : 1 ≤ k) (ha : L[k - 1]? = some a) (hb : L[k]? = some a) (hd : dd (L.take k) = L.take k) : Cpt L L k (k + 1) := by
  have hlt := (List.getElem?_eq_some_iff.1 hb).1
  have e : dd (L.take (k + 1)) = L.take k := by rw [dd_take hk ha hb, if_pos rfl, hd]
  exact ⟨rfl, by rw [e, List.length_take]; omega, by omega, by omega, by rw [e], rfl⟩
theorem Cpt.at0 {α : Type} [DecidableEq α] {L W : List α} {m j q : Nat} (h : Cpt L W m j) (hq : j - 1 ≤ q) : W[q]? = L[q]? := by
  have := congrArg (fun l => l[q - (j - 1)]?) h.rest
  simp only [List.getElem?_drop] at this
  rwa [show j - 1 + (q - (j - 1)) = q by omega] at this
theorem Cpt.same {α : Type} [DecidableEq α] {L W : List α} {m j : Nat} {a : α} (h : Cpt L W m j) (ha : L[j - 1]? = some a) (hb : L[j]? = some a) : Cpt L W m (j + 1) := by
  have hlt := (List.getElem?_eq_some_iff.1 hb).1
  have hj : 1 ≤ j := by have := h.lt; omega
  have e : dd (L.take (j + 1)) = dd (L.take j) := by rw [dd_take hj ha hb, if_pos rfl]
  refine ⟨h.len, by rw [e]; exact h.hm, by have := h.lt; omega, by omega, by rw [e]; exact h.done, ?_⟩
  have := congrArg (List.drop 1) h.rest
  rw [List.drop_drop, List.drop_drop] at this
  rwa [show j - 1 + 1 = j + 1 - 1 by omega] at this
theorem Cpt.new {α : Type} [DecidableEq α] {L W : List α} {m j : Nat} {a b : α} (h : Cpt L W m j) (ha : L[j - 1]? = some a) (hb : L[j]? = some b) (hab : a ≠ b) : Cpt L (W.set m b) (m + 1) (j + 1) := by
  have hlt := (List.getElem?_eq_some_iff.1 hb).1
  have hl := h.lt
  have hj : 1 ≤ j := by omega
  have hw := h.len
  have e : dd (L.take (j + 1)) = dd (L.take j) ++ [b] := by rw [dd_take hj ha hb, if_neg hab]
  refine ⟨by rw [List.length_set]; exact h.len, by rw [e, List.length_append, ← h.hm]; rfl, by omega, by omega, ?_, ?_⟩
  · rw [e, ← h.done]
    have hg : (W.set m b)[m]? = some b := List.getElem?_set_self (by omega)
    rw [take_at hg, List.take_set, List.set_eq_of_length_le (by rw [List.length_take]; omega)]
  · rw [List.drop_set, if_pos (by omega)]
    have := congrArg (List.drop 1) h.rest
    rw [List.drop_drop, List.drop_drop] at this
    rwa [show j - 1 + 1 = j + 1 - 1 by omega] at this
end Lg
end
section
set_option linter.all false
set_option maxRecDepth 100000
set_option maxHeartbeats 8000000
namespace Lg
open Go Go.Proofs

/-! ### all moments at which something changes -/
/-- slices.Compact of a slice of one's own: neighbours that are the same, once -/
theorem compact_int {ad : Option Addr} {n cap : Nat} (L : List Int) (hn : n = L.length) (hl : n ≤ 1000000) :
    Spec Tryz.prog 76 [Tr.raw (.slice ad n cap)] [Chunk.own ad cap 1 3 (L.map (fun x => [Tr.int x]))] (fun r cs => ∃ m, m = (dd L).length ∧ r = Tr.raw (.slice ad m cap) ∧ cs = [Chunk.own ad cap 1 3 ((dd L).map (fun x => [Tr.int x]))]) := by
  refine Spec.body Tryz.func76 rfl rfl (Tryz.ntmps76) rfl fun w0 own0 M => ?_
  have hLr : (L.map (fun x => [Tr.int x])).length = n := by rw [List.length_map, hn]
  by_cases hs : n < 2
  · repeat' (first | refine goH ?_ | refine goV ?_ | refine goI ?_ | (refine Cw.k_cond ?_; first | (refine Cw.cond_dec rfl (fun hc => ?_) (fun hc => ?_) <;> try (exfalso; omega)) | refine Cw.cond_bool rfl (fun hc => ?_) (fun hc => ?_)) | refine goR ?_ | refine goP ?_ | apply PSeq.cons | apply PSeq.yes rfl rfl rfl | exact goW | fail)
    have hd : dd L = L := dd_short (by omega)
    rw [hd]
    exact Fin.ret (Ent.take goTk) (Outs.one rfl rfl) ⟨_, hn, rfl, rfl⟩
  repeat' (first | refine goH ?_ | refine goV ?_ | refine goI ?_ | (refine Cw.k_cond ?_; first | (refine Cw.cond_dec rfl (fun hc => ?_) (fun hc => ?_) <;> try (exfalso; omega)) | refine Cw.cond_bool rfl (fun hc => ?_) (fun hc => ?_)) | refine goR ?_ | refine goP ?_ | apply PSeq.cons | apply PSeq.yes rfl rfl rfl | exact goW | fail)
  refine Cw.loopI [(0, _)] _ (fun q e cc => ∃ (k : Nat), q = n - k ∧ (1 ≤ k ∧ k ≤ n ∧ dd (L.take k) = L.take k) ∧ e = [(3, .int k)] ∧ cc = [Chunk.own ad cap 1 3 (L.map (fun x => [Tr.int x]))]) ⟨_, _, _, (Ent.mkP goSub goPm), 1, rfl, ⟨by omega, by omega, dd_short (by rw [List.length_take]; omega)⟩, rfl, rfl⟩ ?_
  rintro _ _ _ ⟨k, rfl, ⟨hk1, hk, hd⟩, rfl, rfl⟩
  by_cases hkl : k < n
  rotate_left
  · have hke : k = n := by omega
    subst hke
    rw [hn, List.take_length] at hd
    repeat' (first | refine goH ?_ | refine goV ?_ | refine goI ?_ | (refine Cw.k_cond ?_; first | (refine Cw.cond_dec rfl (fun hc => ?_) (fun hc => ?_) <;> try (exfalso; omega)) | refine Cw.cond_bool rfl (fun hc => ?_) (fun hc => ?_)) | refine goR ?_ | refine goP ?_ | apply PSeq.cons | apply PSeq.yes rfl rfl rfl | exact goW | fail)
    rw [hd]
    exact Fin.ret (Ent.take goTk) (Outs.one rfl rfl) ⟨_, hn, rfl, rfl⟩
  refine Cw.own_form (List.Perm.refl _) (by omega) ?_
  rintro g rfl hcp hcm
  rw [hLr] at hcp
  obtain ⟨a, ha⟩ := at_lt (l := L) (k := k - 1) (by omega)
  obtain ⟨b, hb⟩ := at_lt (l := L) (k := k) (by omega)
  have ra : (L.map (fun x => [Tr.int x]))[((k : Int) - 1).toNat]? = some ((fun x => [Tr.int x]) a) := by rw [show ((k : Int) - 1).toNat = k - 1 by omega]; exact rows_at ha
  have rb : (L.map (fun x => [Tr.int x]))[((k : Nat) : Int).toNat]? = some ((fun x => [Tr.int x]) b) := by rw [Int.toNat_natCast]; exact rows_at hb
  simp only at ra rb
  by_cases hab : b = a
  rotate_left
  · have hd2 := dd_go hk1 ha hb hd (fun h => hab h.symm)
    have he : decide (b = a) = false := decide_eq_false hab
    repeat' (first | refine goH ?_ | refine goV ?_ | refine goI ?_ | (refine Cw.k_cond ?_; first | (refine Cw.cond_dec rfl (fun hc => ?_) (fun hc => ?_) <;> try (exfalso; omega)) | refine Cw.cond_bool rfl (fun hc => ?_) (fun hc => ?_)) | refine goR ?_ | refine goP ?_ | apply PSeq.cons | apply PSeq.yes rfl rfl rfl | exact goW | fail)
    exact ⟨_, _, _, (Ent.mk goSub goTk), ⟨k + 1, rfl, ⟨by omega, by omega, hd2⟩, rfl, rfl⟩, by omega⟩
  subst hab
  have hw := dd_dup hk1 ha hb hd
  have he : decide (b = b) = true := decide_eq_true rfl
  clear ha hb
  repeat' (first | refine goH ?_ | ((fail_if_success refine Ops.k_slice ?_); refine goV ?_) | refine goI ?_ | (refine Cw.k_cond ?_; first | (refine Cw.cond_dec rfl (fun hc => ?_) (fun hc => ?_) <;> try (exfalso; omega)) | refine Cw.cond_bool rfl (fun hc => ?_) (fun hc => ?_)) | refine goR ?_ | refine goP ?_ | apply PSeq.cons | apply PSeq.yes rfl rfl rfl | exact goW | fail)
  clear he
  refine Ops.k_slice ?_
  refine Ops.sliceR_l rfl rfl (by omega) (by omega) rfl ?_
  clear ra rb
  rw [show Tr.raw (Value.slice (some ⟨g, 0 + ((k : Nat) : Int).toNat * 1, none⟩) (n - ((k : Nat) : Int).toNat) (cap - ((k : Nat) : Int).toNat)) = Tr.qsl (some ⟨g, 0, none⟩) k 1 (n - k) (cap - k) by unfold Tr.qsl; rw [Int.toNat_natCast, Nat.zero_add]; rfl]
  repeat' (first | refine goH ?_ | refine goV ?_ | refine goI ?_ | (refine Cw.k_cond ?_; first | (refine Cw.cond_dec rfl (fun hc => ?_) (fun hc => ?_) <;> try (exfalso; omega)) | refine Cw.cond_bool rfl (fun hc => ?_) (fun hc => ?_)) | refine goR ?_ | refine goP ?_ | apply PSeq.cons | apply PSeq.yes rfl rfl rfl | exact goW | fail)
  refine Cw.loopI [(0, _), (4, _)] _ (fun q e cc => ∃ (i m : Nat) (W : List Int), q = n - i ∧ (1 ≤ i ∧ k + i ≤ n ∧ Cpt L W m (k + i)) ∧ e = [(3, .int m), (5, .int i)] ∧ cc = [Chunk.own (some ⟨g, 0, none⟩) cap 1 3 (W.map (fun x => [Tr.int x]))]) ⟨_, _, _, (Ent.mkP goSub goPm), 1, k, L, rfl, ⟨by omega, by omega, hw⟩, rfl, rfl⟩ ?_
  clear hw
  rintro _ _ _ ⟨i, m, W, rfl, ⟨hi1, hik, hw⟩, rfl, rfl⟩
  have hWl : (W.map (fun x => [Tr.int x])).length = n := by rw [List.length_map, hw.len, hn]
  have hmlt := hw.lt
  by_cases hin : k + i < n
  · obtain ⟨a, ha⟩ := at_lt (l := L) (k := k + i - 1) (by omega)
    obtain ⟨b, hb⟩ := at_lt (l := L) (k := k + i) (by omega)
    have ra : (W.map (fun x => [Tr.int x]))[k + ((i : Int) - 1).toNat]? = some ((fun x => [Tr.int x]) a) := by rw [show k + ((i : Int) - 1).toNat = k + i - 1 by omega]; exact rows_at ((hw.at0 (by omega)).trans ha)
    have rb : (W.map (fun x => [Tr.int x]))[k + ((i : Nat) : Int).toNat]? = some ((fun x => [Tr.int x]) b) := by rw [Int.toNat_natCast]; exact rows_at ((hw.at0 (by omega)).trans hb)
    simp only at ra rb
    by_cases hab : b = a
    · subst hab
      have hw2 := hw.same ha hb
      have he : decide (b = b) = true := decide_eq_true rfl
      clear ha hb hw
      repeat' (first | refine goH ?_ | (refine Ops.k_indexAddr ?_; first | (refine Ops.indexAddr_sub rfl rfl goPk (by omega) (by omega) (by omega) rfl ?_)) | refine goV ?_ | refine goI ?_ | (refine Cw.k_cond ?_; first | (refine Cw.cond_dec rfl (fun hc => ?_) (fun hc => ?_) <;> try (exfalso; omega)) | refine Cw.cond_bool rfl (fun hc => ?_) (fun hc => ?_)) | (apply OpV.w; apply OpV.k_indexAddr; exact OpV.indexAddr_sub rfl rfl goPk (by omega) (by omega) (by omega)) | refine goR ?_ | refine goP ?_ | apply PSeq.cons | apply PSeq.yes rfl rfl rfl | exact goW | fail)
      exact ⟨_, _, _, (Ent.mk goSub goTk), ⟨i + 1, m, W, rfl, ⟨by omega, by omega, hw2⟩, rfl, rfl⟩, by omega⟩
    · have hw2 := hw.new ha hb (fun h => hab h.symm)
      have he : decide (b = a) = false := decide_eq_false hab
      have hset : (W.map (fun x => [Tr.int x])).set m ((fun x => [Tr.int x]) b) = (W.set m b).map (fun x => [Tr.int x]) := by rw [List.map_set]
      obtain ⟨c, hc⟩ := at_lt (l := W) (k := m) (by rw [hw.len]; omega)
      have rc : (W.map (fun x => [Tr.int x]))[((m : Nat) : Int).toNat]? = some ((fun x => [Tr.int x]) c) := by rw [Int.toNat_natCast]; exact rows_at hc
      try simp only at rc hset
      clear ha hb hw hc
      repeat' (first | refine goH ?_ | (refine Ops.k_indexAddr ?_; first | (refine Ops.indexAddr_sub rfl rfl goPk (by omega) (by omega) (by omega) rfl ?_)) | refine goV ?_ | refine goI ?_ | (refine Cw.k_cond ?_; first | (refine Cw.cond_dec rfl (fun hc => ?_) (fun hc => ?_) <;> try (exfalso; omega)) | refine Cw.cond_bool rfl (fun hc => ?_) (fun hc => ?_)) | (apply OpV.w; apply OpV.k_indexAddr; exact OpV.indexAddr_sub rfl rfl goPk (by omega) (by omega) (by omega)) | refine goR ?_ | refine goP ?_ | apply PSeq.cons | apply PSeq.yes rfl rfl rfl | exact goW | fail)
      erw [hset]
      exact ⟨_, _, _, (Ent.mk goSub goTk), ⟨i + 1, m + 1, _, rfl, ⟨by omega, by omega, hw2⟩, rfl, rfl⟩, by omega⟩
  have hie : k + i = n := by omega
  have hdone := hw.done
  have hm := hw.hm
  rw [hie, hn, List.take_length] at hdone hm
  clear hw
  repeat' (first | refine goH ?_ | (refine Ops.k_slice ?_; first | (refine Ops.sliceR_l rfl rfl (by omega) (by omega) rfl ?_)) | ((fail_if_success refine Ops.k_c_clear ?_); refine goV ?_) | refine goI ?_ | (refine Cw.k_cond ?_; first | (refine Cw.cond_dec rfl (fun hc => ?_) (fun hc => ?_) <;> try (exfalso; omega)) | refine Cw.cond_bool rfl (fun hc => ?_) (fun hc => ?_)) | refine goR ?_ | refine goP ?_ | apply PSeq.cons | apply PSeq.yes rfl rfl rfl | exact goW | fail)
  refine Ops.k_c_clear ?_
  refine Ops.clear_part (o := m) rfl (List.Perm.refl _) (by rw [Int.toNat_natCast, Nat.zero_add]; rfl) (by omega) (by omega) ?_
  rw [Int.toNat_natCast]
  have hz : ((W.map (fun x => [Tr.int x])).take m ++ List.replicate (n - m) (List.map Tr.raw [Value.int .i64 0])).take m = (dd L).map (fun x => [Tr.int x]) := by
    rw [List.take_append_of_le_length (by rw [List.length_take, hWl]; omega), List.take_take, Nat.min_self, ← List.map_take, hdone]
  have hzl : ((W.map (fun x => [Tr.int x])).take m ++ List.replicate (n - m) (List.map Tr.raw [Value.int .i64 0])).length = n := by rw [List.length_append, List.length_take, hWl, List.length_replicate]; omega
  generalize (W.map (fun x => [Tr.int x])).take m ++ List.replicate (n - m) (List.map Tr.raw [Value.int .i64 0]) = Z at *
  repeat' (first | refine goH ?_ | refine goV ?_ | refine goI ?_ | (refine Cw.k_cond ?_; first | (refine Cw.cond_dec rfl (fun hc => ?_) (fun hc => ?_) <;> try (exfalso; omega)) | refine Cw.cond_bool rfl (fun hc => ?_) (fun hc => ?_)) | refine goR ?_ | refine goP ?_ | apply PSeq.cons | apply PSeq.yes rfl rfl rfl | exact goW | fail)
  rw [Int.toNat_natCast, hz]
  exact Fin.ret (Ent.take goTk) (Outs.one rfl rfl) ⟨_, List.length_map _, rfl, rfl⟩

def momR (l : List Cd) : List Int := [0, tEnd] ++ l.map Cd.at_
def momL (l : List Cd) : List Int := dd ((momR l).mergeSort fun x y => decide (x ≤ y))
theorem momL_inc (l : List Cd) : (momL l).Pairwise (· < ·) := by
  have h := List.pairwise_mergeSort (le := fun x y : Int => decide (x ≤ y)) (by intro a b c h1 h2; simp only [decide_eq_true_eq] at *; omega) (by intro a b; simp only [Bool.or_eq_true, decide_eq_true_eq]; omega) (momR l)
  have h2 := dd_sorted (le := fun a b : Int => a ≤ b) (fun a b h1 h2 => by omega) _ (h.imp fun h => by simpa using h)
  exact h2.imp fun h => by omega
theorem momL_mem (l : List Cd) (x : Int) : x ∈ momL l ↔ (x = 0 ∨ x = tEnd ∨ ∃ c ∈ l, c.at_ = x) := by
  unfold momL
  rw [dd_mem, (List.mergeSort_perm _ _).mem_iff]
  unfold momR
  rw [List.mem_append, List.mem_map]
  simp only [List.mem_cons, List.mem_nil_iff, or_false]
  rw [or_assoc]
theorem momL_len (l : List Cd) : (momL l).length ≤ l.length + 2 := by
  unfold momL
  have h1 := (dd_sub ((momR l).mergeSort fun x y => decide (x ≤ y))).length_le
  rw [List.length_mergeSort] at h1
  have h2 : (momR l).length = l.length + 2 := by unfold momR; simp
  rw [h2] at h1
  exact h1
theorem intRows_snocF (l : List Int) (x : Int) : intRows l ++ [[Tr.int x]] = intRows (l ++ [x]) := by unfold intRows; rw [List.map_append]; rfl
theorem moments_fn (l : List Cd) (hl : l.length ≤ 100000) : PFn Tryz.prog 54 [.cds l] (· = .ints (momL l)) := by
  have hL : (l.map Cd.row).length = l.length := List.length_map _
  refine PFn.mk (Spec.body Tryz.func54 rfl rfl (Tryz.ntmps54) rfl fun w0 own0 M => ?_)
  repeat' (first | refine goH ?_ | ((fail_if_success refine Ops.k_buildSlice ?_); refine goV ?_) | ((fail_if_success refine Ops.k_buildSlice ?_); refine goB (fun b => ?_)) | ((fail_if_success refine Ops.k_buildSlice ?_); refine goC (fun ad cap => ?_)) | refine goI ?_ | (refine Cw.k_cond ?_; first | (refine Cw.cond_dec rfl (fun hc => ?_) (fun hc => ?_) <;> try (exfalso; omega)) | refine Cw.cond_bool rfl (fun hc => ?_) (fun hc => ?_)) | fail)
  refine Ops.buildSlice_own (by exact Parts.cons rfl rfl rfl (by exact Parts.cons rfl rfl rfl (by exact Parts.nil))) rfl rfl rfl (fun ad cap => ?_)
  repeat' (first | refine goH ?_ | refine goV ?_ | refine goB (fun b => ?_) | refine goC (fun ad cap => ?_) | refine goI ?_ | (refine Cw.k_cond ?_; first | (refine Cw.cond_dec rfl (fun hc => ?_) (fun hc => ?_) <;> try (exfalso; omega)) | refine Cw.cond_bool rfl (fun hc => ?_) (fun hc => ?_)) | fail)
  refine Cw.loopI [(7, _), (8, _)] _ (fun q e c => ∃ (k : Nat) (ad : Option Addr) (cap : Nat) (rows : List (List Tr)), q = l.length - k ∧ (k ≤ l.length ∧ rows = intRows ([0, tEnd] ++ (l.take k).map Cd.at_) ∧ rows.length = k + 2) ∧ e = [(3, Tr.raw (.slice ad rows.length cap)), (9, .int k)] ∧ c = [Chunk.own ad cap 1 3 rows])
    ⟨_, _, _, (Ent.mkP goSub goPm), 0, ad, cap, [[.int 0], [.int tEnd]], rfl, ⟨by omega, rfl, rfl⟩, rfl, rfl⟩ ?_
  rintro _ _ _ ⟨k, ad, cap, rows, rfl, ⟨hk, hrows, hrl⟩, rfl, rfl⟩
  by_cases hkl : k < l.length
  · obtain ⟨x, hx⟩ := at_lt hkl
    have hrow : (l.map Cd.row)[k]? = some [.int x.at_, .str x.key, .bool x.on] := rows_at hx
    have hr : rows ++ [[Tr.int x.at_]] = intRows ([0, tEnd] ++ (l.take (k + 1)).map Cd.at_) := by
      rw [hrows, intRows_snocF, take_at hx, List.map_append, List.append_assoc]
      rfl
    clear hx hrows
    repeat' (first | refine goH ?_ | refine goV ?_ | refine goB (fun b => ?_) | refine goC (fun ad cap => ?_) | refine goI ?_ | (refine Cw.k_cond ?_; first | (refine Cw.cond_dec rfl (fun hc => ?_) (fun hc => ?_) <;> try (exfalso; omega)) | refine Cw.cond_bool rfl (fun hc => ?_) (fun hc => ?_)) | fail)
    exact ⟨_, _, _, (Ent.mk goSub goTk), ⟨k + 1, _, _, _, rfl, ⟨by omega, hr, by rw [List.length_append, hrl]; rfl⟩, rfl, rfl⟩, by omega⟩
  · rw [List.take_of_length_le (by omega)] at hrows
    have hR : rows = intRows (momR l) := hrows
    have hml : (momR l).length = rows.length := by rw [hR, intRows_len]
    have kS := fun (ad : Option Addr) (cap : Nat) => sortInts Tryz.lays189 (fun vs w => rfl) (ad := ad) (cap := cap) (n := rows.length) (E := 3) (xs := momR l) hml.symm (by omega) (by omega)
    rw [show ((momR l).map fun a => [Tr.int a]) = rows from hR.symm] at kS
    obtain ⟨S, hS⟩ : ∃ S, S = (momR l).mergeSort fun x y => decide (x ≤ y) := ⟨_, rfl⟩
    rw [← hS] at kS
    have hSl : S.length = rows.length := by rw [hS, List.length_mergeSort, hml]
    have kC := fun (ad : Option Addr) (cap : Nat) => compact_int (ad := ad) (cap := cap) (n := rows.length) S hSl.symm (by omega)
    rw [show momL l = dd S by unfold momL; rw [hS]]
    have hDl := intRows_len (dd S)
    rw [← hDl] at kC
    change ∀ (ad : Option Addr) (cap : Nat), Spec Tryz.prog 76 [Tr.raw (.slice ad rows.length cap)] [Chunk.own ad cap 1 3 (S.map fun a => [Tr.int a])] (fun r cs => ∃ m, m = (intRows (dd S)).length ∧ r = Tr.raw (.slice ad m cap) ∧ cs = [Chunk.own ad cap 1 3 (intRows (dd S))]) at kC
    clear hrows hR hS hml
    generalize (S.map fun a => [Tr.int a]) = SR at *
    generalize dd S = D at *
    repeat' (first | refine goH ?_ | refine goV ?_ | refine goB (fun b => ?_) | refine goC (fun ad cap => ?_) | refine goI ?_ | (refine Cw.k_cond ?_; first | (refine Cw.cond_dec rfl (fun hc => ?_) (fun hc => ?_) <;> try (exfalso; omega)) | refine Cw.cond_bool rfl (fun hc => ?_) (fun hc => ?_)) | (refine Ops.k_calla ?_; first | (refine Ops.call (kS _ _) (Evs.cons rfl Evs.nil) goPm rfl ?_; rintro r cs' ⟨rfl, rfl⟩) | (refine Ops.k_callf 76 ?_; (refine Ops.call (kC _ _) (Evs.cons rfl Evs.nil) goPm rfl ?_; rintro r cs' ⟨m, rfl, rfl, rfl⟩))) | fail)
    refine Fin.ret (Ent.trans (Ent.settle (s := 2) rfl goPk rfl) (Ent.take goTk)) (Outs.sole rfl goOe) ⟨rfl, rfl⟩
/-! ### when something is so -/
theorem wsK_len (at_ : List Int) (is : Int → Bool) : ∀ k, (wsK at_ is k).length ≤ k
  | 0 => Nat.le_refl _
  | k + 1 => by
    have ih := wsK_len at_ is k
    unfold wsK
    split
    · rename_i a b _ _
      have := putW_len (wsK at_ is k) a b
      split <;> omega
    · omega
theorem whenSo_fn (Ms : List Int) (hM : Ms.Pairwise (· < ·)) (hl : Ms.length ≤ 1000000) (h2 : 2 ≤ Ms.length) (is : Int → Bool) {g : Nat} {caps : List Value} {cin : List Chunk} (hs : ∀ t : Int, Spec Tryz.prog g ([.int t] ++ caps.map Tr.raw) cin (fun r cs => r = Tr.bool (is t) ∧ cs = cin)) :
    Spec Tryz.prog 53 [.ints Ms, Tr.raw (.func (.func g) #[] caps.toArray)] cin (fun r cs => ∃ ad cap, r = Tr.raw (.slice ad (whenW Ms is).length cap) ∧ cs = Chunk.own ad cap 2 32 ((whenW Ms is).map Wn.row) :: cin) := by
  have hL := intRows_len Ms
  refine Spec.body Tryz.func53 rfl rfl (Tryz.ntmps53) rfl fun w0 own0 M => ?_
  repeat' (first | refine goH ?_ | refine goV ?_ | refine goC (fun ad cap => ?_) | refine goG ?_ | (refine Ops.k_guard ?_; first | (refine Ops.guard_dec rfl rfl (fun hc => ?_) (fun hc => ?_) <;> try (exfalso; omega)) | refine Ops.guard_split rfl rfl (fun hc => ?_) (fun hc => ?_)) | refine goI ?_ | (refine Cw.k_cond ?_; first | (refine Cw.cond_dec rfl (fun hc => ?_) (fun hc => ?_) <;> try (exfalso; omega)) | refine Cw.cond_bool rfl (fun hc => ?_) (fun hc => ?_)) | refine goR ?_ | refine goP ?_ | apply PSeq.cons | apply PSeq.yes rfl rfl rfl | exact goW | fail)
  refine Cw.loopI [(0, _), (1, _), (10, _)] _ (fun q e c => ∃ (k : Nat) (out : List Wn) (ad : Option Addr) (cap m : Nat), q = Ms.length - 1 - k ∧ (k ≤ Ms.length - 1 ∧ out = wsK Ms is k ∧ m = out.length) ∧ e = [(5, Tr.raw (.slice ad m cap)), (11, .int k)] ∧ c = [Chunk.own ad cap 2 32 (out.map Wn.row)])
    ⟨_, _, _, Ent.trans (Ent.nil 2 32) (Ent.mkP goSub goPm), 0, [], none, 0, 0, rfl, ⟨by omega, rfl, rfl⟩, rfl, rfl⟩ ?_
  rintro _ _ _ ⟨k, out, ad, cap, m, rfl, ⟨hk, ho, hm⟩, rfl, rfl⟩
  have hol := wsK_len Ms is k
  rw [← ho] at hol
  by_cases hkl : k < Ms.length - 1
  rotate_left
  · have hke : k = Ms.length - 1 := by omega
    unfold whenW
    rw [← hke, ← ho, hm]
    repeat' (first | refine goH ?_ | refine goV ?_ | refine goC (fun ad cap => ?_) | refine goG ?_ | (refine Ops.k_guard ?_; first | (refine Ops.guard_dec rfl rfl (fun hc => ?_) (fun hc => ?_) <;> try (exfalso; omega)) | refine Ops.guard_split rfl rfl (fun hc => ?_) (fun hc => ?_)) | refine goI ?_ | (refine Cw.k_cond ?_; first | (refine Cw.cond_dec rfl (fun hc => ?_) (fun hc => ?_) <;> try (exfalso; omega)) | refine Cw.cond_bool rfl (fun hc => ?_) (fun hc => ?_)) | refine goR ?_ | refine goP ?_ | apply PSeq.cons | apply PSeq.yes rfl rfl rfl | exact goW | fail)
    exact Fin.ret Ent.refl (Outs.one rfl rfl) ⟨_, _, rfl, rfl⟩
  obtain ⟨a, ha⟩ := at_lt (l := Ms) (k := k) (by omega)
  obtain ⟨b2, hb2⟩ := at_lt (l := Ms) (k := k + 1) (by omega)
  have hab := sorted_get hM ha hb2 (by omega)
  have hnext := wsK_next (is := is) ha hb2
  rw [← ho] at hnext
  have r1 : (intRows Ms)[((k : Nat) : Int).toNat]? = some [Tr.int a] := by rw [Int.toNat_natCast]; exact intRows_at ha
  have r2 : (intRows Ms)[((k : Int) + 1).toNat]? = some [Tr.int b2] := by rw [show ((k : Int) + 1).toNat = k + 1 by omega]; exact intRows_at hb2
  have kI := hs a
  clear ho ha hb2 hs
  cases hsa : is a with
  | false =>
    rw [hsa] at kI hnext
    rw [if_neg (by simp)] at hnext
    repeat' (first | refine goH ?_ | refine goV ?_ | refine goC (fun ad cap => ?_) | refine goG ?_ | (refine Ops.k_guard ?_; first | (refine Ops.guard_dec rfl rfl (fun hc => ?_) (fun hc => ?_) <;> try (exfalso; omega)) | refine Ops.guard_split rfl rfl (fun hc => ?_) (fun hc => ?_)) | refine goI ?_ | (refine Cw.k_cond ?_; first | (refine Cw.cond_dec rfl (fun hc => ?_) (fun hc => ?_) <;> try (exfalso; omega)) | refine Cw.cond_bool rfl (fun hc => ?_) (fun hc => ?_)) | (refine Ops.k_calla ?_; first | refine Ops.callS_fn (caps := caps) (args := [.int a]) rfl kI (Evs.cons rfl Evs.nil) (List.perm_append_comm (l₁ := [Chunk.own ad cap 2 32 (out.map Wn.row)])) rfl ?_) | refine goR ?_ | refine goP ?_ | apply PSeq.cons | apply PSeq.yes rfl rfl rfl | exact goW | fail)
    exact ⟨_, _, _, (Ent.mkP goSub goPm), ⟨k + 1, out, _, _, m, rfl, ⟨by omega, hnext.symm, hm⟩, rfl, rfl⟩, by omega⟩
  | true =>
    rw [hsa] at kI hnext
    rw [if_pos rfl] at hnext
    unfold putW at hnext
    rw [if_neg (by omega)] at hnext
    rcases last_cases out with rfl | ⟨p, w, rfl⟩
    · rw [if_neg (by simp [lastTo])] at hnext
      have hm0 : m = 0 := by simpa using hm
      have key0 : ([] : List Wn).map Wn.row ++ [[Tr.int a, Tr.int b2]] = ([⟨a, b2⟩] : List Wn).map Wn.row := rfl
      have hr0 : (([] : List Wn).map Wn.row).length = m := by rw [hm0]; rfl
      clear hol hm
      generalize ([] : List Wn).map Wn.row = rows0 at *
      repeat' (first | refine goH ?_ | refine goV ?_ | refine goC (fun ad cap => ?_) | refine goG ?_ | (refine Ops.k_guard ?_; first | (refine Ops.guard_dec rfl rfl (fun hc => ?_) (fun hc => ?_) <;> try (exfalso; omega)) | refine Ops.guard_split rfl rfl (fun hc => ?_) (fun hc => ?_)) | refine goI ?_ | (refine Cw.k_cond ?_; first | (refine Cw.cond_dec rfl (fun hc => ?_) (fun hc => ?_) <;> try (exfalso; omega)) | refine Cw.cond_bool rfl (fun hc => ?_) (fun hc => ?_)) | (refine Ops.k_calla ?_; first | refine Ops.callS_fn (caps := caps) (args := [.int a]) rfl kI (Evs.cons rfl Evs.nil) (List.perm_append_comm (l₁ := [Chunk.own ad cap 2 32 rows0])) rfl ?_) | refine goR ?_ | refine goP ?_ | apply PSeq.cons | apply PSeq.yes rfl rfl rfl | exact goW | fail)
      rw [key0]
      exact ⟨_, _, _, (Ent.mkP goSub goPm), ⟨k + 1, [⟨a, b2⟩], _, _, _, rfl, ⟨by omega, hnext.symm, List.length_map _⟩, rfl, rfl⟩, by omega⟩
    rw [lastTo_snoc, setTo_snoc] at hnext
    have hm1 : m = p.length + 1 := by rw [hm, List.length_append]; rfl
    have hr2 : ((p ++ [w]).map Wn.row)[((m : Int) - 1).toNat]? = some [.int w.fr, .int w.to] := by
      rw [show ((m : Int) - 1).toNat = p.length by omega, List.map_append, List.getElem?_append_right (by rw [List.length_map]; exact Nat.le_refl _), List.length_map, Nat.sub_self]
      rfl
    have hRl : ((p ++ [w]).map Wn.row).length = m := by rw [List.length_map, hm]
    by_cases h1 : some w.to = some a
    · rw [if_pos h1] at hnext
      have h1 := Option.some.inj h1
      have hset : ((p ++ [w]).map Wn.row).set ((m : Int) - 1).toNat [.int w.fr, .int b2] = (p ++ ([⟨w.fr, b2⟩] : List Wn)).map Wn.row := by
        rw [show ((m : Int) - 1).toNat = p.length by omega, List.map_append, List.map_append, List.set_append_right _ _ (by rw [List.length_map]; exact Nat.le_refl _), List.length_map, Nat.sub_self]
        rfl
      generalize (p ++ [w]).map Wn.row = rows at *
      repeat' (first | refine goH ?_ | refine goV ?_ | refine goC (fun ad cap => ?_) | refine goG ?_ | (refine Ops.k_guard ?_; first | (refine Ops.guard_dec rfl rfl (fun hc => ?_) (fun hc => ?_) <;> try (exfalso; omega)) | refine Ops.guard_split rfl rfl (fun hc => ?_) (fun hc => ?_)) | refine goI ?_ | (refine Cw.k_cond ?_; first | (refine Cw.cond_dec rfl (fun hc => ?_) (fun hc => ?_) <;> try (exfalso; omega)) | refine Cw.cond_bool rfl (fun hc => ?_) (fun hc => ?_)) | (refine Ops.k_calla ?_; first | refine Ops.callS_fn (caps := caps) (args := [.int a]) rfl kI (Evs.cons rfl Evs.nil) (List.perm_append_comm (l₁ := [Chunk.own ad cap 2 32 rows])) rfl ?_) | refine goR ?_ | refine goP ?_ | apply PSeq.cons | apply PSeq.yes rfl rfl rfl | exact goW | fail)
      erw [hset]
      exact ⟨_, _, _, (Ent.mkP goSub goPm), ⟨k + 1, p ++ ([⟨w.fr, b2⟩] : List Wn), _, _, m, rfl, ⟨by omega, hnext.symm, by rw [hm1, List.length_append]; rfl⟩, rfl, rfl⟩, by omega⟩
    · rw [if_neg h1] at hnext
      have h1 : w.to ≠ a := fun e => h1 (congrArg some e)
      have key : (p ++ [w]).map Wn.row ++ [[Tr.int a, Tr.int b2]] = (p ++ [w] ++ ([⟨a, b2⟩] : List Wn)).map Wn.row := by rw [List.map_append (l₁ := p ++ [w])]; rfl
      generalize (p ++ [w]).map Wn.row = rows at *
      repeat' (first | refine goH ?_ | refine goV ?_ | refine goC (fun ad cap => ?_) | refine goG ?_ | (refine Ops.k_guard ?_; first | (refine Ops.guard_dec rfl rfl (fun hc => ?_) (fun hc => ?_) <;> try (exfalso; omega)) | refine Ops.guard_split rfl rfl (fun hc => ?_) (fun hc => ?_)) | refine goI ?_ | (refine Cw.k_cond ?_; first | (refine Cw.cond_dec rfl (fun hc => ?_) (fun hc => ?_) <;> try (exfalso; omega)) | refine Cw.cond_bool rfl (fun hc => ?_) (fun hc => ?_)) | (refine Ops.k_calla ?_; first | refine Ops.callS_fn (caps := caps) (args := [.int a]) rfl kI (Evs.cons rfl Evs.nil) (List.perm_append_comm (l₁ := [Chunk.own ad cap 2 32 rows])) rfl ?_) | refine goR ?_ | refine goP ?_ | apply PSeq.cons | apply PSeq.yes rfl rfl rfl | exact goW | fail)
      rw [key]
      exact ⟨_, _, _, (Ent.mkP goSub goPm), ⟨k + 1, p ++ [w] ++ ([⟨a, b2⟩] : List Wn), _, _, _, rfl, ⟨by omega, hnext.symm, List.length_map _⟩, rfl, rfl⟩, by omega⟩
end Lg
end
section
set_option linter.all false
set_option maxRecDepth 100000
set_option maxHeartbeats 8000000
namespace Lg
open Go Go.Proofs

/-! ### Faulty -/
theorem mom_when {l : List Cd} (h : CdOk l) (f : (ByteArray → Bool) → Bool) : Can (whenW (momL l) fun t => f fun key => onAt l key t) ∧ (∀ t, memW (whenW (momL l) fun t => f fun key => onAt l key t) t ↔ (0 ≤ t ∧ t < tEnd ∧ (f fun key => onAt l key t) = true)) ∧ (whenW (momL l) fun t => f fun key => onAt l key t).length ≤ (momL l).length :=
  whenW_ok (mom_ok h (momL_inc l) (momL_mem l) f)
theorem when_lit {l : List Cd} (h : CdOk l) (key : ByteArray) : whenW (momL l) (onAt l key) = litW l key := by
  obtain ⟨h1, h2, _⟩ := mom_when h (fun g => g key)
  obtain ⟨g1, g2, _⟩ := litW_ok (key := key) h
  exact can_uniq h1 g1 fun t => (h2 t).trans (g2 t).symm
theorem mom_two {l : List Cd} (h : CdOk l) : 2 ≤ (momL l).length := (mom_ok h (momL_inc l) (momL_mem l) (fun g => true)).two
theorem faultyIs_fn (l : List Cd) (hl : l.length ≤ 1000000) (key : ByteArray) (b2 b3 : Nat) (t : Int) : Spec Tryz.prog 55 ([.int t] ++ [Value.pointer (some ⟨b2, 0, none⟩), Value.pointer (some ⟨b3, 0, none⟩)].map Tr.raw) [Chunk.box b2 26 [.cds l], Chunk.box b3 9 [.str key]] (fun r cs => r = Tr.bool (onAt l key t) ∧ cs = [Chunk.box b2 26 [.cds l], Chunk.box b3 9 [.str key]]) := by
  have k1 := onAt_fn l hl key t
  refine Spec.body Tryz.func55 rfl rfl (Tryz.ntmps55) rfl fun w0 own0 M => ?_
  repeat' (first | refine goH ?_ | refine goV ?_ | refine goI ?_ | (refine Cw.k_cond ?_; first | (refine Cw.cond_dec rfl (fun hc => ?_) (fun hc => ?_) <;> try (exfalso; omega)) | refine Cw.cond_bool rfl (fun hc => ?_) (fun hc => ?_)) | (refine Ops.k_calla ?_; first | (refine Ops.k_callf 56 ?_; refine Ops.callV k1 (Evs.cons rfl (Evs.cons rfl (Evs.cons rfl Evs.nil))) rfl ?_)) | fail)
  exact Fin.ret (Ent.take goTk) (Outs.one rfl rfl) ⟨rfl, rfl⟩
theorem faultyOf_fn (l : List Cd) (hl : l.length ≤ 100000) (hok : CdOk l) (key : ByteArray) : PFn Tryz.prog 20 [.cds l, .str key] (· = .wns (litW l key)) := by
  have k1 := moments_fn l hl
  have hml := momL_len l
  have k2 := fun b2 b3 => whenSo_fn (momL l) (momL_inc l) (by omega) (mom_two hok) (onAt l key) (g := 55) (caps := [.pointer (some ⟨b2, 0, none⟩), .pointer (some ⟨b3, 0, none⟩)]) (cin := [Chunk.box b2 26 [.cds l], Chunk.box b3 9 [.str key]]) (fun t => faultyIs_fn l (by omega) key b2 b3 t)
  rw [when_lit hok] at k2
  have hWl : ((litW l key).map Wn.row).length = (litW l key).length := List.length_map _
  generalize litW l key = W at *
  rw [← hWl] at k2
  refine PFn.mk (Spec.body Tryz.func20 rfl rfl (Tryz.ntmps20) rfl fun w0 own0 M => ?_)
  repeat' (first | refine goH ?_ | refine goV ?_ | refine goB (fun b => ?_) | refine goI ?_ | (refine Cw.k_cond ?_; first | (refine Cw.cond_dec rfl (fun hc => ?_) (fun hc => ?_) <;> try (exfalso; omega)) | refine Cw.cond_bool rfl (fun hc => ?_) (fun hc => ?_)) | (refine Ops.k_calla ?_; first | (refine Ops.k_callf 54 ?_; refine Ops.callV k1 (Evs.cons rfl Evs.nil) rfl ?_) | (refine Ops.k_callf 53 ?_; (refine Ops.call (k2 _ _) (Evs.cons rfl (Evs.cons rfl Evs.nil)) goPm rfl ?_; rintro r cs' ⟨ad, cap, rfl, rfl⟩))) | fail)
  refine Fin.ret (Ent.trans (Ent.settle (s := 4) rfl goPk rfl) (Ent.take goTk)) (Outs.sole rfl goOe) ⟨rfl, rfl⟩
def fauT (l : List Cd) (key : ByteArray) : Tr := if codesE l ≠ 0 then .tup [.wns [], .int (codesE l)] else if isKey key = false then .tup [.wns [], .int 5] else .tup [.wns (litW l key), .int 0]
theorem faulty_fn (l : List Cd) (hl : l.length ≤ 100000) (key : ByteArray) : PFn Tryz.prog 13 [.cds l, .str key] (· = fauT l key) := by
  have k1 := checkCodes_fn l (by omega)
  have k2 := key_fn key
  unfold fauT
  by_cases h : codesE l ≠ 0
  · rw [if_pos h]
    generalize codesE l = E at *
    refine PFn.mk (Spec.body Tryz.func13 rfl rfl (Tryz.ntmps13) rfl fun w0 own0 M => ?_)
    repeat' (first | refine goH ?_ | refine goV ?_ | refine goI ?_ | (refine Cw.k_cond ?_; first | (refine Cw.cond_dec rfl (fun hc => ?_) (fun hc => ?_) <;> try (exfalso; omega)) | refine Cw.cond_bool rfl (fun hc => ?_) (fun hc => ?_)) | (refine Ops.k_calla ?_; first | (refine Ops.k_callf 10 ?_; refine Ops.callV k1 (Evs.cons rfl Evs.nil) rfl ?_)) | fail)
    refine Fin.ret (Ent.trans (Ent.nilsl 2 (s := 4) rfl) (Ent.take goTk)) (Outs.many rfl (OutL.cons goOe (OutL.cons goOe OutL.nil)) rfl) ⟨rfl, rfl⟩
  rw [if_neg h]
  have h0 : codesE l = 0 := by omega
  rw [h0] at k1
  clear h h0
  by_cases hq : isKey key = false
  · rw [if_pos hq]
    rw [hq] at k2
    refine PFn.mk (Spec.body Tryz.func13 rfl rfl (Tryz.ntmps13) rfl fun w0 own0 M => ?_)
    repeat' (first | refine goH ?_ | refine goV ?_ | refine goI ?_ | (refine Cw.k_cond ?_; first | (refine Cw.cond_dec rfl (fun hc => ?_) (fun hc => ?_) <;> try (exfalso; omega)) | refine Cw.cond_bool rfl (fun hc => ?_) (fun hc => ?_)) | (refine Ops.k_calla ?_; first | (refine Ops.k_callf 10 ?_; refine Ops.callV k1 (Evs.cons rfl Evs.nil) rfl ?_) | (refine Ops.k_callf 35 ?_; refine Ops.callV k2 (Evs.cons rfl Evs.nil) rfl ?_)) | fail)
    refine Fin.ret (Ent.trans (Ent.nilsl 2 (s := 4) rfl) (Ent.take goTk)) (Outs.many rfl (OutL.cons goOe (OutL.cons goOe OutL.nil)) rfl) ⟨rfl, rfl⟩
  rw [if_neg hq]
  rw [Bool.not_eq_false] at hq
  rw [hq] at k2
  clear hq
  have k3 := lit_fn l hl key
  have hWl : ((litW l key).map Wn.row).length = (litW l key).length := List.length_map _
  generalize litW l key = W at *
  rw [← hWl] at k3
  refine PFn.mk (Spec.body Tryz.func13 rfl rfl (Tryz.ntmps13) rfl fun w0 own0 M => ?_)
  repeat' (first | refine goH ?_ | refine goV ?_ | refine goI ?_ | (refine Cw.k_cond ?_; first | (refine Cw.cond_dec rfl (fun hc => ?_) (fun hc => ?_) <;> try (exfalso; omega)) | refine Cw.cond_bool rfl (fun hc => ?_) (fun hc => ?_)) | (refine Ops.k_calla ?_; first | (refine Ops.k_callf 10 ?_; refine Ops.callV k1 (Evs.cons rfl Evs.nil) rfl ?_) | (refine Ops.k_callf 35 ?_; refine Ops.callV k2 (Evs.cons rfl Evs.nil) rfl ?_) | (refine Ops.k_callf 41 ?_; (refine Ops.call k3 (Evs.cons rfl (Evs.cons rfl Evs.nil)) (List.Perm.refl _) rfl ?_; rintro r cs' ⟨ad, cap, rfl, rfl⟩))) | fail)
  refine Fin.ret (Ent.trans (Ent.settle (s := 4) rfl goPk rfl) (Ent.take goTk)) (Outs.many rfl (OutL.cons goOe (OutL.cons goOe OutL.nil)) rfl) ⟨rfl, rfl⟩
end Lg
end
