/- A part of the proof of a law of this seat: it adds no condition. By an AI agent. -/
import Derived.Test.YteooghfcfmmkkaaLgClr
import Derived.Test.YteooghfcfmmkkaaCo3
section
set_option linter.all false
set_option maxRecDepth 100000
set_option maxHeartbeats 8000000
namespace Lg
open Go Go.Proofs

theorem dd_short {α : Type} [DecidableEq α] {l : List α} (h : l.length < 2) : dd l = l := by
  rcases l with _ | ⟨a, _ | ⟨b, l⟩⟩
  · rfl
  · rfl
  · simp at h; omega
theorem dd_snoc {α : Type} [DecidableEq α] (a b : α) : ∀ l : List α, dd (l ++ [a] ++ [b]) = if a = b then dd (l ++ [a]) else dd (l ++ [a]) ++ [b]
  | [] => by
    show dd [a, b] = _
    by_cases h : a = b
    · rw [if_pos h, dd, if_pos h, h]; rfl
    · rw [if_neg h, dd, if_neg h]; rfl
  | [c] => by
    have ih := dd_snoc a b []
    simp only [List.nil_append] at ih
    show dd (c :: a :: [b]) = _
    rw [show dd ([c] ++ [a]) = if c = a then dd [a] else c :: dd [a] from rfl]
    have e : dd (c :: a :: [b]) = if c = a then dd (a :: [b]) else c :: dd (a :: [b]) := rfl
    rw [e]
    have ih2 : dd (a :: [b]) = if a = b then dd [a] else dd [a] ++ [b] := ih
    rw [ih2]
    by_cases h1 : c = a <;> by_cases h2 : a = b <;> simp [h1, h2]
  | c :: d :: l => by
    have ih := dd_snoc a b (d :: l)
    have e : ∀ m : List α, dd (c :: d :: m) = if c = d then dd (d :: m) else c :: dd (d :: m) := fun m => rfl
    show dd (c :: d :: (l ++ [a] ++ [b])) = if a = b then dd (c :: d :: (l ++ [a])) else dd (c :: d :: (l ++ [a])) ++ [b]
    rw [e, e]
    have ih2 : dd (d :: (l ++ [a] ++ [b])) = if a = b then dd (d :: (l ++ [a])) else dd (d :: (l ++ [a])) ++ [b] := ih
    rw [ih2]
    by_cases h1 : c = d <;> by_cases h2 : a = b <;> simp [h1, h2]
theorem dd_take {α : Type} [DecidableEq α] {L : List α} {k : Nat} {a b : α} (hk : 1 ≤ k) (ha : L[k - 1]? = some a) (hb : L[k]? = some b) : dd (L.take (k + 1)) = if a = b then dd (L.take k) else dd (L.take k) ++ [b] := by
  have e1 : L.take k = L.take (k - 1) ++ [a] := by
    have := take_at ha
    rwa [show k - 1 + 1 = k by omega] at this
  rw [take_at hb, e1]
  exact dd_snoc a b _
theorem dd_go {α : Type} [DecidableEq α] {L : List α} {k : Nat} {a b : α} (hk : 1 ≤ k) (ha : L[k - 1]? = some a) (hb : L[k]? = some b) (hd : dd (L.take k) = L.take k) (h : a ≠ b) : dd (L.take (k + 1)) = L.take (k + 1) := by
  rw [dd_take hk ha hb, if_neg h, hd, take_at hb]
theorem dd_le {α : Type} [DecidableEq α] : ∀ (l : List α), (dd l).length ≤ l.length
  | [] => Nat.le_refl _
  | [_] => Nat.le_refl _
  | a :: b :: l => by
    have ih := dd_le (b :: l)
    unfold dd
    split
    · simp only [List.length_cons] at ih ⊢; omega
    · simp only [List.length_cons] at ih ⊢; omega
/-- what memory holds while a slice is made compact: m taken, the first j of L seen -/
structure Cpt {α : Type} [DecidableEq α] (L W : List α) (m j : Nat) : Prop where
  len : W.length = L.length
  hm : m = (dd (L.take j)).length
  lt : m < j
  hj : j ≤ L.length
  done : W.take m = dd (L.take j)
  rest : W.drop (j - 1) = L.drop (j - 1)
theorem dd_dup {α : Type} [DecidableEq α] {L : List α} {k : Nat} {a : α} (hk : 1 ≤ k) (ha : L[k - 1]? = some a) (hb : L[k]? = some a) (hd : dd (L.take k) = L.take k) : Cpt L L k (k + 1) := by
  have hlt := (List.getElem?_eq_some_iff.1 hb).1
  have e : dd (L.take (k + 1)) = L.take k := by rw [dd_take hk ha hb, if_pos rfl, hd]
  exact ⟨rfl, by rw [e, List.length_take]; omega, by omega, by omega, by rw [e], rfl⟩
theorem Cpt.at0 {α : Type} [DecidableEq α] {L W : List α} {m j q : Nat} (h : Cpt L W m j) (hq : j - 1 ≤ q) : W[q]? = L[q]? := by
  have := congrArg (fun l => l[q - (j - 1)]?) h.rest
  simp only [List.getElem?_drop] at this
  rwa [show j - 1 + (q - (j - 1)) = q by omega] at this
theorem Cpt.same {α : Type} [DecidableEq α] {L W : List α} {m j : Nat} {a : α} (h : Cpt L W m j) (ha : L[j - 1]? = some a) (hb : L[j]? = some a) : Cpt L W m (j + 1) := by
  have hlt := (List.getElem?_eq_some_iff.1 hb).1
  have hj : 1 ≤ j := by have := h.lt; omega
  have e : dd (L.take (j + 1)) = dd (L.take j) := by rw [dd_take hj ha hb, if_pos rfl]
  refine ⟨h.len, by rw [e]; exact h.hm, by have := h.lt; omega, by omega, by rw [e]; exact h.done, ?_⟩
  have := congrArg (List.drop 1) h.rest
  rw [List.drop_drop, List.drop_drop] at this
  rwa [show j - 1 + 1 = j + 1 - 1 by omega] at this
theorem Cpt.new {α : Type} [DecidableEq α] {L W : List α} {m j : Nat} {a b : α} (h : Cpt L W m j) (ha : L[j - 1]? = some a) (hb : L[j]? = some b) (hab : a ≠ b) : Cpt L (W.set m b) (m + 1) (j + 1) := by
  have hlt := (List.getElem?_eq_some_iff.1 hb).1
  have hl := h.lt
  have hj : 1 ≤ j := by omega
  have hw := h.len
  have e : dd (L.take (j + 1)) = dd (L.take j) ++ [b] := by rw [dd_take hj ha hb, if_neg hab]
  refine ⟨by rw [List.length_set]; exact h.len, by rw [e, List.length_append, ← h.hm]; rfl, by omega, by omega, ?_, ?_⟩
  · rw [e, ← h.done]
    have hg : (W.set m b)[m]? = some b := List.getElem?_set_self (by omega)
    rw [take_at hg, List.take_set, List.set_eq_of_length_le (by rw [List.length_take]; omega)]
  · rw [List.drop_set, if_pos (by omega)]
    have := congrArg (List.drop 1) h.rest
    rw [List.drop_drop, List.drop_drop] at this
    rwa [show j - 1 + 1 = j + 1 - 1 by omega] at this
/-- slices.Compact of a slice of one's own: neighbours that are the same, once -/
theorem compact_int {ad : Option Addr} {n cap : Nat} (L : List Int) (hn : n = L.length) (hl : n ≤ 1000000) :
    Spec Try.prog 31 [Tr.raw (.slice ad n cap)] [Chunk.own ad cap 1 3 (L.map (fun x => [Tr.int x]))] (fun r cs => ∃ m, m = (dd L).length ∧ r = Tr.raw (.slice ad m cap) ∧ cs = [Chunk.own ad cap 1 3 ((dd L).map (fun x => [Tr.int x]))]) := by
  refine Spec.body Try.func31 rfl rfl (Try.ntmps31) rfl fun w0 own0 M => ?_
  have hLr : (L.map (fun x => [Tr.int x])).length = n := by rw [List.length_map, hn]
  by_cases hs : n < 2
  · repeat' (first | refine goH ?_ | refine goV ?_ | refine goI ?_ | (refine Cw.k_cond ?_; first | (refine Cw.cond_dec rfl (fun hc => ?_) (fun hc => ?_) <;> try (exfalso; omega)) | refine Cw.cond_bool rfl (fun hc => ?_) (fun hc => ?_)) | refine goR ?_ | refine goP ?_ | apply PSeq.cons | apply PSeq.yes rfl rfl rfl | exact goW | fail)
    have hd : dd L = L := dd_short (by omega)
    rw [hd]
    exact Fin.ret (Ent.take goTk) (Outs.one rfl rfl) ⟨_, hn, rfl, rfl⟩
  repeat' (first | refine goH ?_ | refine goV ?_ | refine goI ?_ | (refine Cw.k_cond ?_; first | (refine Cw.cond_dec rfl (fun hc => ?_) (fun hc => ?_) <;> try (exfalso; omega)) | refine Cw.cond_bool rfl (fun hc => ?_) (fun hc => ?_)) | refine goR ?_ | refine goP ?_ | apply PSeq.cons | apply PSeq.yes rfl rfl rfl | exact goW | fail)
  refine Cw.loopI [(0, _)] _ (fun q e cc => ∃ (k : Nat), q = n - k ∧ (1 ≤ k ∧ k ≤ n ∧ dd (L.take k) = L.take k) ∧ e = [(3, .int k)] ∧ cc = [Chunk.own ad cap 1 3 (L.map (fun x => [Tr.int x]))]) ⟨_, _, _, (Ent.mkP goSub goPm), 1, rfl, ⟨by omega, by omega, dd_short (by rw [List.length_take]; omega)⟩, rfl, rfl⟩ ?_
  rintro _ _ _ ⟨k, rfl, ⟨hk1, hk, hd⟩, rfl, rfl⟩
  by_cases hkl : k < n
  rotate_left
  · have hke : k = n := by omega
    subst hke
    rw [hn, List.take_length] at hd
    repeat' (first | refine goH ?_ | refine goV ?_ | refine goI ?_ | (refine Cw.k_cond ?_; first | (refine Cw.cond_dec rfl (fun hc => ?_) (fun hc => ?_) <;> try (exfalso; omega)) | refine Cw.cond_bool rfl (fun hc => ?_) (fun hc => ?_)) | refine goR ?_ | refine goP ?_ | apply PSeq.cons | apply PSeq.yes rfl rfl rfl | exact goW | fail)
    rw [hd]
    exact Fin.ret (Ent.take goTk) (Outs.one rfl rfl) ⟨_, hn, rfl, rfl⟩
  refine Cw.own_form (List.Perm.refl _) (by omega) ?_
  rintro g rfl hcp hcm
  rw [hLr] at hcp
  obtain ⟨a, ha⟩ := at_lt (l := L) (k := k - 1) (by omega)
  obtain ⟨b, hb⟩ := at_lt (l := L) (k := k) (by omega)
  have ra : (L.map (fun x => [Tr.int x]))[((k : Int) - 1).toNat]? = some ((fun x => [Tr.int x]) a) := by rw [show ((k : Int) - 1).toNat = k - 1 by omega]; exact rows_at ha
  have rb : (L.map (fun x => [Tr.int x]))[((k : Nat) : Int).toNat]? = some ((fun x => [Tr.int x]) b) := by rw [Int.toNat_natCast]; exact rows_at hb
  simp only at ra rb
  by_cases hab : b = a
  rotate_left
  · have hd2 := dd_go hk1 ha hb hd (fun h => hab h.symm)
    have he : decide (b = a) = false := decide_eq_false hab
    repeat' (first | refine goH ?_ | refine goV ?_ | refine goI ?_ | (refine Cw.k_cond ?_; first | (refine Cw.cond_dec rfl (fun hc => ?_) (fun hc => ?_) <;> try (exfalso; omega)) | refine Cw.cond_bool rfl (fun hc => ?_) (fun hc => ?_)) | refine goR ?_ | refine goP ?_ | apply PSeq.cons | apply PSeq.yes rfl rfl rfl | exact goW | fail)
    exact ⟨_, _, _, (Ent.mk goSub goTk), ⟨k + 1, rfl, ⟨by omega, by omega, hd2⟩, rfl, rfl⟩, by omega⟩
  subst hab
  have hw := dd_dup hk1 ha hb hd
  have he : decide (b = b) = true := decide_eq_true rfl
  clear ha hb
  repeat' (first | refine goH ?_ | ((fail_if_success refine Ops.k_slice ?_); refine goV ?_) | refine goI ?_ | (refine Cw.k_cond ?_; first | (refine Cw.cond_dec rfl (fun hc => ?_) (fun hc => ?_) <;> try (exfalso; omega)) | refine Cw.cond_bool rfl (fun hc => ?_) (fun hc => ?_)) | refine goR ?_ | refine goP ?_ | apply PSeq.cons | apply PSeq.yes rfl rfl rfl | exact goW | fail)
  clear he
  refine Ops.k_slice ?_
  refine Ops.sliceR_l rfl rfl (by omega) (by omega) rfl ?_
  clear ra rb
  rw [show Tr.raw (Value.slice (some ⟨g, 0 + ((k : Nat) : Int).toNat * 1, none⟩) (n - ((k : Nat) : Int).toNat) (cap - ((k : Nat) : Int).toNat)) = Tr.qsl (some ⟨g, 0, none⟩) k 1 (n - k) (cap - k) by unfold Tr.qsl; rw [Int.toNat_natCast, Nat.zero_add]; rfl]
  repeat' (first | refine goH ?_ | refine goV ?_ | refine goI ?_ | (refine Cw.k_cond ?_; first | (refine Cw.cond_dec rfl (fun hc => ?_) (fun hc => ?_) <;> try (exfalso; omega)) | refine Cw.cond_bool rfl (fun hc => ?_) (fun hc => ?_)) | refine goR ?_ | refine goP ?_ | apply PSeq.cons | apply PSeq.yes rfl rfl rfl | exact goW | fail)
  refine Cw.loopI [(0, _), (4, _)] _ (fun q e cc => ∃ (i m : Nat) (W : List Int), q = n - i ∧ (1 ≤ i ∧ k + i ≤ n ∧ Cpt L W m (k + i)) ∧ e = [(3, .int m), (5, .int i)] ∧ cc = [Chunk.own (some ⟨g, 0, none⟩) cap 1 3 (W.map (fun x => [Tr.int x]))]) ⟨_, _, _, (Ent.mkP goSub goPm), 1, k, L, rfl, ⟨by omega, by omega, hw⟩, rfl, rfl⟩ ?_
  clear hw
  rintro _ _ _ ⟨i, m, W, rfl, ⟨hi1, hik, hw⟩, rfl, rfl⟩
  have hWl : (W.map (fun x => [Tr.int x])).length = n := by rw [List.length_map, hw.len, hn]
  have hmlt := hw.lt
  by_cases hin : k + i < n
  · obtain ⟨a, ha⟩ := at_lt (l := L) (k := k + i - 1) (by omega)
    obtain ⟨b, hb⟩ := at_lt (l := L) (k := k + i) (by omega)
    have ra : (W.map (fun x => [Tr.int x]))[k + ((i : Int) - 1).toNat]? = some ((fun x => [Tr.int x]) a) := by rw [show k + ((i : Int) - 1).toNat = k + i - 1 by omega]; exact rows_at ((hw.at0 (by omega)).trans ha)
    have rb : (W.map (fun x => [Tr.int x]))[k + ((i : Nat) : Int).toNat]? = some ((fun x => [Tr.int x]) b) := by rw [Int.toNat_natCast]; exact rows_at ((hw.at0 (by omega)).trans hb)
    simp only at ra rb
    by_cases hab : b = a
    · subst hab
      have hw2 := hw.same ha hb
      have he : decide (b = b) = true := decide_eq_true rfl
      clear ha hb hw
      repeat' (first | refine goH ?_ | (refine Ops.k_indexAddr ?_; first | (refine Ops.indexAddr_sub rfl rfl goPk (by omega) (by omega) (by omega) rfl ?_)) | refine goV ?_ | refine goI ?_ | (refine Cw.k_cond ?_; first | (refine Cw.cond_dec rfl (fun hc => ?_) (fun hc => ?_) <;> try (exfalso; omega)) | refine Cw.cond_bool rfl (fun hc => ?_) (fun hc => ?_)) | (apply OpV.w; apply OpV.k_indexAddr; exact OpV.indexAddr_sub rfl rfl goPk (by omega) (by omega) (by omega)) | refine goR ?_ | refine goP ?_ | apply PSeq.cons | apply PSeq.yes rfl rfl rfl | exact goW | fail)
      exact ⟨_, _, _, (Ent.mk goSub goTk), ⟨i + 1, m, W, rfl, ⟨by omega, by omega, hw2⟩, rfl, rfl⟩, by omega⟩
    · have hw2 := hw.new ha hb (fun h => hab h.symm)
      have he : decide (b = a) = false := decide_eq_false hab
      have hset : (W.map (fun x => [Tr.int x])).set m ((fun x => [Tr.int x]) b) = (W.set m b).map (fun x => [Tr.int x]) := by rw [List.map_set]
      obtain ⟨c, hc⟩ := at_lt (l := W) (k := m) (by rw [hw.len]; omega)
      have rc : (W.map (fun x => [Tr.int x]))[((m : Nat) : Int).toNat]? = some ((fun x => [Tr.int x]) c) := by rw [Int.toNat_natCast]; exact rows_at hc
      try simp only at rc hset
      clear ha hb hw hc
      repeat' (first | refine goH ?_ | (refine Ops.k_indexAddr ?_; first | (refine Ops.indexAddr_sub rfl rfl goPk (by omega) (by omega) (by omega) rfl ?_)) | refine goV ?_ | refine goI ?_ | (refine Cw.k_cond ?_; first | (refine Cw.cond_dec rfl (fun hc => ?_) (fun hc => ?_) <;> try (exfalso; omega)) | refine Cw.cond_bool rfl (fun hc => ?_) (fun hc => ?_)) | (apply OpV.w; apply OpV.k_indexAddr; exact OpV.indexAddr_sub rfl rfl goPk (by omega) (by omega) (by omega)) | refine goR ?_ | refine goP ?_ | apply PSeq.cons | apply PSeq.yes rfl rfl rfl | exact goW | fail)
      erw [hset]
      exact ⟨_, _, _, (Ent.mk goSub goTk), ⟨i + 1, m + 1, _, rfl, ⟨by omega, by omega, hw2⟩, rfl, rfl⟩, by omega⟩
  have hie : k + i = n := by omega
  have hdone := hw.done
  have hm := hw.hm
  rw [hie, hn, List.take_length] at hdone hm
  clear hw
  repeat' (first | refine goH ?_ | (refine Ops.k_slice ?_; first | (refine Ops.sliceR_l rfl rfl (by omega) (by omega) rfl ?_)) | ((fail_if_success refine Ops.k_c_clear ?_); refine goV ?_) | refine goI ?_ | (refine Cw.k_cond ?_; first | (refine Cw.cond_dec rfl (fun hc => ?_) (fun hc => ?_) <;> try (exfalso; omega)) | refine Cw.cond_bool rfl (fun hc => ?_) (fun hc => ?_)) | refine goR ?_ | refine goP ?_ | apply PSeq.cons | apply PSeq.yes rfl rfl rfl | exact goW | fail)
  refine Ops.k_c_clear ?_
  refine Ops.clear_part (o := m) rfl (List.Perm.refl _) (by rw [Int.toNat_natCast, Nat.zero_add]; rfl) (by omega) (by omega) ?_
  rw [Int.toNat_natCast]
  have hz : ((W.map (fun x => [Tr.int x])).take m ++ List.replicate (n - m) (List.map Tr.raw [Value.int .i64 0])).take m = (dd L).map (fun x => [Tr.int x]) := by
    rw [List.take_append_of_le_length (by rw [List.length_take, hWl]; omega), List.take_take, Nat.min_self, ← List.map_take, hdone]
  have hzl : ((W.map (fun x => [Tr.int x])).take m ++ List.replicate (n - m) (List.map Tr.raw [Value.int .i64 0])).length = n := by rw [List.length_append, List.length_take, hWl, List.length_replicate]; omega
  generalize (W.map (fun x => [Tr.int x])).take m ++ List.replicate (n - m) (List.map Tr.raw [Value.int .i64 0]) = Z at *
  repeat' (first | refine goH ?_ | refine goV ?_ | refine goI ?_ | (refine Cw.k_cond ?_; first | (refine Cw.cond_dec rfl (fun hc => ?_) (fun hc => ?_) <;> try (exfalso; omega)) | refine Cw.cond_bool rfl (fun hc => ?_) (fun hc => ?_)) | refine goR ?_ | refine goP ?_ | apply PSeq.cons | apply PSeq.yes rfl rfl rfl | exact goW | fail)
  rw [Int.toNat_natCast, hz]
  exact Fin.ret (Ent.take goTk) (Outs.one rfl rfl) ⟨_, List.length_map _, rfl, rfl⟩

end Lg
end
section
set_option linter.all false
set_option maxRecDepth 100000
set_option maxHeartbeats 8000000
namespace Lg
open Go Go.Proofs

abbrev Dbt.row (d : Dbt) : List Tr := [.int d.p, .int d.v]
theorem dbt_eq0 (n : Nat) (a b c d : Int) (w : World) : (Op.equalIn (n + 1 + 1) 50 (.agg #[.int .i64 a, .int .i64 b]) (.agg #[.int .i64 c, .int .i64 d])).run Try.prog w = .ok (decide (a = c ∧ b = d)) w := by
  have hs : Try.prog.stoodInHeld 50 = false := by kernel_rfl
  by_cases h1 : a = c <;> by_cases h2 : b = d
  all_goals simp [Op.equalIn, run_underlying Try.underlying50, run_underlying Try.underlying3, hs, part, Go.sizeOf, typeInfo, h1, h2]
theorem dbt_eq1 (a b c d : Int) (w : World) : (binOp .eql 50 (.agg #[.int .i64 a, .int .i64 b]) (.agg #[.int .i64 c, .int .i64 d])).run Try.prog w = .ok (.bool (decide (a = c ∧ b = d))) w := by
  show (do let r ← Op.equalIn (9998 + 1 + 1) 50 _ _; pure (Value.bool r) : Sem Value).run Try.prog w = _
  have := dbt_eq0 9998 a b c d w
  generalize Op.equalIn (9998 + 1 + 1) 50 (.agg #[.int .i64 a, .int .i64 b]) (.agg #[.int .i64 c, .int .i64 d]) = s at *
  simp [this]
theorem dbt_ne1 (a b c d : Int) (w : World) : (binOp .neq 50 (.agg #[.int .i64 a, .int .i64 b]) (.agg #[.int .i64 c, .int .i64 d])).run Try.prog w = .ok (.bool (!decide (a = c ∧ b = d))) w := by
  show (do let r ← Op.equalIn (9998 + 1 + 1) 50 _ _; pure (Value.bool !r) : Sem Value).run Try.prog w = _
  have := dbt_eq0 9998 a b c d w
  generalize Op.equalIn (9998 + 1 + 1) 50 (.agg #[.int .i64 a, .int .i64 b]) (.agg #[.int .i64 c, .int .i64 d]) = s at *
  simp [this]
section
variable {Γ : Ctx} {env : Env} {cs : List Chunk} {x y : Operand} {T2 ty : TypeId}
theorem OpV.dbt_eq {a b : Dbt} (hx : ev env x = some (.agg a.row)) (hy : ev env y = some (.agg b.row)) : OpV Try.prog Γ (.binOp .eql 50 x y T2) ty env cs (.bool (decide (a.p = b.p ∧ a.v = b.v))) := by
  unfold OpV
  intro ac w d
  have h1 := agg_raw (l := [.int .i64 a.p, .int .i64 a.v]) (d.ev hx)
  have h2 := agg_raw (l := [.int .i64 b.p, .int .i64 b.v]) (d.ev hy)
  have h3 := dbt_eq1 a.p a.v b.p b.v w
  have h4 : (eqGuard .eql 50 x y (.agg #[.int .i64 a.p, .int .i64 a.v]) (.agg #[.int .i64 b.p, .int .i64 b.v])).run Try.prog w = .ok () w := by simp [eqGuard]
  exact ⟨.bool (decide (a.p = b.p ∧ a.v = b.v)), by simp [execOp, h1, h2, h3, h4], by unfold Tr.bool Tr.raw; rfl⟩
theorem OpV.dbt_ne {a b : Dbt} (hx : ev env x = some (.agg a.row)) (hy : ev env y = some (.agg b.row)) : OpV Try.prog Γ (.binOp .neq 50 x y T2) ty env cs (.bool (!decide (a.p = b.p ∧ a.v = b.v))) := by
  unfold OpV
  intro ac w d
  have h1 := agg_raw (l := [.int .i64 a.p, .int .i64 a.v]) (d.ev hx)
  have h2 := agg_raw (l := [.int .i64 b.p, .int .i64 b.v]) (d.ev hy)
  have h3 := dbt_ne1 a.p a.v b.p b.v w
  have h4 : (eqGuard .neq 50 x y (.agg #[.int .i64 a.p, .int .i64 a.v]) (.agg #[.int .i64 b.p, .int .i64 b.v])).run Try.prog w = .ok () w := by simp [eqGuard]
  exact ⟨.bool (!decide (a.p = b.p ∧ a.v = b.v)), by simp [execOp, h1, h2, h3, h4], by unfold Tr.bool Tr.raw; rfl⟩
theorem OpV.dbt_eqv {a b : Dbt} {r : Bool} (hr : decide (a = b) = r) (hx : ev env x = some (.agg a.row)) (hy : ev env y = some (.agg b.row)) : OpV Try.prog Γ (.binOp .eql 50 x y T2) ty env cs (.bool r) := by
  have h := OpV.dbt_eq (Γ := Γ) (cs := cs) (T2 := T2) (ty := ty) hx hy
  have e : decide (a.p = b.p ∧ a.v = b.v) = r := by
    rw [← hr]
    obtain ⟨p, v⟩ := a
    obtain ⟨q, w⟩ := b
    simp
  rwa [e] at h
theorem OpV.dbt_nev {a b : Dbt} {r : Bool} (hr : decide (a = b) = r) (hx : ev env x = some (.agg a.row)) (hy : ev env y = some (.agg b.row)) : OpV Try.prog Γ (.binOp .neq 50 x y T2) ty env cs (.bool (!r)) := by
  have h := OpV.dbt_ne (Γ := Γ) (cs := cs) (T2 := T2) (ty := ty) hx hy
  have e : decide (a.p = b.p ∧ a.v = b.v) = r := by
    rw [← hr]
    obtain ⟨p, v⟩ := a
    obtain ⟨q, w⟩ := b
    simp
  rwa [e] at h
theorem dbt_eq_iff (a b : Dbt) : (a.p = b.p ∧ a.v = b.v) ↔ a = b := by
  obtain ⟨p, v⟩ := a
  obtain ⟨q, w⟩ := b
  simp
end
end Lg
end
section
set_option linter.all false
set_option maxRecDepth 100000
set_option maxHeartbeats 8000000
namespace Lg
open Go Go.Proofs

/-- slices.Compact of a slice of one's own: neighbours that are the same, once -/
theorem compact_dbt {ad : Option Addr} {n cap : Nat} (L : List Dbt) (hn : n = L.length) (hl : n ≤ 1000000) :
    Spec Try.prog 43 [Tr.raw (.slice ad n cap)] [Chunk.own ad cap 2 50 (L.map Dbt.row)] (fun r cs => ∃ m, m = (dd L).length ∧ r = Tr.raw (.slice ad m cap) ∧ cs = [Chunk.own ad cap 2 50 ((dd L).map Dbt.row)]) := by
  refine Spec.body Try.func43 rfl rfl (Try.ntmps43) rfl fun w0 own0 M => ?_
  have hLr : (L.map Dbt.row).length = n := by rw [List.length_map, hn]
  by_cases hs : n < 2
  · repeat' (first | refine goH ?_ | refine goV ?_ | refine goI ?_ | (refine Cw.k_cond ?_; first | (refine Cw.cond_dec rfl (fun hc => ?_) (fun hc => ?_) <;> try (exfalso; omega)) | refine Cw.cond_bool rfl (fun hc => ?_) (fun hc => ?_)) | refine goR ?_ | refine goP ?_ | apply PSeq.cons | apply PSeq.yes rfl rfl rfl | exact goW | fail)
    have hd : dd L = L := dd_short (by omega)
    rw [hd]
    exact Fin.ret (Ent.take goTk) (Outs.one rfl rfl) ⟨_, hn, rfl, rfl⟩
  repeat' (first | refine goH ?_ | refine goV ?_ | refine goI ?_ | (refine Cw.k_cond ?_; first | (refine Cw.cond_dec rfl (fun hc => ?_) (fun hc => ?_) <;> try (exfalso; omega)) | refine Cw.cond_bool rfl (fun hc => ?_) (fun hc => ?_)) | refine goR ?_ | refine goP ?_ | apply PSeq.cons | apply PSeq.yes rfl rfl rfl | exact goW | fail)
  refine Cw.loopI [(0, _)] _ (fun q e cc => ∃ (k : Nat), q = n - k ∧ (1 ≤ k ∧ k ≤ n ∧ dd (L.take k) = L.take k) ∧ e = [(3, .int k)] ∧ cc = [Chunk.own ad cap 2 50 (L.map Dbt.row)]) ⟨_, _, _, (Ent.mkP goSub goPm), 1, rfl, ⟨by omega, by omega, dd_short (by rw [List.length_take]; omega)⟩, rfl, rfl⟩ ?_
  rintro _ _ _ ⟨k, rfl, ⟨hk1, hk, hd⟩, rfl, rfl⟩
  by_cases hkl : k < n
  rotate_left
  · have hke : k = n := by omega
    subst hke
    rw [hn, List.take_length] at hd
    repeat' (first | refine goH ?_ | refine goV ?_ | refine goI ?_ | (refine Cw.k_cond ?_; first | (refine Cw.cond_dec rfl (fun hc => ?_) (fun hc => ?_) <;> try (exfalso; omega)) | refine Cw.cond_bool rfl (fun hc => ?_) (fun hc => ?_)) | refine goR ?_ | refine goP ?_ | apply PSeq.cons | apply PSeq.yes rfl rfl rfl | exact goW | fail)
    rw [hd]
    exact Fin.ret (Ent.take goTk) (Outs.one rfl rfl) ⟨_, hn, rfl, rfl⟩
  refine Cw.own_form (List.Perm.refl _) (by omega) ?_
  rintro g rfl hcp hcm
  rw [hLr] at hcp
  obtain ⟨a, ha⟩ := at_lt (l := L) (k := k - 1) (by omega)
  obtain ⟨b, hb⟩ := at_lt (l := L) (k := k) (by omega)
  have ra : (L.map Dbt.row)[((k : Int) - 1).toNat]? = some (Dbt.row a) := by rw [show ((k : Int) - 1).toNat = k - 1 by omega]; exact rows_at ha
  have rb : (L.map Dbt.row)[((k : Nat) : Int).toNat]? = some (Dbt.row b) := by rw [Int.toNat_natCast]; exact rows_at hb
  skip
  by_cases hab : b = a
  rotate_left
  · have hd2 := dd_go hk1 ha hb hd (fun h => hab h.symm)
    have he : decide (b = a) = false := decide_eq_false hab
    repeat' (first | refine goH ?_ | refine goV ?_ | refine goI ?_ | (refine Cw.k_cond ?_; first | (refine Cw.cond_dec rfl (fun hc => ?_) (fun hc => ?_) <;> try (exfalso; omega)) | refine Cw.cond_bool rfl (fun hc => ?_) (fun hc => ?_)) | (apply OpV.w; apply OpV.k_b_eql; exact OpV.dbt_eqv he rfl rfl) | refine goR ?_ | refine goP ?_ | apply PSeq.cons | apply PSeq.yes rfl rfl rfl | exact goW | fail)
    exact ⟨_, _, _, (Ent.mk goSub goTk), ⟨k + 1, rfl, ⟨by omega, by omega, hd2⟩, rfl, rfl⟩, by omega⟩
  subst hab
  have hw := dd_dup hk1 ha hb hd
  have he : decide (b = b) = true := decide_eq_true rfl
  clear ha hb
  repeat' (first | refine goH ?_ | ((fail_if_success refine Ops.k_slice ?_); refine goV ?_) | refine goI ?_ | (refine Cw.k_cond ?_; first | (refine Cw.cond_dec rfl (fun hc => ?_) (fun hc => ?_) <;> try (exfalso; omega)) | refine Cw.cond_bool rfl (fun hc => ?_) (fun hc => ?_)) | (apply OpV.w; apply OpV.k_b_eql; exact OpV.dbt_eqv he rfl rfl) | refine goR ?_ | refine goP ?_ | apply PSeq.cons | apply PSeq.yes rfl rfl rfl | exact goW | fail)
  clear he
  refine Ops.k_slice ?_
  refine Ops.sliceR_l rfl rfl (by omega) (by omega) rfl ?_
  clear ra rb
  rw [show Tr.raw (Value.slice (some ⟨g, 0 + ((k : Nat) : Int).toNat * 2, none⟩) (n - ((k : Nat) : Int).toNat) (cap - ((k : Nat) : Int).toNat)) = Tr.qsl (some ⟨g, 0, none⟩) k 2 (n - k) (cap - k) by unfold Tr.qsl; rw [Int.toNat_natCast, Nat.zero_add]; rfl]
  repeat' (first | refine goH ?_ | refine goV ?_ | refine goI ?_ | (refine Cw.k_cond ?_; first | (refine Cw.cond_dec rfl (fun hc => ?_) (fun hc => ?_) <;> try (exfalso; omega)) | refine Cw.cond_bool rfl (fun hc => ?_) (fun hc => ?_)) | refine goR ?_ | refine goP ?_ | apply PSeq.cons | apply PSeq.yes rfl rfl rfl | exact goW | fail)
  refine Cw.loopI [(0, _), (4, _)] _ (fun q e cc => ∃ (i m : Nat) (W : List Dbt), q = n - i ∧ (1 ≤ i ∧ k + i ≤ n ∧ Cpt L W m (k + i)) ∧ e = [(3, .int m), (5, .int i)] ∧ cc = [Chunk.own (some ⟨g, 0, none⟩) cap 2 50 (W.map Dbt.row)]) ⟨_, _, _, (Ent.mkP goSub goPm), 1, k, L, rfl, ⟨by omega, by omega, hw⟩, rfl, rfl⟩ ?_
  clear hw
  rintro _ _ _ ⟨i, m, W, rfl, ⟨hi1, hik, hw⟩, rfl, rfl⟩
  have hWl : (W.map Dbt.row).length = n := by rw [List.length_map, hw.len, hn]
  have hmlt := hw.lt
  by_cases hin : k + i < n
  · obtain ⟨a, ha⟩ := at_lt (l := L) (k := k + i - 1) (by omega)
    obtain ⟨b, hb⟩ := at_lt (l := L) (k := k + i) (by omega)
    have ra : (W.map Dbt.row)[k + ((i : Int) - 1).toNat]? = some (Dbt.row a) := by rw [show k + ((i : Int) - 1).toNat = k + i - 1 by omega]; exact rows_at ((hw.at0 (by omega)).trans ha)
    have rb : (W.map Dbt.row)[k + ((i : Nat) : Int).toNat]? = some (Dbt.row b) := by rw [Int.toNat_natCast]; exact rows_at ((hw.at0 (by omega)).trans hb)
    skip
    by_cases hab : b = a
    · subst hab
      have hw2 := hw.same ha hb
      have he : decide (b = b) = true := decide_eq_true rfl
      clear ha hb hw
      repeat' (first | refine goH ?_ | (refine Ops.k_indexAddr ?_; first | (refine Ops.indexAddr_sub rfl rfl goPk (by omega) (by omega) (by omega) rfl ?_)) | refine goV ?_ | refine goI ?_ | (refine Cw.k_cond ?_; first | (refine Cw.cond_dec rfl (fun hc => ?_) (fun hc => ?_) <;> try (exfalso; omega)) | refine Cw.cond_bool rfl (fun hc => ?_) (fun hc => ?_)) | (apply OpV.w; apply OpV.k_indexAddr; exact OpV.indexAddr_sub rfl rfl goPk (by omega) (by omega) (by omega)) | (apply OpV.w; apply OpV.k_b_neq; exact OpV.dbt_nev he rfl rfl) | refine goR ?_ | refine goP ?_ | apply PSeq.cons | apply PSeq.yes rfl rfl rfl | exact goW | fail)
      exact ⟨_, _, _, (Ent.mk goSub goTk), ⟨i + 1, m, W, rfl, ⟨by omega, by omega, hw2⟩, rfl, rfl⟩, by omega⟩
    · have hw2 := hw.new ha hb (fun h => hab h.symm)
      have he : decide (b = a) = false := decide_eq_false hab
      have hset : (W.map Dbt.row).set m (Dbt.row b) = (W.set m b).map Dbt.row := by rw [List.map_set]
      obtain ⟨c, hc⟩ := at_lt (l := W) (k := m) (by rw [hw.len]; omega)
      have rc : (W.map Dbt.row)[((m : Nat) : Int).toNat]? = some (Dbt.row c) := by rw [Int.toNat_natCast]; exact rows_at hc
      try simp only at rc hset
      clear ha hb hw hc
      repeat' (first | refine goH ?_ | (refine Ops.k_indexAddr ?_; first | (refine Ops.indexAddr_sub rfl rfl goPk (by omega) (by omega) (by omega) rfl ?_)) | refine goV ?_ | refine goI ?_ | (refine Cw.k_cond ?_; first | (refine Cw.cond_dec rfl (fun hc => ?_) (fun hc => ?_) <;> try (exfalso; omega)) | refine Cw.cond_bool rfl (fun hc => ?_) (fun hc => ?_)) | (apply OpV.w; apply OpV.k_indexAddr; exact OpV.indexAddr_sub rfl rfl goPk (by omega) (by omega) (by omega)) | (apply OpV.w; apply OpV.k_b_neq; exact OpV.dbt_nev he rfl rfl) | refine goR ?_ | refine goP ?_ | apply PSeq.cons | apply PSeq.yes rfl rfl rfl | exact goW | fail)
      erw [hset]
      exact ⟨_, _, _, (Ent.mk goSub goTk), ⟨i + 1, m + 1, _, rfl, ⟨by omega, by omega, hw2⟩, rfl, rfl⟩, by omega⟩
  have hie : k + i = n := by omega
  have hdone := hw.done
  have hm := hw.hm
  rw [hie, hn, List.take_length] at hdone hm
  clear hw
  repeat' (first | refine goH ?_ | (refine Ops.k_slice ?_; first | (refine Ops.sliceR_l rfl rfl (by omega) (by omega) rfl ?_)) | ((fail_if_success refine Ops.k_c_clear ?_); refine goV ?_) | refine goI ?_ | (refine Cw.k_cond ?_; first | (refine Cw.cond_dec rfl (fun hc => ?_) (fun hc => ?_) <;> try (exfalso; omega)) | refine Cw.cond_bool rfl (fun hc => ?_) (fun hc => ?_)) | refine goR ?_ | refine goP ?_ | apply PSeq.cons | apply PSeq.yes rfl rfl rfl | exact goW | fail)
  refine Ops.k_c_clear ?_
  refine Ops.clear_part (o := m) rfl (List.Perm.refl _) (by rw [Int.toNat_natCast, Nat.zero_add]; rfl) (by omega) (by omega) ?_
  rw [Int.toNat_natCast]
  have hz : ((W.map Dbt.row).take m ++ List.replicate (n - m) (List.map Tr.raw [Value.int .i64 0, Value.int .i64 0])).take m = (dd L).map Dbt.row := by
    rw [List.take_append_of_le_length (by rw [List.length_take, hWl]; omega), List.take_take, Nat.min_self, ← List.map_take, hdone]
  have hzl : ((W.map Dbt.row).take m ++ List.replicate (n - m) (List.map Tr.raw [Value.int .i64 0, Value.int .i64 0])).length = n := by rw [List.length_append, List.length_take, hWl, List.length_replicate]; omega
  generalize (W.map Dbt.row).take m ++ List.replicate (n - m) (List.map Tr.raw [Value.int .i64 0, Value.int .i64 0]) = Z at *
  repeat' (first | refine goH ?_ | refine goV ?_ | refine goI ?_ | (refine Cw.k_cond ?_; first | (refine Cw.cond_dec rfl (fun hc => ?_) (fun hc => ?_) <;> try (exfalso; omega)) | refine Cw.cond_bool rfl (fun hc => ?_) (fun hc => ?_)) | refine goR ?_ | refine goP ?_ | apply PSeq.cons | apply PSeq.yes rfl rfl rfl | exact goW | fail)
  rw [Int.toNat_natCast, hz]
  exact Fin.ret (Ent.take goTk) (Outs.one rfl rfl) ⟨_, List.length_map _, rfl, rfl⟩

end Lg
end
