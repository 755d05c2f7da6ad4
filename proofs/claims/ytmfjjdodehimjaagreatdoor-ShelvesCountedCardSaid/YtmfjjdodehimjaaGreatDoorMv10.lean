/- A part of the proof of a law of this seat: it adds no condition. By an AI agent. -/
import Derived.Test.YtmfjjdodehimjaaGreatDoorMv5
section
set_option linter.all false
set_option maxRecDepth 100000
set_option maxHeartbeats 1000000
namespace Lg
open Go Go.Proofs

/-! ### what memory holds while some elements are taken away -/
theorem idx_split {α : Type} (p : α → Bool) : ∀ (L : List α) (k : Int), (idxFrom p L k = -1 ∧ (L.filter fun x => !p x) = L) ∨ ∃ (j : Nat) (x : α), idxFrom p L k = k + j ∧ L[j]? = some x ∧ p x = true ∧ ((L.take j).filter fun x => !p x) = L.take j
  | [], k => .inl ⟨rfl, rfl⟩
  | y :: L, k => by
    cases hp : p y
    · rcases idx_split p L (k + 1) with ⟨h1, h2⟩ | ⟨j, x, h1, h2, h3, h4⟩
      · left
        refine ⟨by simp [idxFrom, hp, h1], ?_⟩
        rw [List.filter_cons, if_pos (by simp [hp]), h2]
      · right
        refine ⟨j + 1, x, ?_, by simpa using h2, h3, ?_⟩
        · simp only [idxFrom, hp, h1]
          simp
          omega
        · rw [List.take_succ_cons, List.filter_cons, if_pos (by simp [hp]), h4]
    · right
      exact ⟨0, y, by simp [idxFrom, hp], rfl, hp, rfl⟩
structure Dlt {α : Type} (p : α → Bool) (L W : List α) (m j : Nat) : Prop where
  len : W.length = L.length
  hm : m = ((L.take j).filter fun x => !p x).length
  lt : m < j
  hj : j ≤ L.length
  done : W.take m = (L.take j).filter fun x => !p x
  rest : W.drop j = L.drop j
theorem Dlt.start {α : Type} {p : α → Bool} {L : List α} {i : Nat} {x : α} (h2 : L[i]? = some x) (h3 : p x = true) (h4 : ((L.take i).filter fun x => !p x) = L.take i) : Dlt p L L i (i + 1) := by
  have hlt := (List.getElem?_eq_some_iff.1 h2).1
  have e : ((L.take (i + 1)).filter fun x => !p x) = L.take i := by
    rw [take_at h2, List.filter_append, h4]
    simp [h3]
  exact ⟨rfl, by rw [e, List.length_take]; omega, by omega, by omega, e.symm, rfl⟩
theorem Dlt.at0 {α : Type} {p : α → Bool} {L W : List α} {m j q : Nat} (h : Dlt p L W m j) (hq : j ≤ q) : W[q]? = L[q]? := by
  have := congrArg (fun l => l[q - j]?) h.rest
  simp only [List.getElem?_drop] at this
  rwa [show j + (q - j) = q by omega] at this
theorem Dlt.drop {α : Type} {p : α → Bool} {L W : List α} {m j : Nat} {x : α} (h : Dlt p L W m j) (hx : L[j]? = some x) (hp : p x = true) : Dlt p L W m (j + 1) := by
  have hlt := (List.getElem?_eq_some_iff.1 hx).1
  have e : ((L.take (j + 1)).filter fun x => !p x) = (L.take j).filter fun x => !p x := by
    rw [take_at hx, List.filter_append]
    simp [hp]
  refine ⟨h.len, by rw [e]; exact h.hm, by have := h.lt; omega, by omega, by rw [e]; exact h.done, ?_⟩
  have := congrArg (List.drop 1) h.rest
  rwa [List.drop_drop, List.drop_drop] at this
theorem Dlt.keep {α : Type} {p : α → Bool} {L W : List α} {m j : Nat} {x : α} (h : Dlt p L W m j) (hx : L[j]? = some x) (hp : p x = false) : Dlt p L (W.set m x) (m + 1) (j + 1) := by
  have hlt := (List.getElem?_eq_some_iff.1 hx).1
  have hml := h.lt
  have hwl := h.len
  have e : ((L.take (j + 1)).filter fun x => !p x) = ((L.take j).filter fun x => !p x) ++ [x] := by
    rw [take_at hx, List.filter_append]
    simp [hp]
  refine ⟨by rw [List.length_set]; exact h.len, by rw [e, List.length_append, ← h.hm]; rfl, by omega, by omega, ?_, ?_⟩
  · rw [e, ← h.done]
    have hg : (W.set m x)[m]? = some x := List.getElem?_set_self (by omega)
    rw [take_at hg, List.take_set, List.set_eq_of_length_le (by rw [List.length_take]; omega)]
  · rw [List.drop_set, if_pos (by omega)]
    have := congrArg (List.drop 1) h.rest
    rwa [List.drop_drop, List.drop_drop] at this
end Lg
end
section
set_option linter.all false
set_option maxRecDepth 100000
set_option maxHeartbeats 8000000
namespace Lg
open Go Go.Proofs

/-- slices.DeleteFunc of a slice of one's own -/
theorem delFunc_nm {ad : Option Addr} {n cap : Nat} (L : List Nm) (p : Nm → Bool) {f : Nat} (hn : n = L.length) (hl : n ≤ 1000000) (hs : ∀ x : Nm, PFn Tryz.prog f [Tr.agg x.row] (· = .bool (p x))) :
    Spec Tryz.prog 47 [Tr.raw (.slice ad n cap), Tr.raw (.func (.func f) #[] #[])] [Chunk.own ad cap 2 44 (L.map Nm.row)] (fun r cs => r = Tr.raw (.slice ad (L.filter fun x => !p x).length cap) ∧ cs = [Chunk.own ad cap 2 44 ((L.filter fun x => !p x).map Nm.row)]) := by
  have hLr : (L.map Nm.row).length = n := by rw [List.length_map, hn]
  have kI := indexFuncO_nm (n := n) (l := L) (p := p) (ad := ad) (cap := cap) (g := f) (caps := []) (cin := []) (by omega) hn (fun x _ => (hs x).lend)
  refine Spec.body Tryz.func47 rfl rfl (Tryz.ntmps47) rfl fun w0 own0 M => ?_
  rcases idx_split p L 0 with ⟨h1, h2⟩ | ⟨i, x0, h1, h2, h3, h4⟩
  · rw [h1] at kI
    repeat' (first | refine goH ?_ | refine goV ?_ | refine goB (fun b => ?_) | refine goI ?_ | (refine Cw.k_cond ?_; first | (refine Cw.cond_dec rfl (fun hc => ?_) (fun hc => ?_) <;> try (exfalso; omega)) | refine Cw.cond_bool rfl (fun hc => ?_) (fun hc => ?_)) | (refine Ops.k_calla ?_; first | (refine Ops.k_callf 53 ?_; (refine Ops.call kI (Evs.cons rfl (Evs.cons rfl Evs.nil)) goPm rfl ?_; rintro r cs' ⟨rfl, rfl⟩))) | fail)
    rw [h2, ← hn]
    exact Fin.ret (Ent.take goTk) (Outs.one rfl rfl) ⟨rfl, rfl⟩
  rw [Int.zero_add] at h1
  rw [h1] at kI
  have hst := Dlt.start h2 h3 h4
  have hil := (List.getElem?_eq_some_iff.1 h2).1
  clear h1 h2 h3 h4
  repeat' (first | refine goH ?_ | refine goV ?_ | refine goB (fun b => ?_) | refine goI ?_ | (refine Cw.k_cond ?_; first | (refine Cw.cond_dec rfl (fun hc => ?_) (fun hc => ?_) <;> try (exfalso; omega)) | refine Cw.cond_bool rfl (fun hc => ?_) (fun hc => ?_)) | (refine Ops.k_calla ?_; first | (refine Ops.k_callf 53 ?_; (refine Ops.call kI (Evs.cons rfl (Evs.cons rfl Evs.nil)) goPm rfl ?_; rintro r cs' ⟨rfl, rfl⟩))) | fail)
  refine Cw.own_form (List.Perm.refl _) (by omega) ?_
  rintro g rfl hcp hcm
  rw [hLr] at hcp
  clear kI
  refine Cw.loopI [(0, _), (1, _)] _ (fun q e cc => ∃ (j m : Nat) (W : List Nm), q = n - j ∧ (j ≤ n ∧ Dlt p L W m j) ∧ e = [(5, .int m), (6, .int j)] ∧ cc = [Chunk.own (some ⟨g, 0, none⟩) cap 2 44 (W.map Nm.row)]) ⟨_, _, _, (Ent.mkP goSub goPm), i + 1, i, L, rfl, ⟨by omega, hst⟩, rfl, rfl⟩ ?_
  clear hst hil
  rintro _ _ _ ⟨j, m, W, rfl, ⟨hj, hw⟩, rfl, rfl⟩
  have hWl : (W.map Nm.row).length = n := by rw [List.length_map, hw.len, hn]
  have hmlt := hw.lt
  by_cases hjn : j < n
  · obtain ⟨x, hx⟩ := at_lt (l := L) (k := j) (by omega)
    have rx : (W.map Nm.row)[((j : Nat) : Int).toNat]? = some [.str x.key, .int x.many] := by rw [Int.toNat_natCast]; exact rows_at ((hw.at0 (Nat.le_refl _)).trans hx)
    have kp := hs x
    cases hp : p x
    · have hw2 := hw.keep hx hp
      have hset : (W.map Nm.row).set m [.str x.key, .int x.many] = (W.set m x).map Nm.row := by rw [List.map_set] <;> rfl
      obtain ⟨c, hc⟩ := at_lt (l := W) (k := m) (by rw [hw.len]; omega)
      have rc : (W.map Nm.row)[((m : Nat) : Int).toNat]? = some (Nm.row c) := by rw [Int.toNat_natCast]; exact rows_at hc
      try simp only at rc
      rw [hp] at kp
      clear hx hw hc
      repeat' (first | refine goH ?_ | refine goV ?_ | refine goB (fun b => ?_) | refine goI ?_ | (refine Cw.k_cond ?_; first | (refine Cw.cond_dec rfl (fun hc => ?_) (fun hc => ?_) <;> try (exfalso; omega)) | refine Cw.cond_bool rfl (fun hc => ?_) (fun hc => ?_)) | (refine Ops.k_calla ?_; first | refine Ops.callS_fn (caps := []) (args := [Tr.agg x.row]) rfl kp.lend (Evs.cons rfl Evs.nil) (List.Perm.refl _) rfl ?_) | fail)
      erw [hset]
      exact ⟨_, _, _, (Ent.mk goSub goTk), ⟨j + 1, m + 1, _, rfl, ⟨by omega, hw2⟩, rfl, rfl⟩, by omega⟩
    · have hw2 := hw.drop hx hp
      rw [hp] at kp
      clear hx hw
      repeat' (first | refine goH ?_ | refine goV ?_ | refine goB (fun b => ?_) | refine goI ?_ | (refine Cw.k_cond ?_; first | (refine Cw.cond_dec rfl (fun hc => ?_) (fun hc => ?_) <;> try (exfalso; omega)) | refine Cw.cond_bool rfl (fun hc => ?_) (fun hc => ?_)) | (refine Ops.k_calla ?_; first | refine Ops.callS_fn (caps := []) (args := [Tr.agg x.row]) rfl kp.lend (Evs.cons rfl Evs.nil) (List.Perm.refl _) rfl ?_) | fail)
      exact ⟨_, _, _, (Ent.mk goSub goTk), ⟨j + 1, m, W, rfl, ⟨by omega, hw2⟩, rfl, rfl⟩, by omega⟩
  have hje : j = n := by omega
  have hdone := hw.done
  have hm := hw.hm
  rw [hje, hn, List.take_length] at hdone hm
  clear hw
  repeat' (first | refine goH ?_ | (refine Ops.k_slice ?_; first | (refine Ops.sliceR_l rfl rfl (by omega) (by omega) rfl ?_)) | ((fail_if_success refine Ops.k_c_clear ?_); refine goV ?_) | ((fail_if_success refine Ops.k_c_clear ?_); refine goB (fun b => ?_)) | refine goI ?_ | (refine Cw.k_cond ?_; first | (refine Cw.cond_dec rfl (fun hc => ?_) (fun hc => ?_) <;> try (exfalso; omega)) | refine Cw.cond_bool rfl (fun hc => ?_) (fun hc => ?_)) | fail)
  refine Ops.k_c_clear ?_
  refine Ops.clear_part (o := m) rfl (List.Perm.refl _) (by rw [Int.toNat_natCast, Nat.zero_add]; rfl) (by omega) (by omega) ?_
  rw [Int.toNat_natCast]
  have hz : ((W.map Nm.row).take m ++ List.replicate (n - m) (List.map Tr.raw [Value.string ByteArray.empty, Value.int .i64 0])).take m = (L.filter fun x => !p x).map Nm.row := by
    rw [List.take_append_of_le_length (by rw [List.length_take, hWl]; omega), List.take_take, Nat.min_self, ← List.map_take, hdone]
  have hzl : ((W.map Nm.row).take m ++ List.replicate (n - m) (List.map Tr.raw [Value.string ByteArray.empty, Value.int .i64 0])).length = n := by rw [List.length_append, List.length_take, hWl, List.length_replicate]; omega
  generalize (W.map Nm.row).take m ++ List.replicate (n - m) (List.map Tr.raw [Value.string ByteArray.empty, Value.int .i64 0]) = Z at *
  repeat' (first | refine goH ?_ | refine goV ?_ | refine goB (fun b => ?_) | refine goI ?_ | (refine Cw.k_cond ?_; first | (refine Cw.cond_dec rfl (fun hc => ?_) (fun hc => ?_) <;> try (exfalso; omega)) | refine Cw.cond_bool rfl (fun hc => ?_) (fun hc => ?_)) | fail)
  rw [Int.toNat_natCast, hz, hm]
  exact Fin.ret (Ent.take goTk) (Outs.one rfl rfl) ⟨by rw [List.length_map], rfl⟩

end Lg
end
section
set_option linter.all false
set_option maxRecDepth 100000
set_option maxHeartbeats 8000000
namespace Lg
open Go Go.Proofs

/-! ### what was counted -/
def ordN : Option Nm → Nm → Bool
  | none, _ => false
  | some y, x => strLt x.key y.key || decide (x.key = y.key)
def cnX (p : Option Nm) (x : Nm) : Int := if isKey x.key = false then 5 else if ordN p x = true then 7 else if x.many < 0 ∨ 1000000 < x.many then 1 else 0
def prvN (l : List Nm) : Nat → Option Nm
  | 0 => none
  | j + 1 => l[j]?
def cnE (l : List Nm) (k : Nat) : Int := match l[k]? with
  | none => 0
  | some x => cnX (prvN l k) x
def cntErr (c : List Nm) : Int := if c.length > 200 then 2 else firstE (cnE c) 0 c.length
structure CnF (E : Int) (x : Nm) (q1 ob : Bool) (N : Int) : Prop where
  e5 : (!q1) = true → E = 5
  e7 : (!q1) = false → ob = true → E = 7
  e1 : (!q1) = false → ob = false → (x.many < 0 ∨ 1000000 < x.many) → E = 1
  ok : (!q1) = false → ob = false → ¬ (x.many < 0 ∨ 1000000 < x.many) → E = N
theorem cnF {l : List Nm} {k : Nat} {x : Nm} {p : Option Nm} {E : Int} (hx : l[k]? = some x) (hp : prvN l k = p) (hV : E = firstE (cnE l) k (l.length - k)) (hkl : k < l.length) : CnF E x (isKey x.key) (ordN p x) (firstE (cnE l) (k + 1) (l.length - (k + 1))) := by
  have he : cnE l k = cnX p x := by unfold cnE; rw [hx, hp]
  have fin : ∀ c : Int, cnX p x = c → c ≠ 0 → E = c := fun c h1 h2 => hV.trans (firstE_bad hkl (he.trans h1) h2)
  have nxt : cnX p x = 0 → E = firstE (cnE l) (k + 1) (l.length - (k + 1)) := fun h1 => hV.trans (firstE_ok hkl (he.trans h1))
  clear hV he
  unfold cnX at fin nxt
  generalize ordN p x = ob at *
  generalize isKey x.key = q1 at *
  refine ⟨?_, ?_, ?_, ?_⟩
  · intro h; exact fin 5 (by rw [if_pos (by simpa using h)]) (by decide)
  · intro h h2; exact fin 7 (by rw [if_neg (by simpa using h), if_pos h2]) (by decide)
  · intro h h2 h3; exact fin 1 (by rw [if_neg (by simpa using h), if_neg (by simp [h2]), if_pos h3]) (by decide)
  · intro h h2 h3; exact nxt (by rw [if_neg (by simpa using h), if_neg (by simp [h2]), if_neg h3])
theorem countedFault_fn (l : List Nm) (hl : l.length ≤ 1000000) : PFn Tryz.prog 16 [.nms l] (· = .int (cntErr l)) := by
  refine PFn.mk (Spec.body Tryz.func16 rfl rfl (Tryz.ntmps16) rfl fun w0 own0 M => ?_)
  have hL : (l.map Nm.row).length = l.length := List.length_map _
  by_cases h200 : l.length > 200
  · rw [show cntErr l = 2 by unfold cntErr; rw [if_pos h200]]
    repeat' (first | refine goH ?_ | refine goV ?_ | refine goB (fun b => ?_) | refine goG ?_ | (refine Ops.k_guard ?_; first | (refine Ops.guard_dec rfl rfl (fun hc => ?_) (fun hc => ?_) <;> try (exfalso; omega)) | refine Ops.guard_split rfl rfl (fun hc => ?_) (fun hc => ?_)) | refine goI ?_ | (refine Cw.k_cond ?_; first | (refine Cw.cond_dec rfl (fun hc => ?_) (fun hc => ?_) <;> try (exfalso; omega)) | refine Cw.cond_bool rfl (fun hc => ?_) (fun hc => ?_)) | refine goR ?_ | refine goP ?_ | apply PSeq.cons | apply PSeq.yes rfl rfl rfl | exact goW | fail)
    exact Fin.ret (Ent.take goTk) (Outs.one rfl rfl) ⟨rfl, rfl⟩
  have hV0 : cntErr l = firstE (cnE l) 0 (l.length - 0) := by unfold cntErr; rw [if_neg h200]; rfl
  generalize cntErr l = E at *
  repeat' (first | refine goH ?_ | refine goV ?_ | refine goB (fun b => ?_) | refine goG ?_ | (refine Ops.k_guard ?_; first | (refine Ops.guard_dec rfl rfl (fun hc => ?_) (fun hc => ?_) <;> try (exfalso; omega)) | refine Ops.guard_split rfl rfl (fun hc => ?_) (fun hc => ?_)) | refine goI ?_ | (refine Cw.k_cond ?_; first | (refine Cw.cond_dec rfl (fun hc => ?_) (fun hc => ?_) <;> try (exfalso; omega)) | refine Cw.cond_bool rfl (fun hc => ?_) (fun hc => ?_)) | refine goR ?_ | refine goP ?_ | apply PSeq.cons | apply PSeq.yes rfl rfl rfl | exact goW | fail)
  refine Cw.loopI [(0, _), (8, _), (9, _)] _ (fun n e c => ∃ k : Nat, n = l.length - k ∧ (k ≤ l.length ∧ E = firstE (cnE l) k (l.length - k)) ∧ e = [(10, .int k)] ∧ c = []) ⟨_, _, _, (Ent.mkP goSub goPm), 0, rfl, ⟨by omega, hV0⟩, rfl, rfl⟩ ?_
  clear hV0
  rintro _ _ _ ⟨k, rfl, ⟨hk, hV⟩, rfl, rfl⟩
  by_cases hkl : k < l.length
  rotate_left
  · rw [firstE_end hkl] at hV
    subst hV
    repeat' (first | refine goH ?_ | refine goV ?_ | refine goB (fun b => ?_) | refine goG ?_ | (refine Ops.k_guard ?_; first | (refine Ops.guard_dec rfl rfl (fun hc => ?_) (fun hc => ?_) <;> try (exfalso; omega)) | refine Ops.guard_split rfl rfl (fun hc => ?_) (fun hc => ?_)) | refine goI ?_ | (refine Cw.k_cond ?_; first | (refine Cw.cond_dec rfl (fun hc => ?_) (fun hc => ?_) <;> try (exfalso; omega)) | refine Cw.cond_bool rfl (fun hc => ?_) (fun hc => ?_)) | refine goR ?_ | refine goP ?_ | apply PSeq.cons | apply PSeq.yes rfl rfl rfl | exact goW | fail)
    exact Fin.ret (Ent.take goTk) (Outs.one rfl rfl) ⟨rfl, rfl⟩
  obtain ⟨x, hx⟩ := at_lt hkl
  have hrow : (l.map Nm.row)[k]? = some [.str x.key, .int x.many] := rows_at hx
  have k1 := keyOf_fn x.key
  by_cases hk0 : k = 0
  · have F := cnF (p := none) hx (by rw [hk0]; rfl) hV hkl
    rw [show ordN none x = false from rfl] at F
    generalize isKey x.key = q1 at *
    clear hV hx
    repeat' (first | refine goH ?_ | refine goV ?_ | refine goB (fun b => ?_) | refine goG ?_ | (refine Ops.k_guard ?_; first | (refine Ops.guard_dec rfl rfl (fun hc => ?_) (fun hc => ?_) <;> try (exfalso; omega)) | refine Ops.guard_split rfl rfl (fun hc => ?_) (fun hc => ?_)) | refine goI ?_ | (refine Cw.k_cond ?_; first | (refine Cw.cond_dec rfl (fun hc => ?_) (fun hc => ?_) <;> try (exfalso; omega)) | refine Cw.cond_bool rfl (fun hc => ?_) (fun hc => ?_)) | (refine Ops.k_calla ?_; first | (refine Ops.k_callf 40 ?_; refine Ops.callV k1 (Evs.cons rfl Evs.nil) rfl ?_)) | (apply OpW.k_call; first | (apply OpW.k_callf 40; exact OpW.callV k1 (Evs.cons rfl Evs.nil))) | refine goR ?_ | refine goP ?_ | apply PSeq.cons | apply PSeq.yes rfl rfl rfl | exact goW | fail)
    all_goals first
      | (exfalso; omega)
      | exact ⟨_, _, _, (Ent.mk goSub goTk), ⟨k + 1, rfl, ⟨by omega, F.ok (by assumption) rfl (by omega)⟩, rfl, rfl⟩, by omega⟩
      | (refine Fin.ret (Ent.take goTk) (Outs.one rfl rfl) ⟨rfl, ?_⟩; first | (rw [F.e5 (by assumption)]; done) | (rw [F.e1 (by assumption) rfl (by omega)]; done))
  obtain ⟨j, hj⟩ : ∃ j, k = j + 1 := ⟨k - 1, by omega⟩
  obtain ⟨y, hy⟩ := at_lt (l := l) (k := j) (by omega)
  have hrow2 : (l.map Nm.row)[((k : Int) - 1).toNat]? = some [.str y.key, .int y.many] := by rw [show ((k : Int) - 1).toNat = j by omega]; exact rows_at hy
  have F := cnF (p := some y) hx (by rw [hj]; exact hy) hV hkl
  rw [show ordN (some y) x = (strLt x.key y.key || decide (x.key = y.key)) from rfl] at F
  generalize isKey x.key = q1 at *
  clear hV hx hy
  repeat' (first | refine goH ?_ | refine goV ?_ | refine goB (fun b => ?_) | refine goG ?_ | (refine Ops.k_guard ?_; first | (refine Ops.guard_dec rfl rfl (fun hc => ?_) (fun hc => ?_) <;> try (exfalso; omega)) | refine Ops.guard_split rfl rfl (fun hc => ?_) (fun hc => ?_)) | refine goI ?_ | (refine Cw.k_cond ?_; first | (refine Cw.cond_dec rfl (fun hc => ?_) (fun hc => ?_) <;> try (exfalso; omega)) | refine Cw.cond_bool rfl (fun hc => ?_) (fun hc => ?_)) | (refine Ops.k_calla ?_; first | (refine Ops.k_callf 40 ?_; refine Ops.callV k1 (Evs.cons rfl Evs.nil) rfl ?_)) | (apply OpW.k_call; first | (apply OpW.k_callf 40; exact OpW.callV k1 (Evs.cons rfl Evs.nil))) | refine goR ?_ | refine goP ?_ | apply PSeq.cons | apply PSeq.yes rfl rfl rfl | exact goW | fail)
  all_goals first
    | (exfalso; omega)
    | exact ⟨_, _, _, (Ent.mk goSub goTk), ⟨k + 1, rfl, ⟨by omega, F.ok (by assumption) (by assumption) (by omega)⟩, rfl, rfl⟩, by omega⟩
    | (refine Fin.ret (Ent.take goTk) (Outs.one rfl rfl) ⟨rfl, ?_⟩; first | (rw [F.e5 (by assumption)]; done) | (rw [F.e7 (by assumption) (by assumption)]; done) | (rw [F.e1 (by assumption) (by assumption) (by omega)]; done))
/-! ### what is missing -/
theorem thIs_fn (x : Nm) : PFn Tryz.prog 48 [.agg x.row] (· = .bool (decide (x.many = 0))) := by
  unfold Nm.row
  refine PFn.mk (Spec.body Tryz.func48 rfl rfl (Tryz.ntmps48) rfl fun w0 own0 M => ?_)
  repeat' (first | refine goH ?_ | refine goV ?_ | refine goB (fun b => ?_) | refine goI ?_ | (refine Cw.k_cond ?_; first | (refine Cw.cond_dec rfl (fun hc => ?_) (fun hc => ?_) <;> try (exfalso; omega)) | refine Cw.cond_bool rfl (fun hc => ?_) (fun hc => ?_)) | fail)
  exact Fin.ret (Ent.take goTk) (Outs.one rfl rfl) ⟨rfl, rfl⟩
def thR (E : Int) (T : List Nm) : List Nm × Int := if E ≠ 0 then ([], E) else (T, 0)
theorem thR_bad {c : Int} {T : List Nm} (h : c ≠ 0) : thR c T = ([], c) := by unfold thR; rw [if_pos h]
theorem smV_bd (l : List Mv) (hb : ∀ x ∈ l, -1000 ≤ x.many ∧ x.many ≤ 1000) : mBd ((l.length : Int) * 1000) (smV l) := by
  have H : ∀ (k : Nat) (a : List Mv) (m : PS), (∀ x ∈ a, -1000 ≤ x.many ∧ x.many ≤ 1000) → mBd ((k : Int) * 1000) m → mBd (((k + a.length : Nat) : Int) * 1000) (sumM m (a.map mvP)) := by
    intro k a
    induction a generalizing k with
    | nil => intro m _ hm; exact hm
    | cons x a ih =>
      intro m ha hm
      have h1 := hm.add (by omega) x.ware (ha x (by simp))
      rw [show (k : Int) * 1000 + 1000 = ((k + 1 : Nat) : Int) * 1000 by omega] at h1
      have := ih (k + 1) (mAdd x.ware x.many m) (fun y hy => ha y (List.mem_cons_of_mem _ hy)) h1
      rw [List.map_cons, sumM, List.length_cons]
      rwa [show k + (a.length + 1) = k + 1 + a.length by omega]
  have := H 0 l [] hb (fun q hq => by cases hq)
  rwa [Nat.zero_add] at this
def ngN (x : Nm) : ByteArray × Int := (x.key, -x.many)
theorem thM_eq (m : PS) (c : List Nm) : thM m c = sumM m (c.map ngN) := rfl
theorem thF_step {m0 m : PS} {c : List Nm} {k : Nat} {x : Nm} (hx : c[k]? = some x) (hV : thM m0 c = sumM m ((c.drop k).map ngN)) : thM m0 c = sumM (mUp x.key (mI x.key m - x.many) m) ((c.drop (k + 1)).map ngN) := by
  rw [hV, drop_at hx, List.map_cons, sumM]
  unfold mAdd ngN
  rw [Int.sub_eq_add_neg]
theorem thefts_fn (l : List Mv) (hl : l.length ≤ 1000) (hno : NoBd l) (c : List Nm) (hc : c.length ≤ 1000) : PFn Tryz.prog 13 [.mvs l, .nms c] (· = .tup [.nms (if (mvsE l).2 ≠ 0 then ([], (mvsE l).2) else thR (cntErr c) (thV l c)).1, .int (if (mvsE l).2 ≠ 0 then ([], (mvsE l).2) else thR (cntErr c) (thV l c)).2]) := by
  have k0 := checkShelf_fn l (by omega) hno
  by_cases h0 : (mvsE l).2 ≠ 0
  · rw [if_pos h0]
    generalize mvsE l = E at *
    refine PFn.mk (Spec.body Tryz.func13 rfl rfl (Tryz.ntmps13) rfl fun w0 own0 M => ?_)
    repeat' (first | refine goH ?_ | refine goV ?_ | refine goB (fun b => ?_) | refine goG ?_ | (refine Ops.k_guard ?_; first | (refine Ops.guard_dec rfl rfl (fun hc => ?_) (fun hc => ?_) <;> try (exfalso; omega)) | refine Ops.guard_split rfl rfl (fun hc => ?_) (fun hc => ?_)) | refine goI ?_ | (refine Cw.k_cond ?_; first | (refine Cw.cond_dec rfl (fun hc => ?_) (fun hc => ?_) <;> try (exfalso; omega)) | refine Cw.cond_bool rfl (fun hc => ?_) (fun hc => ?_)) | (refine Ops.k_calla ?_; first | (refine Ops.k_callf 9 ?_; refine Ops.callV k0 (Evs.cons rfl Evs.nil) rfl ?_)) | (apply OpW.k_call; first | (apply OpW.k_callf 9; exact OpW.callV k0 (Evs.cons rfl Evs.nil))) | refine goR ?_ | refine goP ?_ | apply PSeq.cons | apply PSeq.yes rfl rfl rfl | exact goW | fail)
    refine Fin.ret (Ent.trans (Ent.nilsl 2 (s := 4) rfl) (Ent.take goTk)) (Outs.many rfl (OutL.cons goOe (OutL.cons goOe OutL.nil)) rfl) ⟨rfl, rfl⟩
  rw [if_neg h0]
  replace h0 : (mvsE l).2 = 0 := by omega
  rw [h0] at k0
  have hb := mvsE_ok h0
  have ks := sums_fn l (by omega) hb
  have hsb := smV_bd l hb
  have hsl := smV_len l
  have hsn := smV_nodup l
  clear hb h0 hno
  have hL : (c.map Nm.row).length = c.length := List.length_map _
  refine PFn.mk (Spec.body Tryz.func13 rfl rfl (Tryz.ntmps13) rfl fun w0 own0 M => ?_)
  by_cases h200 : c.length > 200
  · rw [show cntErr c = 2 by unfold cntErr; rw [if_pos h200], thR_bad (by decide)]
    repeat' (first | refine goH ?_ | refine goV ?_ | refine goB (fun b => ?_) | refine goG ?_ | (refine Ops.k_guard ?_; first | (refine Ops.guard_dec rfl rfl (fun hc => ?_) (fun hc => ?_) <;> try (exfalso; omega)) | refine Ops.guard_split rfl rfl (fun hc => ?_) (fun hc => ?_)) | refine goI ?_ | (refine Cw.k_cond ?_; first | (refine Cw.cond_dec rfl (fun hc => ?_) (fun hc => ?_) <;> try (exfalso; omega)) | refine Cw.cond_bool rfl (fun hc => ?_) (fun hc => ?_)) | (refine Ops.k_calla ?_; first | (refine Ops.k_callf 9 ?_; refine Ops.callV k0 (Evs.cons rfl Evs.nil) rfl ?_)) | (apply OpW.k_call; first | (apply OpW.k_callf 9; exact OpW.callV k0 (Evs.cons rfl Evs.nil))) | refine goR ?_ | refine goP ?_ | apply PSeq.cons | apply PSeq.yes rfl rfl rfl | exact goW | fail)
    refine Fin.ret (Ent.trans (Ent.nilsl 2 (s := 4) rfl) (Ent.take goTk)) (Outs.many rfl (OutL.cons goOe (OutL.cons goOe OutL.nil)) rfl) ⟨rfl, rfl⟩
  have hV0 : cntErr c = firstE (cnE c) 0 (c.length - 0) := by unfold cntErr; rw [if_neg h200]; rfl
  have hT : thV l c = (isort nmLt ((thM (smV l) c).map mkN)).filter fun x => !decide (x.many = 0) := rfl
  generalize thV l c = T at *
  generalize cntErr c = E at *
  generalize smV l = m0 at *
  repeat' (first | refine goH ?_ | refine goV ?_ | refine goB (fun b => ?_) | refine goG ?_ | (refine Ops.k_guard ?_; first | (refine Ops.guard_dec rfl rfl (fun hc => ?_) (fun hc => ?_) <;> try (exfalso; omega)) | refine Ops.guard_split rfl rfl (fun hc => ?_) (fun hc => ?_)) | refine goI ?_ | (refine Cw.k_cond ?_; first | (refine Cw.cond_dec rfl (fun hc => ?_) (fun hc => ?_) <;> try (exfalso; omega)) | refine Cw.cond_bool rfl (fun hc => ?_) (fun hc => ?_)) | (refine Ops.k_calla ?_; first | (refine Ops.k_callf 9 ?_; refine Ops.callV k0 (Evs.cons rfl Evs.nil) rfl ?_) | (refine Ops.k_callf 43 ?_; (refine Ops.call ks (Evs.cons rfl Evs.nil) goPm rfl ?_; rintro r cs' ⟨b, rfl, rfl⟩))) | (apply OpW.k_call; first | (apply OpW.k_callf 9; exact OpW.callV k0 (Evs.cons rfl Evs.nil))) | refine goR ?_ | refine goP ?_ | apply PSeq.cons | apply PSeq.yes rfl rfl rfl | exact goW | fail)
  refine Cw.loopI [(1, _), (8, _), (24, _), (25, _)] _ (fun n e cc => ∃ (k : Nat) (m : PS), n = c.length - k ∧ (k ≤ c.length ∧ E = firstE (cnE c) k (c.length - k) ∧ thM m0 c = sumM m ((c.drop k).map ngN) ∧ mBd (1000000 + (k : Int) * 1000000) m ∧ (m.map Prod.fst).Nodup ∧ m.length ≤ 1000 + k) ∧ e = [(26, .int k)] ∧ cc = [Chunk.mp Value.string b (tkv m)])
    ⟨_, _, _, (Ent.mkP goSub goPm), 0, m0, rfl, ⟨by omega, hV0, rfl, (fun q hq => by have := hsb q hq; omega), hsn, by omega⟩, rfl, rfl⟩ ?_
  clear hV0 hsb hsn hsl ks k0
  rintro _ _ _ ⟨k, m, rfl, ⟨hk, hV, hM, hmb, hmn, hml⟩, rfl, rfl⟩
  by_cases hkl : k < c.length
  rotate_left
  · rw [firstE_end hkl] at hV
    rw [List.drop_of_length_le (by omega), List.map_nil, sumM] at hM
    rw [hM] at hT
    subst hV
    rw [show thR 0 T = (T, 0) from rfl]
    have kN := named_fn m (by omega) hmn b
    have hil : (isort nmLt (m.map mkN)).length = m.length := by rw [isort_len, List.length_map]
    have kF := fun ad cap => delFunc_nm (ad := ad) (cap := cap) (isort nmLt (m.map mkN)) (fun x => decide (x.many = 0)) (f := 48) rfl (by omega) thIs_fn
    rw [← hT] at kF
    clear hM hT
    repeat' (first | refine goH ?_ | refine goV ?_ | refine goB (fun b => ?_) | refine goG ?_ | (refine Ops.k_guard ?_; first | (refine Ops.guard_dec rfl rfl (fun hc => ?_) (fun hc => ?_) <;> try (exfalso; omega)) | refine Ops.guard_split rfl rfl (fun hc => ?_) (fun hc => ?_)) | refine goI ?_ | (refine Cw.k_cond ?_; first | (refine Cw.cond_dec rfl (fun hc => ?_) (fun hc => ?_) <;> try (exfalso; omega)) | refine Cw.cond_bool rfl (fun hc => ?_) (fun hc => ?_)) | (refine Ops.k_calla ?_; first | (refine Ops.k_callf 42 ?_; (refine Ops.call kN (Evs.cons rfl Evs.nil) goPm rfl ?_; rintro r cs' ⟨ad, cap, rfl, rfl⟩)) | (refine Ops.k_callf 47 ?_; (refine Ops.call (kF _ _) (Evs.cons rfl (Evs.cons rfl Evs.nil)) goPm rfl ?_; rintro r cs' ⟨rfl, rfl⟩))) | refine goR ?_ | refine goP ?_ | apply PSeq.cons | apply PSeq.yes rfl rfl rfl | exact goW | fail)
    rw [← List.length_map (f := Nm.row)]
    refine Fin.ret (Ent.trans (Ent.settle (s := 4) rfl goPk rfl) (Ent.take goTk)) (Outs.many rfl (OutL.cons goOe (OutL.cons goOe OutL.nil)) rfl) ⟨rfl, rfl⟩
  obtain ⟨x, hx⟩ := at_lt hkl
  have hrow : (c.map Nm.row)[k]? = some [.str x.key, .int x.many] := rows_at hx
  have k1 := key_fn x.key
  have k3 := out_fn x.many 0 1000000
  have G0 : outB x.many 0 1000000 = true → (x.many < 0 ∨ 1000000 < x.many) := fun h => by simp [outB] at h; omega
  have G1 : outB x.many 0 1000000 = false → ¬ (x.many < 0 ∨ 1000000 < x.many) := fun h => by simp [outB] at h; omega
  have hM2 := thF_step hx hM
  have hvv := hmb.val (by omega) x.key
  have hmn2 : ((mUp x.key (mI x.key m - x.many) m).map Prod.fst).Nodup := mUp_nodup hmn
  have hml2 := mUp_len x.key (mI x.key m - x.many) m
  have hmb2 : ¬ (x.many < 0 ∨ 1000000 < x.many) → mBd (1000000 + ((k + 1 : Nat) : Int) * 1000000) (mUp x.key (mI x.key m - x.many) m) := fun h => by
    have := hmb.add (c := 1000000) (by omega) x.key (v := -x.many) (by omega)
    unfold mAdd at this
    rw [← Int.sub_eq_add_neg] at this
    rwa [show 1000000 + ((k + 1 : Nat) : Int) * 1000000 = 1000000 + (k : Int) * 1000000 + 1000000 by omega]
  clear hM hmb hmn hT
  generalize hoB : outB x.many 0 1000000 = oB at *
  clear hoB
  by_cases hk0 : k = 0
  · have F := cnF (p := none) hx (by rw [hk0]; rfl) hV hkl
    rw [show ordN none x = false from rfl] at F
    generalize isKey x.key = q1 at *
    clear hV hx
    cases oB
    · have g := G1 rfl
      have hmb3 := hmb2 g
      clear G0 G1 hmb2
      repeat' (first | refine goH ?_ | (refine Ops.k_lookup ?_; first | (refine Ops.lookup rfl rfl goPk rfl ?_; rw [tkv_read])) | (refine Ops.k_mapUpdate ?_; first | (refine Ops.mapUpdate rfl rfl rfl goPk ?_; rw [tkv_set])) | refine goV ?_ | refine goB (fun b => ?_) | refine goG ?_ | (refine Ops.k_guard ?_; first | (refine Ops.guard_dec rfl rfl (fun hc => ?_) (fun hc => ?_) <;> try (exfalso; omega)) | refine Ops.guard_split rfl rfl (fun hc => ?_) (fun hc => ?_)) | refine goI ?_ | (refine Cw.k_cond ?_; first | (refine Cw.cond_dec rfl (fun hc => ?_) (fun hc => ?_) <;> try (exfalso; omega)) | refine Cw.cond_bool rfl (fun hc => ?_) (fun hc => ?_)) | (refine Ops.k_calla ?_; first | (refine Ops.k_callf 36 ?_; refine Ops.callV k1 (Evs.cons rfl Evs.nil) rfl ?_) | (refine Ops.k_callf 39 ?_; refine Ops.callV k3 (Evs.cons rfl (Evs.cons rfl (Evs.cons rfl Evs.nil))) rfl ?_)) | (apply OpW.k_call; first | (apply OpW.k_callf 36; exact OpW.callV k1 (Evs.cons rfl Evs.nil)) | (apply OpW.k_callf 39; exact OpW.callV k3 (Evs.cons rfl (Evs.cons rfl (Evs.cons rfl Evs.nil))))) | refine goR ?_ | refine goP ?_ | apply PSeq.cons | apply PSeq.yes rfl rfl rfl | exact goW | fail)
      all_goals first
        | (exfalso; omega)
        | exact ⟨_, _, _, (Ent.mk goSub goTk), ⟨k + 1, _, rfl, ⟨by omega, F.ok (by assumption) rfl g, hM2, hmb3, hmn2, by omega⟩, rfl, rfl⟩, by omega⟩
        | (rw [F.e5 (by assumption), thR_bad (by decide)]; refine Fin.ret (Ent.trans (Ent.nilsl 2 (s := 4) rfl) (Ent.take goTk)) (Outs.many rfl (OutL.cons goOe (OutL.cons goOe OutL.nil)) rfl) ⟨rfl, rfl⟩)
    · have g := G0 rfl
      clear G0 G1 hmb2
      repeat' (first | refine goH ?_ | refine goV ?_ | refine goB (fun b => ?_) | refine goG ?_ | (refine Ops.k_guard ?_; first | (refine Ops.guard_dec rfl rfl (fun hc => ?_) (fun hc => ?_) <;> try (exfalso; omega)) | refine Ops.guard_split rfl rfl (fun hc => ?_) (fun hc => ?_)) | refine goI ?_ | (refine Cw.k_cond ?_; first | (refine Cw.cond_dec rfl (fun hc => ?_) (fun hc => ?_) <;> try (exfalso; omega)) | refine Cw.cond_bool rfl (fun hc => ?_) (fun hc => ?_)) | (refine Ops.k_calla ?_; first | (refine Ops.k_callf 36 ?_; refine Ops.callV k1 (Evs.cons rfl Evs.nil) rfl ?_) | (refine Ops.k_callf 39 ?_; refine Ops.callV k3 (Evs.cons rfl (Evs.cons rfl (Evs.cons rfl Evs.nil))) rfl ?_)) | (apply OpW.k_call; first | (apply OpW.k_callf 36; exact OpW.callV k1 (Evs.cons rfl Evs.nil)) | (apply OpW.k_callf 39; exact OpW.callV k3 (Evs.cons rfl (Evs.cons rfl (Evs.cons rfl Evs.nil))))) | refine goR ?_ | refine goP ?_ | apply PSeq.cons | apply PSeq.yes rfl rfl rfl | exact goW | fail)
      all_goals first
        | (exfalso; omega)
        | (rw [F.e5 (by assumption), thR_bad (by decide)]; refine Fin.ret (Ent.trans (Ent.nilsl 2 (s := 4) rfl) (Ent.take goTk)) (Outs.many rfl (OutL.cons goOe (OutL.cons goOe OutL.nil)) rfl) ⟨rfl, rfl⟩)
        | (rw [F.e1 (by assumption) rfl g, thR_bad (by decide)]; refine Fin.ret (Ent.trans (Ent.nilsl 2 (s := 4) rfl) (Ent.take goTk)) (Outs.many rfl (OutL.cons goOe (OutL.cons goOe OutL.nil)) rfl) ⟨rfl, rfl⟩)
  obtain ⟨j, hj⟩ : ∃ j, k = j + 1 := ⟨k - 1, by omega⟩
  obtain ⟨y, hy⟩ := at_lt (l := c) (k := j) (by omega)
  have hrow2 : (c.map Nm.row)[((k : Int) - 1).toNat]? = some [.str y.key, .int y.many] := by rw [show ((k : Int) - 1).toNat = j by omega]; exact rows_at hy
  have F := cnF (p := some y) hx (by rw [hj]; exact hy) hV hkl
  rw [show ordN (some y) x = (strLt x.key y.key || decide (x.key = y.key)) from rfl] at F
  generalize isKey x.key = q1 at *
  clear hV hx hy
  cases oB
  · have g := G1 rfl
    have hmb3 := hmb2 g
    clear G0 G1 hmb2
    repeat' (first | refine goH ?_ | (refine Ops.k_lookup ?_; first | (refine Ops.lookup rfl rfl goPk rfl ?_; rw [tkv_read])) | (refine Ops.k_mapUpdate ?_; first | (refine Ops.mapUpdate rfl rfl rfl goPk ?_; rw [tkv_set])) | refine goV ?_ | refine goB (fun b => ?_) | refine goG ?_ | (refine Ops.k_guard ?_; first | (refine Ops.guard_dec rfl rfl (fun hc => ?_) (fun hc => ?_) <;> try (exfalso; omega)) | refine Ops.guard_split rfl rfl (fun hc => ?_) (fun hc => ?_)) | refine goI ?_ | (refine Cw.k_cond ?_; first | (refine Cw.cond_dec rfl (fun hc => ?_) (fun hc => ?_) <;> try (exfalso; omega)) | refine Cw.cond_bool rfl (fun hc => ?_) (fun hc => ?_)) | (refine Ops.k_calla ?_; first | (refine Ops.k_callf 36 ?_; refine Ops.callV k1 (Evs.cons rfl Evs.nil) rfl ?_) | (refine Ops.k_callf 39 ?_; refine Ops.callV k3 (Evs.cons rfl (Evs.cons rfl (Evs.cons rfl Evs.nil))) rfl ?_)) | (apply OpW.k_call; first | (apply OpW.k_callf 36; exact OpW.callV k1 (Evs.cons rfl Evs.nil)) | (apply OpW.k_callf 39; exact OpW.callV k3 (Evs.cons rfl (Evs.cons rfl (Evs.cons rfl Evs.nil))))) | refine goR ?_ | refine goP ?_ | apply PSeq.cons | apply PSeq.yes rfl rfl rfl | exact goW | fail)
    all_goals first
      | (exfalso; omega)
      | exact ⟨_, _, _, (Ent.mk goSub goTk), ⟨k + 1, _, rfl, ⟨by omega, F.ok (by assumption) (by assumption) g, hM2, hmb3, hmn2, by omega⟩, rfl, rfl⟩, by omega⟩
      | (rw [F.e5 (by assumption), thR_bad (by decide)]; refine Fin.ret (Ent.trans (Ent.nilsl 2 (s := 4) rfl) (Ent.take goTk)) (Outs.many rfl (OutL.cons goOe (OutL.cons goOe OutL.nil)) rfl) ⟨rfl, rfl⟩)
      | (rw [F.e7 (by assumption) (by assumption), thR_bad (by decide)]; refine Fin.ret (Ent.trans (Ent.nilsl 2 (s := 4) rfl) (Ent.take goTk)) (Outs.many rfl (OutL.cons goOe (OutL.cons goOe OutL.nil)) rfl) ⟨rfl, rfl⟩)
  · have g := G0 rfl
    clear G0 G1 hmb2
    repeat' (first | refine goH ?_ | refine goV ?_ | refine goB (fun b => ?_) | refine goG ?_ | (refine Ops.k_guard ?_; first | (refine Ops.guard_dec rfl rfl (fun hc => ?_) (fun hc => ?_) <;> try (exfalso; omega)) | refine Ops.guard_split rfl rfl (fun hc => ?_) (fun hc => ?_)) | refine goI ?_ | (refine Cw.k_cond ?_; first | (refine Cw.cond_dec rfl (fun hc => ?_) (fun hc => ?_) <;> try (exfalso; omega)) | refine Cw.cond_bool rfl (fun hc => ?_) (fun hc => ?_)) | (refine Ops.k_calla ?_; first | (refine Ops.k_callf 36 ?_; refine Ops.callV k1 (Evs.cons rfl Evs.nil) rfl ?_) | (refine Ops.k_callf 39 ?_; refine Ops.callV k3 (Evs.cons rfl (Evs.cons rfl (Evs.cons rfl Evs.nil))) rfl ?_)) | (apply OpW.k_call; first | (apply OpW.k_callf 36; exact OpW.callV k1 (Evs.cons rfl Evs.nil)) | (apply OpW.k_callf 39; exact OpW.callV k3 (Evs.cons rfl (Evs.cons rfl (Evs.cons rfl Evs.nil))))) | refine goR ?_ | refine goP ?_ | apply PSeq.cons | apply PSeq.yes rfl rfl rfl | exact goW | fail)
    all_goals first
      | (exfalso; omega)
      | (rw [F.e5 (by assumption), thR_bad (by decide)]; refine Fin.ret (Ent.trans (Ent.nilsl 2 (s := 4) rfl) (Ent.take goTk)) (Outs.many rfl (OutL.cons goOe (OutL.cons goOe OutL.nil)) rfl) ⟨rfl, rfl⟩)
      | (rw [F.e7 (by assumption) (by assumption), thR_bad (by decide)]; refine Fin.ret (Ent.trans (Ent.nilsl 2 (s := 4) rfl) (Ent.take goTk)) (Outs.many rfl (OutL.cons goOe (OutL.cons goOe OutL.nil)) rfl) ⟨rfl, rfl⟩)
      | (rw [F.e1 (by assumption) (by assumption) g, thR_bad (by decide)]; refine Fin.ret (Ent.trans (Ent.nilsl 2 (s := 4) rfl) (Ent.take goTk)) (Outs.many rfl (OutL.cons goOe (OutL.cons goOe OutL.nil)) rfl) ⟨rfl, rfl⟩)
end Lg
end
