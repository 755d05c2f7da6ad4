/- A part of the proof of a law of this seat: it adds no condition. By an AI agent. -/
import Derived.Test.YtfgcjpkkbhnkgaaGreatDoorLgCpy
import Derived.Test.YtfgcjpkkbhnkgaaGreatDoorMv4
section
set_option linter.all false
set_option maxRecDepth 100000
set_option maxHeartbeats 8000000
namespace Lg
open Go Go.Proofs

/-! ### the reference's shelf -/
/-- the same over an owned slice, that it only reads -/
theorem indexFuncO_nm {n : Nat} {l : List Nm} {p : Nm → Bool} {ad : Option Addr} {cap : Nat} {g : Nat} {caps : List Value} {cin : List Chunk} (hl : l.length ≤ 1000000000) (hn : n = l.length)
  (hs : ∀ x, x ∈ l → Spec Tryz.prog g ([Tr.agg x.row] ++ caps.map Tr.raw) cin (fun r cs => r = Tr.bool (p x) ∧ cs = cin)) :
  Spec Tryz.prog 76 [Tr.raw (.slice ad n cap), Tr.raw (.func (.func g) #[] caps.toArray)] (Chunk.own ad cap 2 50 (l.map Nm.row) :: cin) (fun r cs => r = Tr.int (idxFrom p l 0) ∧ cs = Chunk.own ad cap 2 50 (l.map Nm.row) :: cin) := by
 refine Spec.body Tryz.func76 rfl rfl (Tryz.ntmps76) rfl fun w0 own0 M => ?_
 have hL : (l.map Nm.row).length = n := by rw [List.length_map, hn]
 repeat' (first | refine goH ?_ | refine goV ?_ | refine goI ?_ | (refine Cw.k_cond ?_; first | (refine Cw.cond_dec rfl ?_ ?_ <;> intro hc <;> try omega) | refine Cw.cond_bool rfl ?_ ?_ <;> intro hc) | fail)
 refine Cw.loopI [(0, _), (1, _), (7, _)] _ (fun q e c => ∃ k : Nat, q = n - k ∧ (k ≤ n ∧ idxFrom p l 0 = idxFrom p (l.drop k) k) ∧ e = [(8, .int k)] ∧ c = []) ⟨_, _, _, (Ent.mkP goSub goPm), 0, rfl, ⟨by omega, rfl⟩, rfl, rfl⟩ ?_
 rintro _ _ _ ⟨k, rfl, ⟨hk, hgo⟩, rfl, rfl⟩
 by_cases hkl : k < n
 ·obtain ⟨x, hx⟩ : ∃ x, l[k]? = some x := ⟨_, List.getElem?_eq_getElem (by omega)⟩
  have hrow : (l.map Nm.row)[k]? = some [.str x.key, .int x.many] := rows_at hx
  have hdrop := idxFrom_drop p hx
  rw [hdrop] at hgo
  have hsx := hs x (List.mem_of_getElem? hx)
  by_cases hp : p x = true
  ·rw [if_pos hp] at hgo
   rw [hp] at hsx
   repeat' (first | refine goH ?_ | refine goV ?_ | refine goI ?_ | (refine Cw.k_cond ?_; first | (refine Cw.cond_dec rfl ?_ ?_ <;> intro hc <;> try omega) | refine Cw.cond_bool rfl ?_ ?_ <;> intro hc) | (refine Ops.k_calla ?_; first | refine Ops.callS_fn rfl hsx (Evs.cons rfl Evs.nil) (List.perm_append_comm (l₁ := [Chunk.own ad cap 2 50 (l.map Nm.row)])) rfl ?_) | fail)
   exact Fin.ret Ent.refl (Outs.one rfl rfl) ⟨by rw [hgo], rfl⟩
  ·rw [if_neg hp] at hgo
   rw [Bool.not_eq_true] at hp
   rw [hp] at hsx
   repeat' (first | refine goH ?_ | refine goV ?_ | refine goI ?_ | (refine Cw.k_cond ?_; first | (refine Cw.cond_dec rfl ?_ ?_ <;> intro hc <;> try omega) | refine Cw.cond_bool rfl ?_ ?_ <;> intro hc) | (refine Ops.k_calla ?_; first | refine Ops.callS_fn rfl hsx (Evs.cons rfl Evs.nil) (List.perm_append_comm (l₁ := [Chunk.own ad cap 2 50 (l.map Nm.row)])) rfl ?_) | fail)
   exact ⟨_, _, _, (Ent.mkP goSub goPm), ⟨k + 1, rfl, ⟨by omega, hgo⟩, rfl, rfl⟩, by omega⟩
 ·rw [List.drop_eq_nil_of_le (by omega), idxFrom] at hgo
  repeat' (first | refine goH ?_ | refine goV ?_ | refine goI ?_ | (refine Cw.k_cond ?_; first | (refine Cw.cond_dec rfl ?_ ?_ <;> intro hc <;> try omega) | refine Cw.cond_bool rfl ?_ ?_ <;> intro hc) | fail)
  exact Fin.ret Ent.refl (Outs.one rfl rfl) ⟨by rw [hgo], rfl⟩

end Lg
end
section
set_option linter.all false
set_option maxRecDepth 100000
set_option maxHeartbeats 1000000
namespace Lg
open Go Go.Proofs

/-! ### what memory holds while some elements are taken away -/
theorem idx_split {α : Type} (p : α → Bool) : ∀ (L : List α) (k : Int), (idxFrom p L k = -1 ∧ (L.filter fun x => !p x) = L) ∨ ∃ (j : Nat) (x : α), idxFrom p L k = k + j ∧ L[j]? = some x ∧ p x = true ∧ ((L.take j).filter fun x => !p x) = L.take j
 |[], k => .inl ⟨rfl, rfl⟩
 |y :: L, k => by
  cases hp : p y
  ·rcases idx_split p L (k + 1) with ⟨h1, h2⟩ | ⟨j, x, h1, h2, h3, h4⟩
   ·left
    refine ⟨by simp [idxFrom, hp, h1], ?_⟩
    rw [List.filter_cons, if_pos (by simp [hp]), h2]
   ·right
    refine ⟨j + 1, x, ?_, by simpa using h2, h3, ?_⟩
    ·simp only [idxFrom, hp, h1]
     simp
     omega
    ·rw [List.take_succ_cons, List.filter_cons, if_pos (by simp [hp]), h4]
  ·right
   exact ⟨0, y, by simp [idxFrom, hp], rfl, hp, rfl⟩
structure Dlt {α : Type} (p : α → Bool) (L W : List α) (m j : Nat) : Prop where
 len : W.length = L.length
 hm : m = ((L.take j).filter fun x => !p x).length
 lt : m < j
 hj : j ≤ L.length
 done : W.take m = (L.take j).filter fun x => !p x
 rest : W.drop j = L.drop j
theorem Dlt.start {α : Type} {p : α → Bool} {L : List α} {i : Nat} {x : α} (h2 : L[i]? = some x) (h3 : p x = true) (h4 : ((L.take i).filter fun x => !p x) = L.take i) : Dlt p L L i (i + 1) := by
 have hlt := (List.getElem?_eq_some_iff.1 h2).1
 have e : ((L.take (i + 1)).filter fun x => !p x) = L.take i := by
  rw [take_at h2, List.filter_append, h4]
  simp [h3]
 exact ⟨rfl, by rw [e, List.length_take]; omega, by omega, by omega, e.symm, rfl⟩
theorem Dlt.at0 {α : Type} {p : α → Bool} {L W : List α} {m j q : Nat} (h : Dlt p L W m j) (hq : j ≤ q) : W[q]? = L[q]? := by
 have := congrArg (fun l => l[q - j]?) h.rest
 simp only [List.getElem?_drop] at this
 rwa [show j + (q - j) = q by omega] at this
theorem Dlt.drop {α : Type} {p : α → Bool} {L W : List α} {m j : Nat} {x : α} (h : Dlt p L W m j) (hx : L[j]? = some x) (hp : p x = true) : Dlt p L W m (j + 1) := by
 have hlt := (List.getElem?_eq_some_iff.1 hx).1
 have e : ((L.take (j + 1)).filter fun x => !p x) = (L.take j).filter fun x => !p x := by
  rw [take_at hx, List.filter_append]
  simp [hp]
 refine ⟨h.len, by rw [e]; exact h.hm, by have := h.lt; omega, by omega, by rw [e]; exact h.done, ?_⟩
 have := congrArg (List.drop 1) h.rest
 rwa [List.drop_drop, List.drop_drop] at this
theorem Dlt.keep {α : Type} {p : α → Bool} {L W : List α} {m j : Nat} {x : α} (h : Dlt p L W m j) (hx : L[j]? = some x) (hp : p x = false) : Dlt p L (W.set m x) (m + 1) (j + 1) := by
 have hlt := (List.getElem?_eq_some_iff.1 hx).1
 have hml := h.lt
 have hwl := h.len
 have e : ((L.take (j + 1)).filter fun x => !p x) = ((L.take j).filter fun x => !p x) ++ [x] := by
  rw [take_at hx, List.filter_append]
  simp [hp]
 refine ⟨by rw [List.length_set]; exact h.len, by rw [e, List.length_append, ← h.hm]; rfl, by omega, by omega, ?_, ?_⟩
 ·rw [e, ← h.done]
  have hg : (W.set m x)[m]? = some x := List.getElem?_set_self (by omega)
  rw [take_at hg, List.take_set, List.set_eq_of_length_le (by rw [List.length_take]; omega)]
 ·rw [List.drop_set, if_pos (by omega)]
  have := congrArg (List.drop 1) h.rest
  rwa [List.drop_drop, List.drop_drop] at this
end Lg
end
section
set_option linter.all false
set_option maxRecDepth 100000
set_option maxHeartbeats 8000000
namespace Lg
open Go Go.Proofs

/-- slices.DeleteFunc of a slice of one's own -/
theorem delFunc_nm {ad : Option Addr} {n cap : Nat} (L : List Nm) (p : Nm → Bool) {f : Nat} (hn : n = L.length) (hl : n ≤ 1000000) (hs : ∀ x : Nm, PFn Tryz.prog f [Tr.agg x.row] (· = .bool (p x))) :
  Spec Tryz.prog 42 [Tr.raw (.slice ad n cap), Tr.raw (.func (.func f) #[] #[])] [Chunk.own ad cap 2 50 (L.map Nm.row)] (fun r cs => r = Tr.raw (.slice ad (L.filter fun x => !p x).length cap) ∧ cs = [Chunk.own ad cap 2 50 ((L.filter fun x => !p x).map Nm.row)]) := by
 have hLr : (L.map Nm.row).length = n := by rw [List.length_map, hn]
 have kI := indexFuncO_nm (n := n) (l := L) (p := p) (ad := ad) (cap := cap) (g := f) (caps := []) (cin := []) (by omega) hn (fun x _ => (hs x).lend)
 refine Spec.body Tryz.func42 rfl rfl (Tryz.ntmps42) rfl fun w0 own0 M => ?_
 rcases idx_split p L 0 with ⟨h1, h2⟩ | ⟨i, x0, h1, h2, h3, h4⟩
 ·rw [h1] at kI
  repeat' (first | refine goH ?_ | refine goV ?_ | refine goB (fun b => ?_) | refine goI ?_ | (refine Cw.k_cond ?_; first | (refine Cw.cond_dec rfl ?_ ?_ <;> intro hc <;> try omega) | refine Cw.cond_bool rfl ?_ ?_ <;> intro hc) | (refine Ops.k_calla ?_; first | (refine Ops.k_callf 76 ?_; (refine Ops.call kI (Evs.cons rfl (Evs.cons rfl Evs.nil)) goPm rfl ?_; rintro r cs' ⟨rfl, rfl⟩))) | fail)
  rw [h2, ← hn]
  exact Fin.ret (Ent.take goTk) (Outs.one rfl rfl) ⟨rfl, rfl⟩
 rw [Int.zero_add] at h1
 rw [h1] at kI
 have hst := Dlt.start h2 h3 h4
 have hil := (List.getElem?_eq_some_iff.1 h2).1
 clear h1 h2 h3 h4
 repeat' (first | refine goH ?_ | refine goV ?_ | refine goB (fun b => ?_) | refine goI ?_ | (refine Cw.k_cond ?_; first | (refine Cw.cond_dec rfl ?_ ?_ <;> intro hc <;> try omega) | refine Cw.cond_bool rfl ?_ ?_ <;> intro hc) | (refine Ops.k_calla ?_; first | (refine Ops.k_callf 76 ?_; (refine Ops.call kI (Evs.cons rfl (Evs.cons rfl Evs.nil)) goPm rfl ?_; rintro r cs' ⟨rfl, rfl⟩))) | fail)
 refine Cw.own_form (List.Perm.refl _) (by omega) ?_
 rintro g rfl hcp hcm
 rw [hLr] at hcp
 clear kI
 refine Cw.loopI [(0, _), (1, _)] _ (fun q e cc => ∃ (j m : Nat) (W : List Nm), q = n - j ∧ (j ≤ n ∧ Dlt p L W m j) ∧ e = [(5, .int m), (6, .int j)] ∧ cc = [Chunk.own (some ⟨g, 0, none⟩) cap 2 50 (W.map Nm.row)]) ⟨_, _, _, (Ent.mkP goSub goPm), i + 1, i, L, rfl, ⟨by omega, hst⟩, rfl, rfl⟩ ?_
 clear hst hil
 rintro _ _ _ ⟨j, m, W, rfl, ⟨hj, hw⟩, rfl, rfl⟩
 have hWl : (W.map Nm.row).length = n := by rw [List.length_map, hw.len, hn]
 have hmlt := hw.lt
 by_cases hjn : j < n
 ·obtain ⟨x, hx⟩ := at_lt (l := L) (k := j) (by omega)
  have rx : (W.map Nm.row)[((j : Nat) : Int).toNat]? = some [.str x.key, .int x.many] := by rw [Int.toNat_natCast]; exact rows_at ((hw.at0 (Nat.le_refl _)).trans hx)
  have kp := hs x
  cases hp : p x
  ·have hw2 := hw.keep hx hp
   have hset : (W.map Nm.row).set m [.str x.key, .int x.many] = (W.set m x).map Nm.row := by rw [List.map_set] <;> rfl
   obtain ⟨c, hc⟩ := at_lt (l := W) (k := m) (by rw [hw.len]; omega)
   have rc : (W.map Nm.row)[((m : Nat) : Int).toNat]? = some (Nm.row c) := by rw [Int.toNat_natCast]; exact rows_at hc
   try simp only at rc
   rw [hp] at kp
   clear hx hw hc
   repeat' (first | refine goH ?_ | refine goV ?_ | refine goB (fun b => ?_) | refine goI ?_ | (refine Cw.k_cond ?_; first | (refine Cw.cond_dec rfl ?_ ?_ <;> intro hc <;> try omega) | refine Cw.cond_bool rfl ?_ ?_ <;> intro hc) | (refine Ops.k_calla ?_; first | refine Ops.callS_fn (caps := []) (args := [Tr.agg x.row]) rfl kp.lend (Evs.cons rfl Evs.nil) (List.Perm.refl _) rfl ?_) | fail)
   erw [hset]
   exact ⟨_, _, _, (Ent.mk goSub goTk), ⟨j + 1, m + 1, _, rfl, ⟨by omega, hw2⟩, rfl, rfl⟩, by omega⟩
  ·have hw2 := hw.drop hx hp
   rw [hp] at kp
   clear hx hw
   repeat' (first | refine goH ?_ | refine goV ?_ | refine goB (fun b => ?_) | refine goI ?_ | (refine Cw.k_cond ?_; first | (refine Cw.cond_dec rfl ?_ ?_ <;> intro hc <;> try omega) | refine Cw.cond_bool rfl ?_ ?_ <;> intro hc) | (refine Ops.k_calla ?_; first | refine Ops.callS_fn (caps := []) (args := [Tr.agg x.row]) rfl kp.lend (Evs.cons rfl Evs.nil) (List.Perm.refl _) rfl ?_) | fail)
   exact ⟨_, _, _, (Ent.mk goSub goTk), ⟨j + 1, m, W, rfl, ⟨by omega, hw2⟩, rfl, rfl⟩, by omega⟩
 have hje : j = n := by omega
 have hdone := hw.done
 have hm := hw.hm
 rw [hje, hn, List.take_length] at hdone hm
 clear hw
 repeat' (first | refine goH ?_ | (refine Ops.k_slice ?_; first | (refine Ops.sliceR_l rfl rfl (by omega) (by omega) rfl ?_)) | ((fail_if_success refine Ops.k_c_clear ?_); refine goV ?_) | ((fail_if_success refine Ops.k_c_clear ?_); refine goB (fun b => ?_)) | refine goI ?_ | (refine Cw.k_cond ?_; first | (refine Cw.cond_dec rfl ?_ ?_ <;> intro hc <;> try omega) | refine Cw.cond_bool rfl ?_ ?_ <;> intro hc) | fail)
 refine Ops.k_c_clear ?_
 refine Ops.clear_part (o := m) rfl (List.Perm.refl _) (by rw [Int.toNat_natCast, Nat.zero_add]; rfl) (by omega) (by omega) ?_
 rw [Int.toNat_natCast]
 have hz : ((W.map Nm.row).take m ++ List.replicate (n - m) (List.map Tr.raw [Value.string ByteArray.empty, Value.int .i64 0])).take m = (L.filter fun x => !p x).map Nm.row := by
  rw [List.take_append_of_le_length (by rw [List.length_take, hWl]; omega), List.take_take, Nat.min_self, ← List.map_take, hdone]
 have hzl : ((W.map Nm.row).take m ++ List.replicate (n - m) (List.map Tr.raw [Value.string ByteArray.empty, Value.int .i64 0])).length = n := by rw [List.length_append, List.length_take, hWl, List.length_replicate]; omega
 generalize (W.map Nm.row).take m ++ List.replicate (n - m) (List.map Tr.raw [Value.string ByteArray.empty, Value.int .i64 0]) = Z at *
 repeat' (first | refine goH ?_ | refine goV ?_ | refine goB (fun b => ?_) | refine goI ?_ | (refine Cw.k_cond ?_; first | (refine Cw.cond_dec rfl ?_ ?_ <;> intro hc <;> try omega) | refine Cw.cond_bool rfl ?_ ?_ <;> intro hc) | fail)
 rw [Int.toNat_natCast, hz, hm]
 exact Fin.ret (Ent.take goTk) (Outs.one rfl rfl) ⟨by rw [List.length_map], rfl⟩

end Lg
end
