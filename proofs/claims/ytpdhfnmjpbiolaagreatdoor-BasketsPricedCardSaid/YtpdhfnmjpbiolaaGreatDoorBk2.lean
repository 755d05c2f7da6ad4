/- A part of the proof of a law of this seat: it adds no condition. By an AI agent. -/
import Derived.Test.YtpdhfnmjpbiolaaGreatDoorSp6
section
set_option linter.all false
set_option maxRecDepth 100000
set_option maxHeartbeats 8000000
namespace Lg
open Go Go.Proofs

/-! ### wares -/
structure Wr where
  key : ByteArray
  price : Int
  group : ByteArray
def Wr.row (x : Wr) : List Tr := [.str x.key, .int x.price, .str x.group]
abbrev Tr.wrs (l : List Wr) : Tr := Tr.sl 3 (l.map Wr.row)
def ordWr : Option Wr → Wr → Bool
  | none, _ => false
  | some y, x => strLt x.key y.key || decide (x.key = y.key)
def wrX (p : Option Wr) (x : Wr) : Int := if isKey x.key = false then 5 else if isKey x.group = false then 5 else if ordWr p x = true then 7 else if x.price < 0 ∨ 100000 < x.price then 1 else 0
def prvO {α : Type} (l : List α) : Nat → Option α
  | 0 => none
  | j + 1 => l[j]?
def wrE (l : List Wr) (k : Nat) : Int := match l[k]? with
  | none => 0
  | some x => wrX (prvO l k) x
def waresE (l : List Wr) : Int := if l.length > 200 then 2 else firstE (wrE l) 0 l.length
structure WrF (E : Int) (x : Wr) (q1 q2 ob : Bool) (N : Int) : Prop where
  e5a : (!q1) = true → E = 5
  e5b : (!q1) = false → (!q2) = true → E = 5
  e7 : (!q1) = false → (!q2) = false → ob = true → E = 7
  e1 : (!q1) = false → (!q2) = false → ob = false → (x.price < 0 ∨ 100000 < x.price) → E = 1
  ok : (!q1) = false → (!q2) = false → ob = false → ¬ (x.price < 0 ∨ 100000 < x.price) → E = N
theorem wrF {l : List Wr} {k : Nat} {x : Wr} {p : Option Wr} {E : Int} (hx : l[k]? = some x) (hp : prvO l k = p) (hV : E = firstE (wrE l) k (l.length - k)) (hkl : k < l.length) : WrF E x (isKey x.key) (isKey x.group) (ordWr p x) (firstE (wrE l) (k + 1) (l.length - (k + 1))) := by
  have he : wrE l k = wrX p x := by unfold wrE; rw [hx, hp]
  have fin : ∀ c : Int, wrX p x = c → c ≠ 0 → E = c := fun c h1 h2 => hV.trans (firstE_bad hkl (he.trans h1) h2)
  have nxt : wrX p x = 0 → E = firstE (wrE l) (k + 1) (l.length - (k + 1)) := fun h1 => hV.trans (firstE_ok hkl (he.trans h1))
  clear hV he
  unfold wrX at fin nxt
  generalize ordWr p x = ob at *
  generalize isKey x.key = q1 at *
  generalize isKey x.group = q2 at *
  refine ⟨?_, ?_, ?_, ?_, ?_⟩
  · intro h; exact fin 5 (by rw [if_pos (by simpa using h)]) (by decide)
  · intro h h2; exact fin 5 (by rw [if_neg (by simpa using h), if_pos (by simpa using h2)]) (by decide)
  · intro h h2 h3; exact fin 7 (by rw [if_neg (by simpa using h), if_neg (by simpa using h2), if_pos h3]) (by decide)
  · intro h h2 h3 h4; exact fin 1 (by rw [if_neg (by simpa using h), if_neg (by simpa using h2), if_neg (by simp [h3]), if_pos h4]) (by decide)
  · intro h h2 h3 h4; exact nxt (by rw [if_neg (by simpa using h), if_neg (by simpa using h2), if_neg (by simp [h3]), if_neg h4])
theorem waresFault_fn (l : List Wr) (hl : l.length ≤ 1000000) : PFn Tryz.prog 25 [.wrs l] (· = .int (waresE l)) := by
  refine PFn.mk (Spec.body Tryz.func25 rfl rfl (Tryz.ntmps25) rfl fun w0 own0 M => ?_)
  have hL : (l.map Wr.row).length = l.length := List.length_map _
  by_cases h200 : l.length > 200
  · rw [show waresE l = 2 by unfold waresE; rw [if_pos h200]]
    repeat' (first | refine goH ?_ | refine goV ?_ | refine goB (fun b => ?_) | refine goG ?_ | (refine Ops.k_guard ?_; first | (refine Ops.guard_dec rfl rfl (fun hc => ?_) (fun hc => ?_) <;> try (exfalso; omega)) | refine Ops.guard_split rfl rfl (fun hc => ?_) (fun hc => ?_)) | refine goI ?_ | (refine Cw.k_cond ?_; first | (refine Cw.cond_dec rfl (fun hc => ?_) (fun hc => ?_) <;> try (exfalso; omega)) | refine Cw.cond_bool rfl (fun hc => ?_) (fun hc => ?_)) | refine goR ?_ | refine goP ?_ | apply PSeq.cons | apply PSeq.yes rfl rfl rfl | exact goW | fail)
    exact Fin.ret (Ent.take goTk) (Outs.one rfl rfl) ⟨rfl, rfl⟩
  have hV0 : waresE l = firstE (wrE l) 0 (l.length - 0) := by unfold waresE; rw [if_neg h200]; rfl
  generalize waresE l = E at *
  repeat' (first | refine goH ?_ | refine goV ?_ | refine goB (fun b => ?_) | refine goG ?_ | (refine Ops.k_guard ?_; first | (refine Ops.guard_dec rfl rfl (fun hc => ?_) (fun hc => ?_) <;> try (exfalso; omega)) | refine Ops.guard_split rfl rfl (fun hc => ?_) (fun hc => ?_)) | refine goI ?_ | (refine Cw.k_cond ?_; first | (refine Cw.cond_dec rfl (fun hc => ?_) (fun hc => ?_) <;> try (exfalso; omega)) | refine Cw.cond_bool rfl (fun hc => ?_) (fun hc => ?_)) | refine goR ?_ | refine goP ?_ | apply PSeq.cons | apply PSeq.yes rfl rfl rfl | exact goW | fail)
  refine Cw.loopI [(0, _), (8, _), (9, _)] _ (fun n e c => ∃ k : Nat, n = l.length - k ∧ (k ≤ l.length ∧ E = firstE (wrE l) k (l.length - k)) ∧ e = [(10, .int k)] ∧ c = []) ⟨_, _, _, (Ent.mkP goSub goPm), 0, rfl, ⟨by omega, hV0⟩, rfl, rfl⟩ ?_
  clear hV0
  rintro _ _ _ ⟨k, rfl, ⟨hk, hV⟩, rfl, rfl⟩
  by_cases hkl : k < l.length
  rotate_left
  · rw [firstE_end hkl] at hV
    subst hV
    repeat' (first | refine goH ?_ | refine goV ?_ | refine goB (fun b => ?_) | refine goG ?_ | (refine Ops.k_guard ?_; first | (refine Ops.guard_dec rfl rfl (fun hc => ?_) (fun hc => ?_) <;> try (exfalso; omega)) | refine Ops.guard_split rfl rfl (fun hc => ?_) (fun hc => ?_)) | refine goI ?_ | (refine Cw.k_cond ?_; first | (refine Cw.cond_dec rfl (fun hc => ?_) (fun hc => ?_) <;> try (exfalso; omega)) | refine Cw.cond_bool rfl (fun hc => ?_) (fun hc => ?_)) | refine goR ?_ | refine goP ?_ | apply PSeq.cons | apply PSeq.yes rfl rfl rfl | exact goW | fail)
    exact Fin.ret (Ent.take goTk) (Outs.one rfl rfl) ⟨rfl, rfl⟩
  obtain ⟨x, hx⟩ := at_lt hkl
  have hrow : (l.map Wr.row)[k]? = some [.str x.key, .int x.price, .str x.group] := rows_at hx
  have k1 := key_fn x.key
  have k2 := key_fn x.group
  have kO := out_fn x.price 0 100000
  by_cases hk0 : k = 0
  · have F := wrF (p := none) hx (by rw [hk0]; rfl) hV hkl
    rw [show ordWr none x = false from rfl] at F
    generalize isKey x.key = q1 at *
    generalize isKey x.group = q2 at *
    clear hV hx
    repeat' (first | refine goH ?_ | refine goV ?_ | refine goB (fun b => ?_) | refine goG ?_ | (refine Ops.k_guard ?_; first | (refine Ops.guard_dec rfl rfl (fun hc => ?_) (fun hc => ?_) <;> try (exfalso; omega)) | refine Ops.guard_split rfl rfl (fun hc => ?_) (fun hc => ?_)) | refine goI ?_ | (refine Cw.k_cond ?_; first | (refine Cw.cond_dec rfl (fun hc => ?_) (fun hc => ?_) <;> try (exfalso; omega)) | refine Cw.cond_bool rfl (fun hc => ?_) (fun hc => ?_)) | (refine Ops.k_calla ?_; first | (refine Ops.k_callf 26 ?_; refine Ops.callV k1 (Evs.cons rfl Evs.nil) rfl ?_) | (refine Ops.k_callf 26 ?_; refine Ops.callV k2 (Evs.cons rfl Evs.nil) rfl ?_) | (refine Ops.k_callf 28 ?_; refine Ops.callV kO (Evs.cons rfl (Evs.cons rfl (Evs.cons rfl Evs.nil))) rfl ?_)) | (apply OpW.k_call; first | (apply OpW.k_callf 26; exact OpW.callV k1 (Evs.cons rfl Evs.nil)) | (apply OpW.k_callf 26; exact OpW.callV k2 (Evs.cons rfl Evs.nil)) | (apply OpW.k_callf 28; exact OpW.callV kO (Evs.cons rfl (Evs.cons rfl (Evs.cons rfl Evs.nil))))) | refine goR ?_ | refine goP ?_ | apply PSeq.cons | apply PSeq.yes rfl rfl rfl | exact goW | fail)
    all_goals first
      | (exfalso; omega)
      | exact ⟨_, _, _, (Ent.mk goSub goTk), ⟨k + 1, rfl, ⟨by omega, F.ok (by assumption) (by assumption) rfl (by omega)⟩, rfl, rfl⟩, by omega⟩
      | (refine Fin.ret (Ent.take goTk) (Outs.one rfl rfl) ⟨rfl, ?_⟩; first | (rw [F.e5a (by assumption)]; done) | (rw [F.e5b (by assumption) (by assumption)]; done) | (rw [F.e1 (by assumption) (by assumption) rfl (by omega)]; done))
  obtain ⟨j, hj⟩ : ∃ j, k = j + 1 := ⟨k - 1, by omega⟩
  obtain ⟨y, hy⟩ := at_lt (l := l) (k := j) (by omega)
  have hrow2 : (l.map Wr.row)[((k : Int) - 1).toNat]? = some [.str y.key, .int y.price, .str y.group] := by rw [show ((k : Int) - 1).toNat = j by omega]; exact rows_at hy
  have F := wrF (p := some y) hx (by rw [hj]; exact hy) hV hkl
  rw [show ordWr (some y) x = (strLt x.key y.key || decide (x.key = y.key)) from rfl] at F
  generalize isKey x.key = q1 at *
  generalize isKey x.group = q2 at *
  clear hV hx hy
  repeat' (first | refine goH ?_ | refine goV ?_ | refine goB (fun b => ?_) | refine goG ?_ | (refine Ops.k_guard ?_; first | (refine Ops.guard_dec rfl rfl (fun hc => ?_) (fun hc => ?_) <;> try (exfalso; omega)) | refine Ops.guard_split rfl rfl (fun hc => ?_) (fun hc => ?_)) | refine goI ?_ | (refine Cw.k_cond ?_; first | (refine Cw.cond_dec rfl (fun hc => ?_) (fun hc => ?_) <;> try (exfalso; omega)) | refine Cw.cond_bool rfl (fun hc => ?_) (fun hc => ?_)) | (refine Ops.k_calla ?_; first | (refine Ops.k_callf 26 ?_; refine Ops.callV k1 (Evs.cons rfl Evs.nil) rfl ?_) | (refine Ops.k_callf 26 ?_; refine Ops.callV k2 (Evs.cons rfl Evs.nil) rfl ?_) | (refine Ops.k_callf 28 ?_; refine Ops.callV kO (Evs.cons rfl (Evs.cons rfl (Evs.cons rfl Evs.nil))) rfl ?_)) | (apply OpW.k_call; first | (apply OpW.k_callf 26; exact OpW.callV k1 (Evs.cons rfl Evs.nil)) | (apply OpW.k_callf 26; exact OpW.callV k2 (Evs.cons rfl Evs.nil)) | (apply OpW.k_callf 28; exact OpW.callV kO (Evs.cons rfl (Evs.cons rfl (Evs.cons rfl Evs.nil))))) | refine goR ?_ | refine goP ?_ | apply PSeq.cons | apply PSeq.yes rfl rfl rfl | exact goW | fail)
  all_goals first
    | (exfalso; omega)
    | exact ⟨_, _, _, (Ent.mk goSub goTk), ⟨k + 1, rfl, ⟨by omega, F.ok (by assumption) (by assumption) (by assumption) (by omega)⟩, rfl, rfl⟩, by omega⟩
    | (refine Fin.ret (Ent.take goTk) (Outs.one rfl rfl) ⟨rfl, ?_⟩; first | (rw [F.e5a (by assumption)]; done) | (rw [F.e5b (by assumption) (by assumption)]; done) | (rw [F.e7 (by assumption) (by assumption) (by assumption)]; done) | (rw [F.e1 (by assumption) (by assumption) (by assumption) (by omega)]; done))
theorem waresFaultR_fn (l : List Wr) (hl : l.length ≤ 1000000) : PFn Tryz.prog 20 [.wrs l] (· = .int (waresE l)) := by
  refine PFn.mk (Spec.body Tryz.func20 rfl rfl (Tryz.ntmps20) rfl fun w0 own0 M => ?_)
  have hL : (l.map Wr.row).length = l.length := List.length_map _
  by_cases h200 : l.length > 200
  · rw [show waresE l = 2 by unfold waresE; rw [if_pos h200]]
    repeat' (first | refine goH ?_ | refine goV ?_ | refine goB (fun b => ?_) | refine goG ?_ | (refine Ops.k_guard ?_; first | (refine Ops.guard_dec rfl rfl (fun hc => ?_) (fun hc => ?_) <;> try (exfalso; omega)) | refine Ops.guard_split rfl rfl (fun hc => ?_) (fun hc => ?_)) | refine goI ?_ | (refine Cw.k_cond ?_; first | (refine Cw.cond_dec rfl (fun hc => ?_) (fun hc => ?_) <;> try (exfalso; omega)) | refine Cw.cond_bool rfl (fun hc => ?_) (fun hc => ?_)) | refine goR ?_ | refine goP ?_ | apply PSeq.cons | apply PSeq.yes rfl rfl rfl | exact goW | fail)
    exact Fin.ret (Ent.take goTk) (Outs.one rfl rfl) ⟨rfl, rfl⟩
  have hV0 : waresE l = firstE (wrE l) 0 (l.length - 0) := by unfold waresE; rw [if_neg h200]; rfl
  generalize waresE l = E at *
  repeat' (first | refine goH ?_ | refine goV ?_ | refine goB (fun b => ?_) | refine goG ?_ | (refine Ops.k_guard ?_; first | (refine Ops.guard_dec rfl rfl (fun hc => ?_) (fun hc => ?_) <;> try (exfalso; omega)) | refine Ops.guard_split rfl rfl (fun hc => ?_) (fun hc => ?_)) | refine goI ?_ | (refine Cw.k_cond ?_; first | (refine Cw.cond_dec rfl (fun hc => ?_) (fun hc => ?_) <;> try (exfalso; omega)) | refine Cw.cond_bool rfl (fun hc => ?_) (fun hc => ?_)) | refine goR ?_ | refine goP ?_ | apply PSeq.cons | apply PSeq.yes rfl rfl rfl | exact goW | fail)
  refine Cw.loopI [(0, _), (8, _), (9, _)] _ (fun n e c => ∃ k : Nat, n = l.length - k ∧ (k ≤ l.length ∧ E = firstE (wrE l) k (l.length - k)) ∧ e = [(10, .int k)] ∧ c = []) ⟨_, _, _, (Ent.mkP goSub goPm), 0, rfl, ⟨by omega, hV0⟩, rfl, rfl⟩ ?_
  clear hV0
  rintro _ _ _ ⟨k, rfl, ⟨hk, hV⟩, rfl, rfl⟩
  by_cases hkl : k < l.length
  rotate_left
  · rw [firstE_end hkl] at hV
    subst hV
    repeat' (first | refine goH ?_ | refine goV ?_ | refine goB (fun b => ?_) | refine goG ?_ | (refine Ops.k_guard ?_; first | (refine Ops.guard_dec rfl rfl (fun hc => ?_) (fun hc => ?_) <;> try (exfalso; omega)) | refine Ops.guard_split rfl rfl (fun hc => ?_) (fun hc => ?_)) | refine goI ?_ | (refine Cw.k_cond ?_; first | (refine Cw.cond_dec rfl (fun hc => ?_) (fun hc => ?_) <;> try (exfalso; omega)) | refine Cw.cond_bool rfl (fun hc => ?_) (fun hc => ?_)) | refine goR ?_ | refine goP ?_ | apply PSeq.cons | apply PSeq.yes rfl rfl rfl | exact goW | fail)
    exact Fin.ret (Ent.take goTk) (Outs.one rfl rfl) ⟨rfl, rfl⟩
  obtain ⟨x, hx⟩ := at_lt hkl
  have hrow : (l.map Wr.row)[k]? = some [.str x.key, .int x.price, .str x.group] := rows_at hx
  have k1 := keyOf_fn x.key
  have k2 := keyOf_fn x.group
  have kO := out_fn x.price 0 100000
  by_cases hk0 : k = 0
  · have F := wrF (p := none) hx (by rw [hk0]; rfl) hV hkl
    rw [show ordWr none x = false from rfl] at F
    generalize isKey x.key = q1 at *
    generalize isKey x.group = q2 at *
    clear hV hx
    repeat' (first | refine goH ?_ | refine goV ?_ | refine goB (fun b => ?_) | refine goG ?_ | (refine Ops.k_guard ?_; first | (refine Ops.guard_dec rfl rfl (fun hc => ?_) (fun hc => ?_) <;> try (exfalso; omega)) | refine Ops.guard_split rfl rfl (fun hc => ?_) (fun hc => ?_)) | refine goI ?_ | (refine Cw.k_cond ?_; first | (refine Cw.cond_dec rfl (fun hc => ?_) (fun hc => ?_) <;> try (exfalso; omega)) | refine Cw.cond_bool rfl (fun hc => ?_) (fun hc => ?_)) | (refine Ops.k_calla ?_; first | (refine Ops.k_callf 21 ?_; refine Ops.callV k1 (Evs.cons rfl Evs.nil) rfl ?_) | (refine Ops.k_callf 21 ?_; refine Ops.callV k2 (Evs.cons rfl Evs.nil) rfl ?_) | (refine Ops.k_callf 28 ?_; refine Ops.callV kO (Evs.cons rfl (Evs.cons rfl (Evs.cons rfl Evs.nil))) rfl ?_)) | (apply OpW.k_call; first | (apply OpW.k_callf 21; exact OpW.callV k1 (Evs.cons rfl Evs.nil)) | (apply OpW.k_callf 21; exact OpW.callV k2 (Evs.cons rfl Evs.nil)) | (apply OpW.k_callf 28; exact OpW.callV kO (Evs.cons rfl (Evs.cons rfl (Evs.cons rfl Evs.nil))))) | refine goR ?_ | refine goP ?_ | apply PSeq.cons | apply PSeq.yes rfl rfl rfl | exact goW | fail)
    all_goals first
      | (exfalso; omega)
      | exact ⟨_, _, _, (Ent.mk goSub goTk), ⟨k + 1, rfl, ⟨by omega, F.ok (by assumption) (by assumption) rfl (by omega)⟩, rfl, rfl⟩, by omega⟩
      | (refine Fin.ret (Ent.take goTk) (Outs.one rfl rfl) ⟨rfl, ?_⟩; first | (rw [F.e5a (by assumption)]; done) | (rw [F.e5b (by assumption) (by assumption)]; done) | (rw [F.e1 (by assumption) (by assumption) rfl (by omega)]; done))
  obtain ⟨j, hj⟩ : ∃ j, k = j + 1 := ⟨k - 1, by omega⟩
  obtain ⟨y, hy⟩ := at_lt (l := l) (k := j) (by omega)
  have hrow2 : (l.map Wr.row)[((k : Int) - 1).toNat]? = some [.str y.key, .int y.price, .str y.group] := by rw [show ((k : Int) - 1).toNat = j by omega]; exact rows_at hy
  have F := wrF (p := some y) hx (by rw [hj]; exact hy) hV hkl
  rw [show ordWr (some y) x = (strLt x.key y.key || decide (x.key = y.key)) from rfl] at F
  generalize isKey x.key = q1 at *
  generalize isKey x.group = q2 at *
  clear hV hx hy
  repeat' (first | refine goH ?_ | refine goV ?_ | refine goB (fun b => ?_) | refine goG ?_ | (refine Ops.k_guard ?_; first | (refine Ops.guard_dec rfl rfl (fun hc => ?_) (fun hc => ?_) <;> try (exfalso; omega)) | refine Ops.guard_split rfl rfl (fun hc => ?_) (fun hc => ?_)) | refine goI ?_ | (refine Cw.k_cond ?_; first | (refine Cw.cond_dec rfl (fun hc => ?_) (fun hc => ?_) <;> try (exfalso; omega)) | refine Cw.cond_bool rfl (fun hc => ?_) (fun hc => ?_)) | (refine Ops.k_calla ?_; first | (refine Ops.k_callf 21 ?_; refine Ops.callV k1 (Evs.cons rfl Evs.nil) rfl ?_) | (refine Ops.k_callf 21 ?_; refine Ops.callV k2 (Evs.cons rfl Evs.nil) rfl ?_) | (refine Ops.k_callf 28 ?_; refine Ops.callV kO (Evs.cons rfl (Evs.cons rfl (Evs.cons rfl Evs.nil))) rfl ?_)) | (apply OpW.k_call; first | (apply OpW.k_callf 21; exact OpW.callV k1 (Evs.cons rfl Evs.nil)) | (apply OpW.k_callf 21; exact OpW.callV k2 (Evs.cons rfl Evs.nil)) | (apply OpW.k_callf 28; exact OpW.callV kO (Evs.cons rfl (Evs.cons rfl (Evs.cons rfl Evs.nil))))) | refine goR ?_ | refine goP ?_ | apply PSeq.cons | apply PSeq.yes rfl rfl rfl | exact goW | fail)
  all_goals first
    | (exfalso; omega)
    | exact ⟨_, _, _, (Ent.mk goSub goTk), ⟨k + 1, rfl, ⟨by omega, F.ok (by assumption) (by assumption) (by assumption) (by omega)⟩, rfl, rfl⟩, by omega⟩
    | (refine Fin.ret (Ent.take goTk) (Outs.one rfl rfl) ⟨rfl, ?_⟩; first | (rw [F.e5a (by assumption)]; done) | (rw [F.e5b (by assumption) (by assumption)]; done) | (rw [F.e7 (by assumption) (by assumption) (by assumption)]; done) | (rw [F.e1 (by assumption) (by assumption) (by assumption) (by omega)]; done))
end Lg
end
section
set_option linter.all false
set_option maxRecDepth 100000
set_option maxHeartbeats 8000000
namespace Lg
open Go Go.Proofs

/-! ### a ware by its key; baskets -/
theorem indexFunc_wr {l : List Wr} {p : Wr → Bool} {g : Nat} {caps : List Value} {cin : List Chunk} (hl : l.length ≤ 1000000000)
    (hs : ∀ x, x ∈ l → Spec Tryz.prog g ([Tr.agg x.row] ++ caps.map Tr.raw) cin (fun r cs => r = Tr.bool (p x) ∧ cs = cin)) :
    Spec Tryz.prog 42 [Tr.sl 3 (l.map Wr.row), Tr.raw (.func (.func g) #[] caps.toArray)] cin (fun r cs => r = Tr.int (idxFrom p l 0) ∧ cs = cin) := by
  refine Spec.body Tryz.func42 rfl rfl (Tryz.ntmps42) rfl fun w0 own0 M => ?_
  have hL : (l.map Wr.row).length = l.length := List.length_map _
  repeat' (first | refine goH ?_ | refine goV ?_ | refine goI ?_ | (refine Cw.k_cond ?_; first | (refine Cw.cond_dec rfl (fun hc => ?_) (fun hc => ?_) <;> try (exfalso; omega)) | refine Cw.cond_bool rfl (fun hc => ?_) (fun hc => ?_)) | fail)
  refine Cw.loop (ι := Nat) (fun k => k ≤ l.length ∧ idxFrom p l 0 = idxFrom p (l.drop k) k) (fun k => [(0, Tr.sl 3 (l.map Wr.row)), (1, Tr.raw (.func (.func g) #[] caps.toArray)), (7, .int (l.map Wr.row).length), (8, .int k)]) (fun _ => cin) (fun k => l.length - k) ⟨0, ⟨by omega, rfl⟩, Ent.sub goSub⟩ ?_
  rintro k ⟨hk, hgo⟩
  by_cases hkl : k < l.length
  · obtain ⟨x, hx⟩ : ∃ x, l[k]? = some x := ⟨_, List.getElem?_eq_getElem hkl⟩
    have hrow : (l.map Wr.row)[k]? = some [.str x.key, .int x.price, .str x.group] := rows_at hx
    have hdrop := idxFrom_drop p hx
    rw [hdrop] at hgo
    have hsx := hs x (List.mem_of_getElem? hx)
    by_cases hp : p x = true
    · rw [if_pos hp] at hgo
      rw [hp] at hsx
      repeat' (first | refine goH ?_ | refine goV ?_ | refine goI ?_ | (refine Cw.k_cond ?_; first | (refine Cw.cond_dec rfl (fun hc => ?_) (fun hc => ?_) <;> try (exfalso; omega)) | refine Cw.cond_bool rfl (fun hc => ?_) (fun hc => ?_)) | (refine Ops.k_calla ?_; first | (refine Ops.call_fn rfl hsx (Evs.cons rfl Evs.nil) (by rw [List.append_nil]) rfl ?_; rintro r cs' ⟨rfl, hcs⟩; rw [hcs, List.append_nil])) | fail)
      exact Fin.ret Ent.refl (Outs.one rfl rfl) ⟨by rw [hgo], rfl⟩
    · rw [if_neg hp] at hgo
      rw [Bool.not_eq_true] at hp
      rw [hp] at hsx
      repeat' (first | refine goH ?_ | refine goV ?_ | refine goI ?_ | (refine Cw.k_cond ?_; first | (refine Cw.cond_dec rfl (fun hc => ?_) (fun hc => ?_) <;> try (exfalso; omega)) | refine Cw.cond_bool rfl (fun hc => ?_) (fun hc => ?_)) | (refine Ops.k_calla ?_; first | (refine Ops.call_fn rfl hsx (Evs.cons rfl Evs.nil) (by rw [List.append_nil]) rfl ?_; rintro r cs' ⟨rfl, hcs⟩; rw [hcs, List.append_nil])) | fail)
      exact ⟨k + 1, ⟨by omega, hgo⟩, by omega, Ent.sub goSub⟩
  · rw [List.drop_eq_nil_of_le (by omega), idxFrom] at hgo
    repeat' (first | refine goH ?_ | refine goV ?_ | refine goI ?_ | (refine Cw.k_cond ?_; first | (refine Cw.cond_dec rfl (fun hc => ?_) (fun hc => ?_) <;> try (exfalso; omega)) | refine Cw.cond_bool rfl (fun hc => ?_) (fun hc => ?_)) | fail)
    exact Fin.ret Ent.refl (Outs.one rfl rfl) ⟨by rw [hgo], rfl⟩


def wrF1 (l : List Wr) (k : ByteArray) : Option Wr := l.find? (fun x => decide (x.key = k))
def wrIx (l : List Wr) (k : ByteArray) : Int := idxFrom (fun x : Wr => decide (x.key = k)) l 0
def wrD (l : List Wr) (k : ByteArray) : Wr := (wrF1 l k).getD ⟨⟨#[]⟩, 0, ⟨#[]⟩⟩
theorem wrIx_none {l : List Wr} {k : ByteArray} (h : wrF1 l k = none) : wrIx l k = -1 := (idxFrom_find _ l 0).1 h
theorem wrIx_some {l : List Wr} {k : ByteArray} {x : Wr} (h : wrF1 l k = some x) : ∃ j : Nat, wrIx l k = j ∧ l[j]? = some x := by
  obtain ⟨j, h1, h2⟩ := (idxFrom_find _ l 0).2 x h
  exact ⟨j, by unfold wrIx; omega, h2⟩
theorem wrIx_neg {l : List Wr} {k : ByteArray} : decide (wrIx l k < 0) = (wrF1 l k).isNone := by
  cases h : wrF1 l k with
  | none => rw [wrIx_none h]; rfl
  | some x => obtain ⟨j, h1, _⟩ := wrIx_some h; rw [h1]; simp
theorem ware1_fn (x : Wr) (b E : Nat) (k : ByteArray) : Spec Tryz.prog 43 [.agg x.row, .ptr b] [Chunk.box b E [.str k]] (fun r cs => r = .bool (decide (x.key = k)) ∧ cs = [Chunk.box b E [.str k]]) := by
  refine Spec.body Tryz.func43 rfl rfl (Tryz.ntmps43) rfl fun w0 own0 M => ?_
  unfold Wr.row
  repeat' (first | refine goH ?_ | refine goV ?_ | refine goB (fun b => ?_) | refine goI ?_ | (refine Cw.k_cond ?_; first | (refine Cw.cond_dec rfl (fun hc => ?_) (fun hc => ?_) <;> try (exfalso; omega)) | refine Cw.cond_bool rfl (fun hc => ?_) (fun hc => ?_)) | fail)
  exact Fin.ret (Ent.take goTk) (Outs.one rfl rfl) ⟨rfl, rfl⟩
theorem ware_fn (l : List Wr) (hl : l.length ≤ 1000000) (k : ByteArray) : PFn Tryz.prog 29 [.wrs l, .str k] (· = .int (wrIx l k)) := by
  have kk := fun b E => indexFunc_wr (cin := [Chunk.box b E [.str k]]) (caps := [.pointer (some ⟨b, 0, none⟩)]) (g := 43) (p := fun x => decide (x.key = k)) (l := l) (by omega) (fun x _ => ware1_fn x b E k)
  refine PFn.mk (Spec.body Tryz.func29 rfl rfl (Tryz.ntmps29) rfl fun w0 own0 M => ?_)
  repeat' (first | refine goH ?_ | refine goV ?_ | refine goB (fun b => ?_) | refine goI ?_ | (refine Cw.k_cond ?_; first | (refine Cw.cond_dec rfl (fun hc => ?_) (fun hc => ?_) <;> try (exfalso; omega)) | refine Cw.cond_bool rfl (fun hc => ?_) (fun hc => ?_)) | (refine Ops.k_calla ?_; first | (refine Ops.k_callf 42 ?_; refine Ops.callS (kk _ _) (Evs.cons rfl (Evs.cons rfl Evs.nil)) goPk rfl ?_)) | fail)
  exact Fin.ret (Ent.take goTk) (Outs.one rfl rfl) ⟨rfl, rfl⟩
theorem wareOf_fn (l : List Wr) (hl : l.length ≤ 1000000) (id : ByteArray) : PFn Tryz.prog 24 [.wrs l, .str id] (· = .tup [.agg (wrD l id).row, .bool (wrF1 l id).isSome]) := by
  refine PFn.mk (Spec.body Tryz.func24 rfl rfl (Tryz.ntmps24) rfl fun w0 own0 M => ?_)
  have hL : (l.map Wr.row).length = l.length := List.length_map _
  repeat' (first | refine goH ?_ | refine goV ?_ | refine goB (fun b => ?_) | refine goI ?_ | (refine Cw.k_cond ?_; first | (refine Cw.cond_dec rfl (fun hc => ?_) (fun hc => ?_) <;> try (exfalso; omega)) | refine Cw.cond_bool rfl (fun hc => ?_) (fun hc => ?_)) | fail)
  refine Cw.loopI [(1, _), (4, _), (8, _), (9, _)] _ (fun n e c => ∃ k : Nat, n = l.length - k ∧ (k ≤ l.length ∧ wrF1 l id = wrF1 (l.drop k) id) ∧ e = [(10, .int k)] ∧ c = []) ⟨_, _, _, (Ent.mkP goSub goPm), 0, rfl, ⟨by omega, by simp⟩, rfl, rfl⟩ ?_
  rintro _ _ _ ⟨k, rfl, ⟨hk, hV⟩, rfl, rfl⟩
  by_cases hkl : k < l.length
  · obtain ⟨x, hx⟩ := at_lt hkl
    have hrow : (l.map Wr.row)[k]? = some [.str x.key, .int x.price, .str x.group] := rows_at hx
    rw [drop_at hx] at hV
    by_cases he : x.key = id
    · have hf : wrF1 l id = some x := by rw [hV]; unfold wrF1; exact List.find?_cons_of_pos (decide_eq_true he)
      repeat' (first | refine goH ?_ | refine goV ?_ | refine goB (fun b => ?_) | refine goI ?_ | (refine Cw.k_cond ?_; first | (refine Cw.cond_dec rfl (fun hc => ?_) (fun hc => ?_) <;> try (exfalso; omega)) | refine Cw.cond_bool rfl (fun hc => ?_) (fun hc => ?_)) | fail)
      refine Fin.ret (Ent.trans (Ent.setbox (s := 4) rfl goPk) (Ent.take goTk)) (Outs.many rfl (OutL.cons goOe (OutL.cons goOe OutL.nil)) rfl) ⟨rfl, ?_⟩
      unfold wrD
      rw [hf]
      rfl
    · have hf : wrF1 l id = wrF1 (l.drop (k + 1)) id := by rw [hV]; unfold wrF1; exact List.find?_cons_of_neg (by simpa using he)
      repeat' (first | refine goH ?_ | refine goV ?_ | refine goB (fun b => ?_) | refine goI ?_ | (refine Cw.k_cond ?_; first | (refine Cw.cond_dec rfl (fun hc => ?_) (fun hc => ?_) <;> try (exfalso; omega)) | refine Cw.cond_bool rfl (fun hc => ?_) (fun hc => ?_)) | fail)
      exact ⟨_, _, _, (Ent.mk goSub goTk), ⟨_, rfl, ⟨by omega, hf⟩, rfl, rfl⟩, by omega⟩
  · rw [List.drop_eq_nil_of_le (by omega)] at hV
    repeat' (first | refine goH ?_ | refine goV ?_ | refine goB (fun b => ?_) | refine goI ?_ | (refine Cw.k_cond ?_; first | (refine Cw.cond_dec rfl (fun hc => ?_) (fun hc => ?_) <;> try (exfalso; omega)) | refine Cw.cond_bool rfl (fun hc => ?_) (fun hc => ?_)) | fail)
    refine Fin.ret (Ent.trans (Ent.setbox (s := 4) rfl goPk) (Ent.take goTk)) (Outs.many rfl (OutL.cons goOe (OutL.cons goOe OutL.nil)) rfl) ⟨rfl, ?_⟩
    unfold wrD
    rw [hV]
    rfl

/-! ### baskets -/
def ordNm : Option Nm → Nm → Bool
  | none, _ => false
  | some y, x => strLt x.key y.key || decide (x.key = y.key)
def bkX (w : List Wr) (p : Option Nm) (x : Nm) : Int := if (wrF1 w x.key).isNone = true then 8 else if ordNm p x = true then 7 else if x.many < 1 ∨ 100 < x.many then 1 else 0
def bkE (w : List Wr) (l : List Nm) (k : Nat) : Int := match l[k]? with
  | none => 0
  | some x => bkX w (prvO l k) x
def bskE (w : List Wr) (l : List Nm) : Int := if waresE w ≠ 0 then waresE w else if l.length > 100 then 2 else firstE (bkE w l) 0 l.length
structure BkF (E : Int) (x : Nm) (q1 ob : Bool) (N : Int) : Prop where
  e8 : q1 = true → E = 8
  e7 : q1 = false → ob = true → E = 7
  e1 : q1 = false → ob = false → (x.many < 1 ∨ 100 < x.many) → E = 1
  ok : q1 = false → ob = false → ¬ (x.many < 1 ∨ 100 < x.many) → E = N
theorem bkF {w : List Wr} {l : List Nm} {k : Nat} {x : Nm} {p : Option Nm} {E : Int} (hx : l[k]? = some x) (hp : prvO l k = p) (hV : E = firstE (bkE w l) k (l.length - k)) (hkl : k < l.length) : BkF E x (wrF1 w x.key).isNone (ordNm p x) (firstE (bkE w l) (k + 1) (l.length - (k + 1))) := by
  have he : bkE w l k = bkX w p x := by unfold bkE; rw [hx, hp]
  have fin : ∀ c : Int, bkX w p x = c → c ≠ 0 → E = c := fun c h1 h2 => hV.trans (firstE_bad hkl (he.trans h1) h2)
  have nxt : bkX w p x = 0 → E = firstE (bkE w l) (k + 1) (l.length - (k + 1)) := fun h1 => hV.trans (firstE_ok hkl (he.trans h1))
  clear hV he
  unfold bkX at fin nxt
  generalize ordNm p x = ob at *
  generalize (wrF1 w x.key).isNone = q1 at *
  refine ⟨?_, ?_, ?_, ?_⟩
  · intro h; exact fin 8 (by rw [if_pos h]) (by decide)
  · intro h h2; exact fin 7 (by rw [if_neg (by simp [h]), if_pos h2]) (by decide)
  · intro h h2 h3; exact fin 1 (by rw [if_neg (by simp [h]), if_neg (by simp [h2]), if_pos h3]) (by decide)
  · intro h h2 h3; exact nxt (by rw [if_neg (by simp [h]), if_neg (by simp [h2]), if_neg h3])
theorem isSome_not {α : Type} (o : Option α) : (!o.isSome) = o.isNone := by cases o <;> rfl
theorem checkBasket_fn (w : List Wr) (l : List Nm) (hw : w.length ≤ 1000000) (hl : l.length ≤ 1000000) : PFn Tryz.prog 10 [.wrs w, .nms l] (· = .int (bskE w l)) := by
  have k0 := waresFault_fn w hw
  refine PFn.mk (Spec.body Tryz.func10 rfl rfl (Tryz.ntmps10) rfl fun w0 own0 M => ?_)
  have hL : (l.map Nm.row).length = l.length := List.length_map _
  by_cases hw0 : waresE w ≠ 0
  · rw [show bskE w l = waresE w by unfold bskE; rw [if_pos hw0]]
    generalize waresE w = z at *
    repeat' (first | refine goH ?_ | refine goV ?_ | refine goB (fun b => ?_) | refine goG ?_ | (refine Ops.k_guard ?_; first | (refine Ops.guard_dec rfl rfl (fun hc => ?_) (fun hc => ?_) <;> try (exfalso; omega)) | refine Ops.guard_split rfl rfl (fun hc => ?_) (fun hc => ?_)) | refine goI ?_ | (refine Cw.k_cond ?_; first | (refine Cw.cond_dec rfl (fun hc => ?_) (fun hc => ?_) <;> try (exfalso; omega)) | refine Cw.cond_bool rfl (fun hc => ?_) (fun hc => ?_)) | (refine Ops.k_calla ?_; first | (refine Ops.k_callf 25 ?_; refine Ops.callV k0 (Evs.cons rfl Evs.nil) rfl ?_)) | (apply OpW.k_call; first | (apply OpW.k_callf 25; exact OpW.callV k0 (Evs.cons rfl Evs.nil))) | refine goR ?_ | refine goP ?_ | apply PSeq.cons | apply PSeq.yes rfl rfl rfl | exact goW | fail)
    exact Fin.ret (Ent.take goTk) (Outs.one rfl rfl) ⟨rfl, rfl⟩
  rw [show waresE w = 0 by omega] at k0
  by_cases h200 : l.length > 100
  · rw [show bskE w l = 2 by unfold bskE; rw [if_neg hw0, if_pos h200]]
    repeat' (first | refine goH ?_ | refine goV ?_ | refine goB (fun b => ?_) | refine goG ?_ | (refine Ops.k_guard ?_; first | (refine Ops.guard_dec rfl rfl (fun hc => ?_) (fun hc => ?_) <;> try (exfalso; omega)) | refine Ops.guard_split rfl rfl (fun hc => ?_) (fun hc => ?_)) | refine goI ?_ | (refine Cw.k_cond ?_; first | (refine Cw.cond_dec rfl (fun hc => ?_) (fun hc => ?_) <;> try (exfalso; omega)) | refine Cw.cond_bool rfl (fun hc => ?_) (fun hc => ?_)) | (refine Ops.k_calla ?_; first | (refine Ops.k_callf 25 ?_; refine Ops.callV k0 (Evs.cons rfl Evs.nil) rfl ?_)) | (apply OpW.k_call; first | (apply OpW.k_callf 25; exact OpW.callV k0 (Evs.cons rfl Evs.nil))) | refine goR ?_ | refine goP ?_ | apply PSeq.cons | apply PSeq.yes rfl rfl rfl | exact goW | fail)
    exact Fin.ret (Ent.take goTk) (Outs.one rfl rfl) ⟨rfl, rfl⟩
  have hV0 : bskE w l = firstE (bkE w l) 0 (l.length - 0) := by unfold bskE; rw [if_neg hw0, if_neg h200]; rfl
  generalize bskE w l = E at *
  repeat' (first | refine goH ?_ | refine goV ?_ | refine goB (fun b => ?_) | refine goG ?_ | (refine Ops.k_guard ?_; first | (refine Ops.guard_dec rfl rfl (fun hc => ?_) (fun hc => ?_) <;> try (exfalso; omega)) | refine Ops.guard_split rfl rfl (fun hc => ?_) (fun hc => ?_)) | refine goI ?_ | (refine Cw.k_cond ?_; first | (refine Cw.cond_dec rfl (fun hc => ?_) (fun hc => ?_) <;> try (exfalso; omega)) | refine Cw.cond_bool rfl (fun hc => ?_) (fun hc => ?_)) | (refine Ops.k_calla ?_; first | (refine Ops.k_callf 25 ?_; refine Ops.callV k0 (Evs.cons rfl Evs.nil) rfl ?_)) | (apply OpW.k_call; first | (apply OpW.k_callf 25; exact OpW.callV k0 (Evs.cons rfl Evs.nil))) | refine goR ?_ | refine goP ?_ | apply PSeq.cons | apply PSeq.yes rfl rfl rfl | exact goW | fail)
  clear k0
  refine Cw.loopI [(0, _), (1, _), (16, _), (17, _)] _ (fun n e c => ∃ k : Nat, n = l.length - k ∧ (k ≤ l.length ∧ E = firstE (bkE w l) k (l.length - k)) ∧ e = [(18, .int k)] ∧ c = []) ⟨_, _, _, (Ent.mkP goSub goPm), 0, rfl, ⟨by omega, hV0⟩, rfl, rfl⟩ ?_
  clear hV0
  rintro _ _ _ ⟨k, rfl, ⟨hk, hV⟩, rfl, rfl⟩
  by_cases hkl : k < l.length
  rotate_left
  · rw [firstE_end hkl] at hV
    subst hV
    repeat' (first | refine goH ?_ | refine goV ?_ | refine goB (fun b => ?_) | refine goG ?_ | (refine Ops.k_guard ?_; first | (refine Ops.guard_dec rfl rfl (fun hc => ?_) (fun hc => ?_) <;> try (exfalso; omega)) | refine Ops.guard_split rfl rfl (fun hc => ?_) (fun hc => ?_)) | refine goI ?_ | (refine Cw.k_cond ?_; first | (refine Cw.cond_dec rfl (fun hc => ?_) (fun hc => ?_) <;> try (exfalso; omega)) | refine Cw.cond_bool rfl (fun hc => ?_) (fun hc => ?_)) | refine goR ?_ | refine goP ?_ | apply PSeq.cons | apply PSeq.yes rfl rfl rfl | exact goW | fail)
    exact Fin.ret (Ent.take goTk) (Outs.one rfl rfl) ⟨rfl, rfl⟩
  obtain ⟨x, hx⟩ := at_lt hkl
  have hrow : (l.map Nm.row)[k]? = some [.str x.key, .int x.many] := rows_at hx
  have k1 := ware_fn w hw x.key
  have kO := out_fn x.many 1 100
  have hneg := wrIx_neg (l := w) (k := x.key)
  by_cases hk0 : k = 0
  · have F := bkF (w := w) (p := none) hx (by rw [hk0]; rfl) hV hkl
    rw [show ordNm none x = false from rfl] at F
    rw [← hneg] at F
    generalize wrIx w x.key = q1 at *
    clear hV hx hneg
    repeat' (first | refine goH ?_ | refine goV ?_ | refine goB (fun b => ?_) | refine goG ?_ | (refine Ops.k_guard ?_; first | (refine Ops.guard_dec rfl rfl (fun hc => ?_) (fun hc => ?_) <;> try (exfalso; omega)) | refine Ops.guard_split rfl rfl (fun hc => ?_) (fun hc => ?_)) | refine goI ?_ | (refine Cw.k_cond ?_; first | (refine Cw.cond_dec rfl (fun hc => ?_) (fun hc => ?_) <;> try (exfalso; omega)) | refine Cw.cond_bool rfl (fun hc => ?_) (fun hc => ?_)) | (refine Ops.k_calla ?_; first | (refine Ops.k_callf 29 ?_; refine Ops.callV k1 (Evs.cons rfl (Evs.cons rfl Evs.nil)) rfl ?_) | (refine Ops.k_callf 28 ?_; refine Ops.callV kO (Evs.cons rfl (Evs.cons rfl (Evs.cons rfl Evs.nil))) rfl ?_)) | (apply OpW.k_call; first | (apply OpW.k_callf 29; exact OpW.callV k1 (Evs.cons rfl (Evs.cons rfl Evs.nil))) | (apply OpW.k_callf 28; exact OpW.callV kO (Evs.cons rfl (Evs.cons rfl (Evs.cons rfl Evs.nil))))) | refine goR ?_ | refine goP ?_ | apply PSeq.cons | apply PSeq.yes rfl rfl rfl | exact goW | fail)
    all_goals first
      | (exfalso; omega)
      | exact ⟨_, _, _, (Ent.mk goSub goTk), ⟨k + 1, rfl, ⟨by omega, F.ok (decide_eq_false (by assumption)) rfl (by omega)⟩, rfl, rfl⟩, by omega⟩
      | (refine Fin.ret (Ent.take goTk) (Outs.one rfl rfl) ⟨rfl, ?_⟩; first | (rw [F.e8 (decide_eq_true (by assumption))]; done) | (rw [F.e1 (decide_eq_false (by assumption)) rfl (by omega)]; done))
  obtain ⟨j, hj⟩ : ∃ j, k = j + 1 := ⟨k - 1, by omega⟩
  obtain ⟨y, hy⟩ := at_lt (l := l) (k := j) (by omega)
  have hrow2 : (l.map Nm.row)[((k : Int) - 1).toNat]? = some [.str y.key, .int y.many] := by rw [show ((k : Int) - 1).toNat = j by omega]; exact rows_at hy
  have F := bkF (w := w) (p := some y) hx (by rw [hj]; exact hy) hV hkl
  rw [show ordNm (some y) x = (strLt x.key y.key || decide (x.key = y.key)) from rfl] at F
  rw [← hneg] at F
  generalize wrIx w x.key = q1 at *
  clear hV hx hy hneg
  repeat' (first | refine goH ?_ | refine goV ?_ | refine goB (fun b => ?_) | refine goG ?_ | (refine Ops.k_guard ?_; first | (refine Ops.guard_dec rfl rfl (fun hc => ?_) (fun hc => ?_) <;> try (exfalso; omega)) | refine Ops.guard_split rfl rfl (fun hc => ?_) (fun hc => ?_)) | refine goI ?_ | (refine Cw.k_cond ?_; first | (refine Cw.cond_dec rfl (fun hc => ?_) (fun hc => ?_) <;> try (exfalso; omega)) | refine Cw.cond_bool rfl (fun hc => ?_) (fun hc => ?_)) | (refine Ops.k_calla ?_; first | (refine Ops.k_callf 29 ?_; refine Ops.callV k1 (Evs.cons rfl (Evs.cons rfl Evs.nil)) rfl ?_) | (refine Ops.k_callf 28 ?_; refine Ops.callV kO (Evs.cons rfl (Evs.cons rfl (Evs.cons rfl Evs.nil))) rfl ?_)) | (apply OpW.k_call; first | (apply OpW.k_callf 29; exact OpW.callV k1 (Evs.cons rfl (Evs.cons rfl Evs.nil))) | (apply OpW.k_callf 28; exact OpW.callV kO (Evs.cons rfl (Evs.cons rfl (Evs.cons rfl Evs.nil))))) | refine goR ?_ | refine goP ?_ | apply PSeq.cons | apply PSeq.yes rfl rfl rfl | exact goW | fail)
  all_goals first
    | (exfalso; omega)
    | exact ⟨_, _, _, (Ent.mk goSub goTk), ⟨k + 1, rfl, ⟨by omega, F.ok (decide_eq_false (by assumption)) (by assumption) (by omega)⟩, rfl, rfl⟩, by omega⟩
    | (refine Fin.ret (Ent.take goTk) (Outs.one rfl rfl) ⟨rfl, ?_⟩; first | (rw [F.e8 (decide_eq_true (by assumption))]; done) | (rw [F.e7 (decide_eq_false (by assumption)) (by assumption)]; done) | (rw [F.e1 (decide_eq_false (by assumption)) (by assumption) (by omega)]; done))
theorem basketFault_fn (w : List Wr) (l : List Nm) (hw : w.length ≤ 1000000) (hl : l.length ≤ 1000000) : PFn Tryz.prog 8 [.wrs w, .nms l] (· = .int (bskE w l)) := by
  have k0 := waresFaultR_fn w hw
  refine PFn.mk (Spec.body Tryz.func8 rfl rfl (Tryz.ntmps8) rfl fun w0 own0 M => ?_)
  have hL : (l.map Nm.row).length = l.length := List.length_map _
  by_cases hw0 : waresE w ≠ 0
  · rw [show bskE w l = waresE w by unfold bskE; rw [if_pos hw0]]
    generalize waresE w = z at *
    repeat' (first | refine goH ?_ | refine goV ?_ | refine goB (fun b => ?_) | refine goG ?_ | (refine Ops.k_guard ?_; first | (refine Ops.guard_dec rfl rfl (fun hc => ?_) (fun hc => ?_) <;> try (exfalso; omega)) | refine Ops.guard_split rfl rfl (fun hc => ?_) (fun hc => ?_)) | refine goI ?_ | (refine Cw.k_cond ?_; first | (refine Cw.cond_dec rfl (fun hc => ?_) (fun hc => ?_) <;> try (exfalso; omega)) | refine Cw.cond_bool rfl (fun hc => ?_) (fun hc => ?_)) | (refine Ops.k_calla ?_; first | (refine Ops.k_callf 20 ?_; refine Ops.callV k0 (Evs.cons rfl Evs.nil) rfl ?_)) | (apply OpW.k_call; first | (apply OpW.k_callf 20; exact OpW.callV k0 (Evs.cons rfl Evs.nil))) | refine goR ?_ | refine goP ?_ | apply PSeq.cons | apply PSeq.yes rfl rfl rfl | exact goW | fail)
    exact Fin.ret (Ent.take goTk) (Outs.one rfl rfl) ⟨rfl, rfl⟩
  rw [show waresE w = 0 by omega] at k0
  by_cases h200 : l.length > 100
  · rw [show bskE w l = 2 by unfold bskE; rw [if_neg hw0, if_pos h200]]
    repeat' (first | refine goH ?_ | refine goV ?_ | refine goB (fun b => ?_) | refine goG ?_ | (refine Ops.k_guard ?_; first | (refine Ops.guard_dec rfl rfl (fun hc => ?_) (fun hc => ?_) <;> try (exfalso; omega)) | refine Ops.guard_split rfl rfl (fun hc => ?_) (fun hc => ?_)) | refine goI ?_ | (refine Cw.k_cond ?_; first | (refine Cw.cond_dec rfl (fun hc => ?_) (fun hc => ?_) <;> try (exfalso; omega)) | refine Cw.cond_bool rfl (fun hc => ?_) (fun hc => ?_)) | (refine Ops.k_calla ?_; first | (refine Ops.k_callf 20 ?_; refine Ops.callV k0 (Evs.cons rfl Evs.nil) rfl ?_)) | (apply OpW.k_call; first | (apply OpW.k_callf 20; exact OpW.callV k0 (Evs.cons rfl Evs.nil))) | refine goR ?_ | refine goP ?_ | apply PSeq.cons | apply PSeq.yes rfl rfl rfl | exact goW | fail)
    exact Fin.ret (Ent.take goTk) (Outs.one rfl rfl) ⟨rfl, rfl⟩
  have hV0 : bskE w l = firstE (bkE w l) 0 (l.length - 0) := by unfold bskE; rw [if_neg hw0, if_neg h200]; rfl
  generalize bskE w l = E at *
  repeat' (first | refine goH ?_ | refine goV ?_ | refine goB (fun b => ?_) | refine goG ?_ | (refine Ops.k_guard ?_; first | (refine Ops.guard_dec rfl rfl (fun hc => ?_) (fun hc => ?_) <;> try (exfalso; omega)) | refine Ops.guard_split rfl rfl (fun hc => ?_) (fun hc => ?_)) | refine goI ?_ | (refine Cw.k_cond ?_; first | (refine Cw.cond_dec rfl (fun hc => ?_) (fun hc => ?_) <;> try (exfalso; omega)) | refine Cw.cond_bool rfl (fun hc => ?_) (fun hc => ?_)) | (refine Ops.k_calla ?_; first | (refine Ops.k_callf 20 ?_; refine Ops.callV k0 (Evs.cons rfl Evs.nil) rfl ?_)) | (apply OpW.k_call; first | (apply OpW.k_callf 20; exact OpW.callV k0 (Evs.cons rfl Evs.nil))) | refine goR ?_ | refine goP ?_ | apply PSeq.cons | apply PSeq.yes rfl rfl rfl | exact goW | fail)
  clear k0
  refine Cw.loopI [(0, _), (1, _), (18, _), (19, _)] _ (fun n e c => ∃ k : Nat, n = l.length - k ∧ (k ≤ l.length ∧ E = firstE (bkE w l) k (l.length - k)) ∧ e = [(20, .int k)] ∧ c = []) ⟨_, _, _, (Ent.mkP goSub goPm), 0, rfl, ⟨by omega, hV0⟩, rfl, rfl⟩ ?_
  clear hV0
  rintro _ _ _ ⟨k, rfl, ⟨hk, hV⟩, rfl, rfl⟩
  by_cases hkl : k < l.length
  rotate_left
  · rw [firstE_end hkl] at hV
    subst hV
    repeat' (first | refine goH ?_ | refine goV ?_ | refine goB (fun b => ?_) | refine goG ?_ | (refine Ops.k_guard ?_; first | (refine Ops.guard_dec rfl rfl (fun hc => ?_) (fun hc => ?_) <;> try (exfalso; omega)) | refine Ops.guard_split rfl rfl (fun hc => ?_) (fun hc => ?_)) | refine goI ?_ | (refine Cw.k_cond ?_; first | (refine Cw.cond_dec rfl (fun hc => ?_) (fun hc => ?_) <;> try (exfalso; omega)) | refine Cw.cond_bool rfl (fun hc => ?_) (fun hc => ?_)) | refine goR ?_ | refine goP ?_ | apply PSeq.cons | apply PSeq.yes rfl rfl rfl | exact goW | fail)
    exact Fin.ret (Ent.take goTk) (Outs.one rfl rfl) ⟨rfl, rfl⟩
  obtain ⟨x, hx⟩ := at_lt hkl
  have hrow : (l.map Nm.row)[k]? = some [.str x.key, .int x.many] := rows_at hx
  have k1 := wareOf_fn w hw x.key
  unfold Wr.row at k1
  by_cases hk0 : k = 0
  · have F := bkF (w := w) (p := none) hx (by rw [hk0]; rfl) hV hkl
    rw [show ordNm none x = false from rfl] at F
    rw [← isSome_not] at F
    generalize (wrF1 w x.key).isSome = q1 at *
    clear hV hx
    repeat' (first | refine goH ?_ | refine goV ?_ | refine goB (fun b => ?_) | refine goG ?_ | (refine Ops.k_guard ?_; first | (refine Ops.guard_dec rfl rfl (fun hc => ?_) (fun hc => ?_) <;> try (exfalso; omega)) | refine Ops.guard_split rfl rfl (fun hc => ?_) (fun hc => ?_)) | refine goI ?_ | (refine Cw.k_cond ?_; first | (refine Cw.cond_dec rfl (fun hc => ?_) (fun hc => ?_) <;> try (exfalso; omega)) | refine Cw.cond_bool rfl (fun hc => ?_) (fun hc => ?_)) | (refine Ops.k_calla ?_; first | (refine Ops.k_callf 24 ?_; refine Ops.callV k1 (Evs.cons rfl (Evs.cons rfl Evs.nil)) rfl ?_)) | (apply OpW.k_call; first | (apply OpW.k_callf 24; exact OpW.callV k1 (Evs.cons rfl (Evs.cons rfl Evs.nil)))) | refine goR ?_ | refine goP ?_ | apply PSeq.cons | apply PSeq.yes rfl rfl rfl | exact goW | fail)
    all_goals first
      | (exfalso; omega)
      | exact ⟨_, _, _, (Ent.mk goSub goTk), ⟨k + 1, rfl, ⟨by omega, F.ok (by assumption) rfl (by omega)⟩, rfl, rfl⟩, by omega⟩
      | (refine Fin.ret (Ent.take goTk) (Outs.one rfl rfl) ⟨rfl, ?_⟩; first | (rw [F.e8 (by assumption)]; done) | (rw [F.e1 (by assumption) rfl (by omega)]; done))
  obtain ⟨j, hj⟩ : ∃ j, k = j + 1 := ⟨k - 1, by omega⟩
  obtain ⟨y, hy⟩ := at_lt (l := l) (k := j) (by omega)
  have hrow2 : (l.map Nm.row)[((k : Int) - 1).toNat]? = some [.str y.key, .int y.many] := by rw [show ((k : Int) - 1).toNat = j by omega]; exact rows_at hy
  have F := bkF (w := w) (p := some y) hx (by rw [hj]; exact hy) hV hkl
  rw [show ordNm (some y) x = (strLt x.key y.key || decide (x.key = y.key)) from rfl] at F
  rw [← isSome_not] at F
  generalize (wrF1 w x.key).isSome = q1 at *
  clear hV hx hy
  repeat' (first | refine goH ?_ | refine goV ?_ | refine goB (fun b => ?_) | refine goG ?_ | (refine Ops.k_guard ?_; first | (refine Ops.guard_dec rfl rfl (fun hc => ?_) (fun hc => ?_) <;> try (exfalso; omega)) | refine Ops.guard_split rfl rfl (fun hc => ?_) (fun hc => ?_)) | refine goI ?_ | (refine Cw.k_cond ?_; first | (refine Cw.cond_dec rfl (fun hc => ?_) (fun hc => ?_) <;> try (exfalso; omega)) | refine Cw.cond_bool rfl (fun hc => ?_) (fun hc => ?_)) | (refine Ops.k_calla ?_; first | (refine Ops.k_callf 24 ?_; refine Ops.callV k1 (Evs.cons rfl (Evs.cons rfl Evs.nil)) rfl ?_)) | (apply OpW.k_call; first | (apply OpW.k_callf 24; exact OpW.callV k1 (Evs.cons rfl (Evs.cons rfl Evs.nil)))) | refine goR ?_ | refine goP ?_ | apply PSeq.cons | apply PSeq.yes rfl rfl rfl | exact goW | fail)
  all_goals first
    | (exfalso; omega)
    | exact ⟨_, _, _, (Ent.mk goSub goTk), ⟨k + 1, rfl, ⟨by omega, F.ok (by assumption) (by assumption) (by omega)⟩, rfl, rfl⟩, by omega⟩
    | (refine Fin.ret (Ent.take goTk) (Outs.one rfl rfl) ⟨rfl, ?_⟩; first | (rw [F.e8 (by assumption)]; done) | (rw [F.e7 (by assumption) (by assumption)]; done) | (rw [F.e1 (by assumption) (by assumption) (by omega)]; done))
end Lg
end
