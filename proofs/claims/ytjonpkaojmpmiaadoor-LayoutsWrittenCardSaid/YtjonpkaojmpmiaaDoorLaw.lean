/- A part of the proof of a law of this seat: it adds no condition. By an AI agent. -/
import Derived.Test.YtjonpkaojmpmiaaDoorFrame
import Derived.Test.YtjonpkaojmpmiaaDoorBld
section
set_option linter.all false
set_option maxRecDepth 100000
set_option maxHeartbeats 8000000
namespace Lg
open Go Go.Proofs

/-! ### doing tasks -/
/-- a copy of its own -/
theorem clone_str (rows : List (List Tr)) (hk : ∀ r ∈ rows, r.length = 1) (hl : rows.length ≤ 1000000) : PFnO Tryd.prog 35 [.sl 1 rows] 1 9 (· = rows) := by
  unfold PFnO
  refine Spec.body Tryd.func35 rfl rfl (Tryd.ntmps35) rfl fun w0 own0 M => ?_
  repeat' (first | refine goH ?_ | ((fail_if_success refine Ops.k_b_eql ?_); (fail_if_success refine Ops.k_buildSlice ?_); refine goV ?_) | ((fail_if_success refine Ops.k_b_eql ?_); (fail_if_success refine Ops.k_buildSlice ?_); refine goC (fun ad cap => ?_)) | refine goI ?_ | (refine Cw.k_cond ?_; first | (refine Cw.cond_dec rfl (fun hc => ?_) (fun hc => ?_) <;> try (exfalso; omega)) | refine Cw.cond_bool rfl (fun hc => ?_) (fun hc => ?_)) | fail)
  refine Ops.eql_nilS rfl rfl (fun b hb => ?_)
  cases b
  · repeat' (first | refine goH ?_ | ((fail_if_success refine Ops.k_buildSlice ?_); refine goV ?_) | ((fail_if_success refine Ops.k_buildSlice ?_); refine goC (fun ad cap => ?_)) | refine goI ?_ | (refine Cw.k_cond ?_; first | (refine Cw.cond_dec rfl (fun hc => ?_) (fun hc => ?_) <;> try (exfalso; omega)) | refine Cw.cond_bool rfl (fun hc => ?_) (fun hc => ?_)) | fail)
    refine Ops.buildSlice_own (by exact Parts.nil) rfl rfl rfl (fun ad cap => ?_)
    repeat' (first | refine goH ?_ | refine goV ?_ | refine goC (fun ad cap => ?_) | refine goI ?_ | (refine Cw.k_cond ?_; first | (refine Cw.cond_dec rfl (fun hc => ?_) (fun hc => ?_) <;> try (exfalso; omega)) | refine Cw.cond_bool rfl (fun hc => ?_) (fun hc => ?_)) | fail)
    exact Fin.ret (Ent.take goTk) (Outs.one rfl rfl) ⟨_, _, _, rfl, rfl, rfl⟩
  · have hr := hb rfl
    subst hr
    repeat' (first | refine goH ?_ | refine goV ?_ | refine goC (fun ad cap => ?_) | refine goI ?_ | (refine Cw.k_cond ?_; first | (refine Cw.cond_dec rfl (fun hc => ?_) (fun hc => ?_) <;> try (exfalso; omega)) | refine Cw.cond_bool rfl (fun hc => ?_) (fun hc => ?_)) | fail)
    exact Fin.ret (Ent.trans (Ent.nil 1 9) (Ent.take goTk)) (Outs.one rfl rfl) ⟨none, 0, [], rfl, rfl, rfl⟩

def tkLe (x y : Tk) : Bool := decide (x.slot ≤ y.slot)
def doE (x : List ByteArray) (t : List Tk) (k : Nat) : Int := match t[k]? with
  | none => 0
  | some v => if v.slot < 0 ∨ (x.length : Int) ≤ v.slot then 1 else if prevB tkLe t k v then 7 else if x.getD v.slot.toNat eL ≠ v.fr then 13 else if v.fr = v.to then 3 else if oddL v.to then 5 else 0
structure TkF (x : List ByteArray) (E : Int) (v : Tk) (pv : Bool) (N : Int) : Prop where
  e1 : (v.slot < 0 ∨ (x.length : Int) ≤ v.slot) → E = 1
  e7 : ¬ (v.slot < 0 ∨ (x.length : Int) ≤ v.slot) → pv = true → E = 7
  e13 : ¬ (v.slot < 0 ∨ (x.length : Int) ≤ v.slot) → pv = false → x.getD v.slot.toNat eL ≠ v.fr → E = 13
  e3 : ¬ (v.slot < 0 ∨ (x.length : Int) ≤ v.slot) → pv = false → x.getD v.slot.toNat eL = v.fr → v.fr = v.to → E = 3
  e5 : ¬ (v.slot < 0 ∨ (x.length : Int) ≤ v.slot) → pv = false → x.getD v.slot.toNat eL = v.fr → v.fr ≠ v.to → oddL v.to = true → E = 5
  e0 : ¬ (v.slot < 0 ∨ (x.length : Int) ≤ v.slot) → pv = false → x.getD v.slot.toNat eL = v.fr → v.fr ≠ v.to → oddL v.to = false → E = N
theorem tkF {x : List ByteArray} {t : List Tk} {k : Nat} {v : Tk} {E : Int} {pv : Bool} (hv : t[k]? = some v) (hp : prevB tkLe t k v = pv) (hE : E = firstE (doE x t) k (t.length - k)) (hk : k < t.length) : TkF x E v pv (firstE (doE x t) (k + 1) (t.length - (k + 1))) := by
  have h : doE x t k = if v.slot < 0 ∨ (x.length : Int) ≤ v.slot then 1 else if pv = true then 7 else if x.getD v.slot.toNat eL ≠ v.fr then 13 else if v.fr = v.to then 3 else if oddL v.to then 5 else 0 := by
    unfold doE
    rw [hv]
    simp only
    rw [hp]
  have bad : ∀ c, doE x t k = c → c ≠ 0 → E = c := fun c h1 h2 => hE.trans (firstE_bad hk h1 h2)
  refine ⟨fun h1 => bad 1 (by rw [h, if_pos h1]) (by decide), fun h1 h2 => bad 7 (by rw [h, if_neg h1, if_pos h2]) (by decide), fun h1 h2 h3 => bad 13 (by rw [h, if_neg h1, h2, if_neg (by simp), if_pos h3]) (by decide), fun h1 h2 h3 h4 => bad 3 (by rw [h, if_neg h1, h2, if_neg (by simp), if_neg (by simpa using h3), if_pos h4]) (by decide), fun h1 h2 h3 h4 h5 => bad 5 (by rw [h, if_neg h1, h2, if_neg (by simp), if_neg (by simpa using h3), if_neg h4, if_pos h5]) (by decide), fun h1 h2 h3 h4 h5 => ?_⟩
  rw [hE]
  exact firstE_ok hk (by rw [h, if_neg h1, h2, if_neg (by simp), if_neg (by simpa using h3), if_neg h4, h5, if_neg (by simp)])
def doF (x : List ByteArray) (t : List Tk) : List ByteArray := t.foldl (fun o v => o.set v.slot.toNat v.to) x
def doC (x : List ByteArray) (t : List Tk) : Int := if x.length > 60 then 2 else firstE (doE x t) 0 t.length
theorem doF_take {x : List ByteArray} {t : List Tk} {k : Nat} {v : Tk} (h : t[k]? = some v) : doF x (t.take (k + 1)) = (doF x (t.take k)).set v.slot.toNat v.to := by
  unfold doF
  rw [take_at h, List.foldl_append]
  rfl
theorem doF_len (x : List ByteArray) : ∀ t : List Tk, (doF x t).length = x.length := by
  intro t
  unfold doF
  induction t generalizing x with
  | nil => rfl
  | cons v t ih => rw [List.foldl_cons, ih, List.length_set]
theorem strRows_setL (l : List ByteArray) (i : Nat) (v : ByteArray) : (strRows l).set i [Tr.str v] = strRows (l.set i v) := by
  unfold strRows
  rw [List.map_set]
def doT (x : List ByteArray) (t : List Tk) : Tr := .tup [.strs (if doC x t = 0 then doF x t else []), .int (doC x t)]
theorem do_fn (x : List ByteArray) (hx : x.length ≤ 1000) (t : List Tk) (ht : t.length ≤ 1000) : PFn Tryd.prog 12 [.strs x, .tks t] (· = doT x t) := by
  have hxl := strRows_len x
  have htl : (t.map Tk.row).length = t.length := List.length_map _
  unfold doT
  refine PFn.mk (Spec.body Tryd.func12 rfl rfl (Tryd.ntmps12) rfl fun w0 own0 M => ?_)
  by_cases h60 : x.length > 60
  · rw [show doC x t = 2 by unfold doC; rw [if_pos h60]]
    repeat' (first | refine goH ?_ | refine goV ?_ | refine goB (fun b => ?_) | refine goG ?_ | (refine Ops.k_guard ?_; first | (refine Ops.guard_dec rfl rfl (fun hc => ?_) (fun hc => ?_) <;> try (exfalso; omega)) | refine Ops.guard_split rfl rfl (fun hc => ?_) (fun hc => ?_)) | refine goI ?_ | (refine Cw.k_cond ?_; first | (refine Cw.cond_dec rfl (fun hc => ?_) (fun hc => ?_) <;> try (exfalso; omega)) | refine Cw.cond_bool rfl (fun hc => ?_) (fun hc => ?_)) | refine goR ?_ | refine goP ?_ | apply PSeq.cons | apply PSeq.yes rfl rfl rfl | exact goW | fail)
    refine Fin.ret (Ent.trans (Ent.nilsl 1 (s := 4) rfl) (Ent.take goTk)) (Outs.many rfl (OutL.cons goOe (OutL.cons goOe OutL.nil)) rfl) ⟨rfl, rfl⟩
  have hE0 : doC x t = firstE (doE x t) 0 (t.length - 0) := by unfold doC; rw [if_neg h60]; rfl
  have kC := clone_str (strRows x) (by intro r hr; obtain ⟨a, _, rfl⟩ := List.mem_map.1 hr; rfl) (by omega)
  generalize doC x t = E at *
  repeat' (first | refine goH ?_ | refine goV ?_ | refine goB (fun b => ?_) | refine goG ?_ | (refine Ops.k_guard ?_; first | (refine Ops.guard_dec rfl rfl (fun hc => ?_) (fun hc => ?_) <;> try (exfalso; omega)) | refine Ops.guard_split rfl rfl (fun hc => ?_) (fun hc => ?_)) | refine goI ?_ | (refine Cw.k_cond ?_; first | (refine Cw.cond_dec rfl (fun hc => ?_) (fun hc => ?_) <;> try (exfalso; omega)) | refine Cw.cond_bool rfl (fun hc => ?_) (fun hc => ?_)) | (refine Ops.k_calla ?_; first | (refine Ops.k_callf 35 ?_; (refine Ops.callO kC (Evs.cons rfl Evs.nil) rfl (fun ad cap rows hr => ?_); subst hr))) | refine goR ?_ | refine goP ?_ | apply PSeq.cons | apply PSeq.yes rfl rfl rfl | exact goW | fail)
  refine Cw.loopI [(0, _), (1, _), (6, _), (14, _), (15, _)] _ (fun q e c => ∃ (k : Nat) (rows : List (List Tr)), q = t.length - k ∧ (k ≤ t.length ∧ E = firstE (doE x t) k (t.length - k) ∧ rows = strRows (doF x (t.take k)) ∧ rows.length = x.length) ∧ e = [(16, .int k)] ∧ c = [Chunk.own ad cap 1 9 rows])
    ⟨_, _, _, (Ent.mkP goSub goPm), 0, strRows x, rfl, ⟨by omega, hE0, rfl, hxl⟩, rfl, rfl⟩ ?_
  clear hE0 kC
  rintro _ _ _ ⟨k, rows, rfl, ⟨hk, hE, hrows, hrl⟩, rfl, rfl⟩
  by_cases hkl : k < t.length
  rotate_left
  · rw [firstE_end hkl] at hE
    subst hE
    rw [List.take_of_length_le (by omega)] at hrows
    rw [hxl, ← hrl]
    repeat' (first | refine goH ?_ | refine goV ?_ | refine goB (fun b => ?_) | refine goG ?_ | (refine Ops.k_guard ?_; first | (refine Ops.guard_dec rfl rfl (fun hc => ?_) (fun hc => ?_) <;> try (exfalso; omega)) | refine Ops.guard_split rfl rfl (fun hc => ?_) (fun hc => ?_)) | refine goI ?_ | (refine Cw.k_cond ?_; first | (refine Cw.cond_dec rfl (fun hc => ?_) (fun hc => ?_) <;> try (exfalso; omega)) | refine Cw.cond_bool rfl (fun hc => ?_) (fun hc => ?_)) | refine goR ?_ | refine goP ?_ | apply PSeq.cons | apply PSeq.yes rfl rfl rfl | exact goW | fail)
    refine Fin.ret (Ent.trans (Ent.settle (s := 4) rfl goPk rfl) (Ent.take goTk)) (Outs.many rfl (OutL.cons goOe (OutL.cons goOe OutL.nil)) rfl) ⟨rfl, by rw [if_pos rfl, hrows]⟩
  obtain ⟨v, hv⟩ := at_lt hkl
  have hrow : (t.map Tk.row)[((k : Nat) : Int).toNat]? = some [.int v.slot, .str v.fr, .str v.to] := by rw [Int.toNat_natCast]; exact rows_at hv
  have hpv : ∃ pv, prevB tkLe t k v = pv ∧ ((k = 0 ∧ pv = false) ∨ ∃ y : Tk, 0 < k ∧ (t.map Tk.row)[((k : Int) - 1).toNat]? = some [.int y.slot, .str y.fr, .str y.to] ∧ pv = decide (v.slot ≤ y.slot)) := by
    cases k with
    | zero => exact ⟨false, rfl, .inl ⟨rfl, rfl⟩⟩
    | succ j =>
      obtain ⟨y, hy⟩ := at_lt (l := t) (k := j) (by omega)
      refine ⟨decide (v.slot ≤ y.slot), by simp [prevB, hy, tkLe], .inr ⟨y, by omega, ?_, rfl⟩⟩
      rw [show (((j + 1 : Nat) : Int) - 1).toNat = j by omega]
      exact rows_at hy
  obtain ⟨pv, hp, hcs⟩ := hpv
  have F := tkF hv hp hE hkl
  have hnext := doF_take (x := x) hv
  have hset : rows.set v.slot.toNat [Tr.str v.to] = strRows (doF x (t.take (k + 1))) := by rw [hrows, strRows_setL, hnext]
  have hsl : (strRows (doF x (t.take (k + 1)))).length = x.length := by rw [strRows_len, doF_len]
  have kO := out_fn v.slot 0 (((strRows x).length : Int) - 1)
  rw [show outB v.slot 0 (((strRows x).length : Int) - 1) = decide (v.slot < 0 ∨ (x.length : Int) ≤ v.slot) by rw [hxl, Bool.eq_iff_iff]; simp [outB]; omega] at kO
  have k5 := odd_fn v.to
  have k6 := wordFault_fn [v.to] (by simp)
  rw [show ([v.to] : List ByteArray).any oddL = oddL v.to by simp] at k6
  have hqr : ∀ n : Int, n.toNat < x.length → ∃ z, rows[n.toNat]? = some [Tr.str z] := fun n hn => by rw [hrows]; exact ⟨_, strRows_get (by rw [doF_len]; exact hn)⟩
  clear hE hp hv hnext hrows
  generalize hr2 : strRows (doF x (t.take (k + 1))) = rows2 at *
  obtain ⟨vs, vf, vt⟩ := v
  simp only at *
  by_cases h1 : vs < 0 ∨ (x.length : Int) ≤ vs
  · have bb := F.e1 h1
    rw [decide_eq_true h1] at kO
    clear F
    repeat' (first | refine goH ?_ | refine goV ?_ | refine goB (fun b => ?_) | refine goG ?_ | (refine Ops.k_guard ?_; first | (refine Ops.guard_dec rfl rfl (fun hc => ?_) (fun hc => ?_) <;> try (exfalso; omega)) | refine Ops.guard_split rfl rfl (fun hc => ?_) (fun hc => ?_)) | refine goI ?_ | (refine Cw.k_cond ?_; first | (refine Cw.cond_dec rfl (fun hc => ?_) (fun hc => ?_) <;> try (exfalso; omega)) | refine Cw.cond_bool rfl (fun hc => ?_) (fun hc => ?_)) | (refine Ops.k_calla ?_; first | (refine Ops.k_callf 36 ?_; refine Ops.callV kO (Evs.cons rfl (Evs.cons rfl (Evs.cons rfl Evs.nil))) rfl ?_)) | (apply OpW.k_call; first | (apply OpW.k_callf 36; exact OpW.callV kO (Evs.cons rfl (Evs.cons rfl (Evs.cons rfl Evs.nil))))) | refine goR ?_ | refine goP ?_ | apply PSeq.cons | apply PSeq.yes rfl rfl rfl | exact goW | fail)
    all_goals first | (exfalso; omega) | (refine Fin.ret (Ent.trans (Ent.nilsl 1 (s := 4) rfl) (Ent.take goTk)) (Outs.many rfl (OutL.cons goOe (OutL.cons goOe OutL.nil)) rfl) ⟨rfl, by rw [bb]; rfl⟩)
  rw [decide_eq_false h1] at kO
  have hra := getD_row (a := x) (n := vs.toNat) (by omega)
  have hq : ∃ z, rows[vs.toNat]? = some [Tr.str z] := hqr vs (by omega)
  obtain ⟨z, hq⟩ := hq
  cases pv with
  | true =>
    rcases hcs with ⟨hk0, h⟩ | ⟨y, hk1, hrow2, h⟩
    · cases h
    have h2 : vs ≤ y.slot := of_decide_eq_true h.symm
    have bb := F.e7 h1 rfl
    clear F h
    repeat' (first | refine goH ?_ | refine goV ?_ | refine goB (fun b => ?_) | refine goG ?_ | (refine Ops.k_guard ?_; first | (refine Ops.guard_dec rfl rfl (fun hc => ?_) (fun hc => ?_) <;> try (exfalso; omega)) | refine Ops.guard_split rfl rfl (fun hc => ?_) (fun hc => ?_)) | refine goI ?_ | (refine Cw.k_cond ?_; first | (refine Cw.cond_dec rfl (fun hc => ?_) (fun hc => ?_) <;> try (exfalso; omega)) | refine Cw.cond_bool rfl (fun hc => ?_) (fun hc => ?_)) | (refine Ops.k_calla ?_; first | (refine Ops.k_callf 36 ?_; refine Ops.callV kO (Evs.cons rfl (Evs.cons rfl (Evs.cons rfl Evs.nil))) rfl ?_)) | (apply OpW.k_call; first | (apply OpW.k_callf 36; exact OpW.callV kO (Evs.cons rfl (Evs.cons rfl (Evs.cons rfl Evs.nil))))) | refine goR ?_ | refine goP ?_ | apply PSeq.cons | apply PSeq.yes rfl rfl rfl | exact goW | fail)
    all_goals first | (exfalso; omega) | (refine Fin.ret (Ent.trans (Ent.nilsl 1 (s := 4) rfl) (Ent.take goTk)) (Outs.many rfl (OutL.cons goOe (OutL.cons goOe OutL.nil)) rfl) ⟨rfl, by rw [bb]; rfl⟩)
  | false =>
    have hcs2 : k = 0 ∨ ∃ y : Tk, 0 < k ∧ (t.map Tk.row)[((k : Int) - 1).toNat]? = some [.int y.slot, .str y.fr, .str y.to] ∧ ¬ vs ≤ y.slot := by
      rcases hcs with ⟨hk0, h⟩ | ⟨y, hk1, hrow2, h⟩
      · exact .inl hk0
      · exact .inr ⟨y, hk1, hrow2, of_decide_eq_false h.symm⟩
    clear hcs
    by_cases h3 : x.getD vs.toNat eL = vf
    rotate_left
    · have bb := F.e13 h1 rfl h3
      clear F
      have h3' : ¬ vf = x.getD vs.toNat eL := fun h => h3 h.symm
      generalize x.getD vs.toNat eL = u at *
      rcases hcs2 with hk0 | ⟨y, hk1, hrow2, h2⟩
      all_goals (repeat' (first | refine goH ?_ | refine goV ?_ | refine goB (fun b => ?_) | refine goG ?_ | (refine Ops.k_guard ?_; first | (refine Ops.guard_dec rfl rfl (fun hc => ?_) (fun hc => ?_) <;> try (exfalso; omega)) | refine Ops.guard_split rfl rfl (fun hc => ?_) (fun hc => ?_)) | refine goI ?_ | (refine Cw.k_cond ?_; first | (refine Cw.cond_dec rfl (fun hc => ?_) (fun hc => ?_) <;> try (exfalso; omega)) | refine Cw.cond_bool rfl (fun hc => ?_) (fun hc => ?_)) | (refine Ops.k_calla ?_; first | (refine Ops.k_callf 36 ?_; refine Ops.callV kO (Evs.cons rfl (Evs.cons rfl (Evs.cons rfl Evs.nil))) rfl ?_)) | (apply OpW.k_call; first | (apply OpW.k_callf 36; exact OpW.callV kO (Evs.cons rfl (Evs.cons rfl (Evs.cons rfl Evs.nil))))) | refine goR ?_ | refine goP ?_ | apply PSeq.cons | apply PSeq.yes rfl rfl rfl | exact goW | fail))
      all_goals first | (exfalso; omega) | (exfalso; contradiction) | (refine Fin.ret (Ent.trans (Ent.nilsl 1 (s := 4) rfl) (Ent.take goTk)) (Outs.many rfl (OutL.cons goOe (OutL.cons goOe OutL.nil)) rfl) ⟨rfl, by rw [bb]; rfl⟩)
    have hpos : 0 ≤ vs ∧ vs < x.length := by omega
    by_cases h4 : vf = vt
    · have bb := F.e3 h1 rfl h3 h4
      clear F
      generalize x.getD vs.toNat eL = u at *
      subst h3
      rcases hcs2 with hk0 | ⟨y, hk1, hrow2, h2⟩
      all_goals (repeat' (first | refine goH ?_ | refine goV ?_ | refine goB (fun b => ?_) | refine goG ?_ | (refine Ops.k_guard ?_; first | (refine Ops.guard_dec rfl rfl (fun hc => ?_) (fun hc => ?_) <;> try (exfalso; omega)) | refine Ops.guard_split rfl rfl (fun hc => ?_) (fun hc => ?_)) | refine goI ?_ | (refine Cw.k_cond ?_; first | (refine Cw.cond_dec rfl (fun hc => ?_) (fun hc => ?_) <;> try (exfalso; omega)) | refine Cw.cond_bool rfl (fun hc => ?_) (fun hc => ?_)) | (refine Ops.k_calla ?_; first | (refine Ops.k_callf 36 ?_; refine Ops.callV kO (Evs.cons rfl (Evs.cons rfl (Evs.cons rfl Evs.nil))) rfl ?_)) | (apply OpW.k_call; first | (apply OpW.k_callf 36; exact OpW.callV kO (Evs.cons rfl (Evs.cons rfl (Evs.cons rfl Evs.nil))))) | refine goR ?_ | refine goP ?_ | apply PSeq.cons | apply PSeq.yes rfl rfl rfl | exact goW | fail))
      all_goals first | (exfalso; omega) | (exfalso; contradiction) | (refine Fin.ret (Ent.trans (Ent.nilsl 1 (s := 4) rfl) (Ent.take goTk)) (Outs.many rfl (OutL.cons goOe (OutL.cons goOe OutL.nil)) rfl) ⟨rfl, by rw [bb]; rfl⟩)
    cases ho : oddL vt with
    | true =>
      have bb := F.e5 h1 rfl h3 h4 ho
      rw [ho] at k5 k6
      clear F
      generalize x.getD vs.toNat eL = u at *
      subst h3
      rcases hcs2 with hk0 | ⟨y, hk1, hrow2, h2⟩
      all_goals (repeat' (first | refine goH ?_ | refine goV ?_ | refine goB (fun b => ?_) | refine goG ?_ | (refine Ops.k_guard ?_; first | (refine Ops.guard_dec rfl rfl (fun hc => ?_) (fun hc => ?_) <;> try (exfalso; omega)) | refine Ops.guard_split rfl rfl (fun hc => ?_) (fun hc => ?_)) | refine goI ?_ | (refine Cw.k_cond ?_; first | (refine Cw.cond_dec rfl (fun hc => ?_) (fun hc => ?_) <;> try (exfalso; omega)) | refine Cw.cond_bool rfl (fun hc => ?_) (fun hc => ?_)) | (refine Ops.k_calla ?_; first | (refine Ops.k_callf 36 ?_; refine Ops.callV kO (Evs.cons rfl (Evs.cons rfl (Evs.cons rfl Evs.nil))) rfl ?_) | (refine Ops.k_callf 30 ?_; refine Ops.callV k5 (Evs.cons rfl Evs.nil) rfl ?_) | (refine Ops.k_callf 32 ?_; refine Ops.callV k6 (Evs.cons rfl Evs.nil) rfl ?_)) | (apply OpW.k_call; first | (apply OpW.k_callf 36; exact OpW.callV kO (Evs.cons rfl (Evs.cons rfl (Evs.cons rfl Evs.nil)))) | (apply OpW.k_callf 30; exact OpW.callV k5 (Evs.cons rfl Evs.nil)) | (apply OpW.k_callf 32; exact OpW.callV k6 (Evs.cons rfl Evs.nil))) | refine goR ?_ | refine goP ?_ | apply PSeq.cons | apply PSeq.yes rfl rfl rfl | exact goW | fail))
      all_goals first | (exfalso; omega) | (exfalso; contradiction) | (refine Fin.ret (Ent.trans (Ent.nilsl 1 (s := 4) rfl) (Ent.take goTk)) (Outs.many rfl (OutL.cons goOe (OutL.cons goOe OutL.nil)) rfl) ⟨rfl, by rw [bb]; rfl⟩)
    | false =>
      have bb := F.e0 h1 rfl h3 h4 ho
      rw [ho] at k5 k6
      clear F
      generalize x.getD vs.toNat eL = u at *
      subst h3
      rcases hcs2 with hk0 | ⟨y, hk1, hrow2, h2⟩
      all_goals (repeat' (first | refine goH ?_ | (refine Ops.k_store ?_; first | (refine Ops.store_own1 rfl rfl goPk (by first | rfl | assumption | (simp [*]; done)) (by decide) ?_; erw [hset]) | (refine Ops.store_boxN rfl rfl goPk rfl rfl goNt ?_)) | refine goV ?_ | refine goB (fun b => ?_) | refine goG ?_ | (refine Ops.k_guard ?_; first | (refine Ops.guard_dec rfl rfl (fun hc => ?_) (fun hc => ?_) <;> try (exfalso; omega)) | refine Ops.guard_split rfl rfl (fun hc => ?_) (fun hc => ?_)) | refine goI ?_ | (refine Cw.k_cond ?_; first | (refine Cw.cond_dec rfl (fun hc => ?_) (fun hc => ?_) <;> try (exfalso; omega)) | refine Cw.cond_bool rfl (fun hc => ?_) (fun hc => ?_)) | (refine Ops.k_calla ?_; first | (refine Ops.k_callf 36 ?_; refine Ops.callV kO (Evs.cons rfl (Evs.cons rfl (Evs.cons rfl Evs.nil))) rfl ?_) | (refine Ops.k_callf 30 ?_; refine Ops.callV k5 (Evs.cons rfl Evs.nil) rfl ?_) | (refine Ops.k_callf 32 ?_; refine Ops.callV k6 (Evs.cons rfl Evs.nil) rfl ?_)) | (apply OpW.k_call; first | (apply OpW.k_callf 36; exact OpW.callV kO (Evs.cons rfl (Evs.cons rfl (Evs.cons rfl Evs.nil)))) | (apply OpW.k_callf 30; exact OpW.callV k5 (Evs.cons rfl Evs.nil)) | (apply OpW.k_callf 32; exact OpW.callV k6 (Evs.cons rfl Evs.nil))) | refine goR ?_ | refine goP ?_ | apply PSeq.cons | apply PSeq.yes rfl rfl rfl | exact goW | fail))
      all_goals first | (exfalso; omega) | (exfalso; contradiction) | exact ⟨_, _, _, (Ent.mk goSub goTk), ⟨k + 1, rows2, rfl, ⟨by omega, bb, hr2.symm, hsl⟩, rfl, rfl⟩, by omega⟩
theorem doneOf_fn (x : List ByteArray) (hx : x.length ≤ 1000) (t : List Tk) (ht : t.length ≤ 1000) : PFn Tryd.prog 13 [.strs x, .tks t] (· = doT x t) := by
  have hxl := strRows_len x
  have htl : (t.map Tk.row).length = t.length := List.length_map _
  unfold doT
  refine PFn.mk (Spec.body Tryd.func13 rfl rfl (Tryd.ntmps13) rfl fun w0 own0 M => ?_)
  by_cases h60 : x.length > 60
  · rw [show doC x t = 2 by unfold doC; rw [if_pos h60]]
    repeat' (first | refine goH ?_ | refine goV ?_ | refine goB (fun b => ?_) | refine goG ?_ | (refine Ops.k_guard ?_; first | (refine Ops.guard_dec rfl rfl (fun hc => ?_) (fun hc => ?_) <;> try (exfalso; omega)) | refine Ops.guard_split rfl rfl (fun hc => ?_) (fun hc => ?_)) | refine goI ?_ | (refine Cw.k_cond ?_; first | (refine Cw.cond_dec rfl (fun hc => ?_) (fun hc => ?_) <;> try (exfalso; omega)) | refine Cw.cond_bool rfl (fun hc => ?_) (fun hc => ?_)) | refine goR ?_ | refine goP ?_ | apply PSeq.cons | apply PSeq.yes rfl rfl rfl | exact goW | fail)
    refine Fin.ret (Ent.trans (Ent.nilsl 1 (s := 4) rfl) (Ent.take goTk)) (Outs.many rfl (OutL.cons goOe (OutL.cons goOe OutL.nil)) rfl) ⟨rfl, rfl⟩
  have hE0 : doC x t = firstE (doE x t) 0 (t.length - 0) := by unfold doC; rw [if_neg h60]; rfl
  have kC := clone_str (strRows x) (by intro r hr; obtain ⟨a, _, rfl⟩ := List.mem_map.1 hr; rfl) (by omega)
  generalize doC x t = E at *
  repeat' (first | refine goH ?_ | refine goV ?_ | refine goB (fun b => ?_) | refine goG ?_ | (refine Ops.k_guard ?_; first | (refine Ops.guard_dec rfl rfl (fun hc => ?_) (fun hc => ?_) <;> try (exfalso; omega)) | refine Ops.guard_split rfl rfl (fun hc => ?_) (fun hc => ?_)) | refine goI ?_ | (refine Cw.k_cond ?_; first | (refine Cw.cond_dec rfl (fun hc => ?_) (fun hc => ?_) <;> try (exfalso; omega)) | refine Cw.cond_bool rfl (fun hc => ?_) (fun hc => ?_)) | (refine Ops.k_calla ?_; first | (refine Ops.k_callf 35 ?_; (refine Ops.callO kC (Evs.cons rfl Evs.nil) rfl (fun ad cap rows hr => ?_); subst hr))) | refine goR ?_ | refine goP ?_ | apply PSeq.cons | apply PSeq.yes rfl rfl rfl | exact goW | fail)
  refine Cw.loopI [(0, _), (1, _), (6, _), (14, _), (15, _)] _ (fun q e c => ∃ (k : Nat) (rows : List (List Tr)), q = t.length - k ∧ (k ≤ t.length ∧ E = firstE (doE x t) k (t.length - k) ∧ rows = strRows (doF x (t.take k)) ∧ rows.length = x.length) ∧ e = [(16, .int k)] ∧ c = [Chunk.own ad cap 1 9 rows])
    ⟨_, _, _, (Ent.mkP goSub goPm), 0, strRows x, rfl, ⟨by omega, hE0, rfl, hxl⟩, rfl, rfl⟩ ?_
  clear hE0 kC
  rintro _ _ _ ⟨k, rows, rfl, ⟨hk, hE, hrows, hrl⟩, rfl, rfl⟩
  by_cases hkl : k < t.length
  rotate_left
  · rw [firstE_end hkl] at hE
    subst hE
    rw [List.take_of_length_le (by omega)] at hrows
    rw [hxl, ← hrl]
    repeat' (first | refine goH ?_ | refine goV ?_ | refine goB (fun b => ?_) | refine goG ?_ | (refine Ops.k_guard ?_; first | (refine Ops.guard_dec rfl rfl (fun hc => ?_) (fun hc => ?_) <;> try (exfalso; omega)) | refine Ops.guard_split rfl rfl (fun hc => ?_) (fun hc => ?_)) | refine goI ?_ | (refine Cw.k_cond ?_; first | (refine Cw.cond_dec rfl (fun hc => ?_) (fun hc => ?_) <;> try (exfalso; omega)) | refine Cw.cond_bool rfl (fun hc => ?_) (fun hc => ?_)) | refine goR ?_ | refine goP ?_ | apply PSeq.cons | apply PSeq.yes rfl rfl rfl | exact goW | fail)
    refine Fin.ret (Ent.trans (Ent.settle (s := 4) rfl goPk rfl) (Ent.take goTk)) (Outs.many rfl (OutL.cons goOe (OutL.cons goOe OutL.nil)) rfl) ⟨rfl, by rw [if_pos rfl, hrows]⟩
  obtain ⟨v, hv⟩ := at_lt hkl
  have hrow : (t.map Tk.row)[((k : Nat) : Int).toNat]? = some [.int v.slot, .str v.fr, .str v.to] := by rw [Int.toNat_natCast]; exact rows_at hv
  have hpv : ∃ pv, prevB tkLe t k v = pv ∧ ((k = 0 ∧ pv = false) ∨ ∃ y : Tk, 0 < k ∧ (t.map Tk.row)[((k : Int) - 1).toNat]? = some [.int y.slot, .str y.fr, .str y.to] ∧ pv = decide (v.slot ≤ y.slot)) := by
    cases k with
    | zero => exact ⟨false, rfl, .inl ⟨rfl, rfl⟩⟩
    | succ j =>
      obtain ⟨y, hy⟩ := at_lt (l := t) (k := j) (by omega)
      refine ⟨decide (v.slot ≤ y.slot), by simp [prevB, hy, tkLe], .inr ⟨y, by omega, ?_, rfl⟩⟩
      rw [show (((j + 1 : Nat) : Int) - 1).toNat = j by omega]
      exact rows_at hy
  obtain ⟨pv, hp, hcs⟩ := hpv
  have F := tkF hv hp hE hkl
  have hnext := doF_take (x := x) hv
  have hset : rows.set v.slot.toNat [Tr.str v.to] = strRows (doF x (t.take (k + 1))) := by rw [hrows, strRows_setL, hnext]
  have hsl : (strRows (doF x (t.take (k + 1)))).length = x.length := by rw [strRows_len, doF_len]
  have kO := out_fn v.slot 0 (((strRows x).length : Int) - 1)
  rw [show outB v.slot 0 (((strRows x).length : Int) - 1) = decide (v.slot < 0 ∨ (x.length : Int) ≤ v.slot) by rw [hxl, Bool.eq_iff_iff]; simp [outB]; omega] at kO
  have k5 := odd_fn v.to
  have k6 := wordFault_fn [v.to] (by simp)
  rw [show ([v.to] : List ByteArray).any oddL = oddL v.to by simp] at k6
  have hqr : ∀ n : Int, n.toNat < x.length → ∃ z, rows[n.toNat]? = some [Tr.str z] := fun n hn => by rw [hrows]; exact ⟨_, strRows_get (by rw [doF_len]; exact hn)⟩
  clear hE hp hv hnext hrows
  generalize hr2 : strRows (doF x (t.take (k + 1))) = rows2 at *
  obtain ⟨vs, vf, vt⟩ := v
  simp only at *
  by_cases h1 : vs < 0 ∨ (x.length : Int) ≤ vs
  · have bb := F.e1 h1
    rw [decide_eq_true h1] at kO
    clear F
    repeat' (first | refine goH ?_ | refine goV ?_ | refine goB (fun b => ?_) | refine goG ?_ | (refine Ops.k_guard ?_; first | (refine Ops.guard_dec rfl rfl (fun hc => ?_) (fun hc => ?_) <;> try (exfalso; omega)) | refine Ops.guard_split rfl rfl (fun hc => ?_) (fun hc => ?_)) | refine goI ?_ | (refine Cw.k_cond ?_; first | (refine Cw.cond_dec rfl (fun hc => ?_) (fun hc => ?_) <;> try (exfalso; omega)) | refine Cw.cond_bool rfl (fun hc => ?_) (fun hc => ?_)) | (refine Ops.k_calla ?_; first | (refine Ops.k_callf 36 ?_; refine Ops.callV kO (Evs.cons rfl (Evs.cons rfl (Evs.cons rfl Evs.nil))) rfl ?_)) | (apply OpW.k_call; first | (apply OpW.k_callf 36; exact OpW.callV kO (Evs.cons rfl (Evs.cons rfl (Evs.cons rfl Evs.nil))))) | refine goR ?_ | refine goP ?_ | apply PSeq.cons | apply PSeq.yes rfl rfl rfl | exact goW | fail)
    all_goals first | (exfalso; omega) | (refine Fin.ret (Ent.trans (Ent.nilsl 1 (s := 4) rfl) (Ent.take goTk)) (Outs.many rfl (OutL.cons goOe (OutL.cons goOe OutL.nil)) rfl) ⟨rfl, by rw [bb]; rfl⟩)
  rw [decide_eq_false h1] at kO
  have hra := getD_row (a := x) (n := vs.toNat) (by omega)
  have hq : ∃ z, rows[vs.toNat]? = some [Tr.str z] := hqr vs (by omega)
  obtain ⟨z, hq⟩ := hq
  cases pv with
  | true =>
    rcases hcs with ⟨hk0, h⟩ | ⟨y, hk1, hrow2, h⟩
    · cases h
    have h2 : vs ≤ y.slot := of_decide_eq_true h.symm
    have bb := F.e7 h1 rfl
    clear F h
    repeat' (first | refine goH ?_ | refine goV ?_ | refine goB (fun b => ?_) | refine goG ?_ | (refine Ops.k_guard ?_; first | (refine Ops.guard_dec rfl rfl (fun hc => ?_) (fun hc => ?_) <;> try (exfalso; omega)) | refine Ops.guard_split rfl rfl (fun hc => ?_) (fun hc => ?_)) | refine goI ?_ | (refine Cw.k_cond ?_; first | (refine Cw.cond_dec rfl (fun hc => ?_) (fun hc => ?_) <;> try (exfalso; omega)) | refine Cw.cond_bool rfl (fun hc => ?_) (fun hc => ?_)) | (refine Ops.k_calla ?_; first | (refine Ops.k_callf 36 ?_; refine Ops.callV kO (Evs.cons rfl (Evs.cons rfl (Evs.cons rfl Evs.nil))) rfl ?_)) | (apply OpW.k_call; first | (apply OpW.k_callf 36; exact OpW.callV kO (Evs.cons rfl (Evs.cons rfl (Evs.cons rfl Evs.nil))))) | refine goR ?_ | refine goP ?_ | apply PSeq.cons | apply PSeq.yes rfl rfl rfl | exact goW | fail)
    all_goals first | (exfalso; omega) | (refine Fin.ret (Ent.trans (Ent.nilsl 1 (s := 4) rfl) (Ent.take goTk)) (Outs.many rfl (OutL.cons goOe (OutL.cons goOe OutL.nil)) rfl) ⟨rfl, by rw [bb]; rfl⟩)
  | false =>
    have hcs2 : k = 0 ∨ ∃ y : Tk, 0 < k ∧ (t.map Tk.row)[((k : Int) - 1).toNat]? = some [.int y.slot, .str y.fr, .str y.to] ∧ ¬ vs ≤ y.slot := by
      rcases hcs with ⟨hk0, h⟩ | ⟨y, hk1, hrow2, h⟩
      · exact .inl hk0
      · exact .inr ⟨y, hk1, hrow2, of_decide_eq_false h.symm⟩
    clear hcs
    by_cases h3 : x.getD vs.toNat eL = vf
    rotate_left
    · have bb := F.e13 h1 rfl h3
      clear F
      have h3' : ¬ vf = x.getD vs.toNat eL := fun h => h3 h.symm
      generalize x.getD vs.toNat eL = u at *
      rcases hcs2 with hk0 | ⟨y, hk1, hrow2, h2⟩
      all_goals (repeat' (first | refine goH ?_ | refine goV ?_ | refine goB (fun b => ?_) | refine goG ?_ | (refine Ops.k_guard ?_; first | (refine Ops.guard_dec rfl rfl (fun hc => ?_) (fun hc => ?_) <;> try (exfalso; omega)) | refine Ops.guard_split rfl rfl (fun hc => ?_) (fun hc => ?_)) | refine goI ?_ | (refine Cw.k_cond ?_; first | (refine Cw.cond_dec rfl (fun hc => ?_) (fun hc => ?_) <;> try (exfalso; omega)) | refine Cw.cond_bool rfl (fun hc => ?_) (fun hc => ?_)) | (refine Ops.k_calla ?_; first | (refine Ops.k_callf 36 ?_; refine Ops.callV kO (Evs.cons rfl (Evs.cons rfl (Evs.cons rfl Evs.nil))) rfl ?_)) | (apply OpW.k_call; first | (apply OpW.k_callf 36; exact OpW.callV kO (Evs.cons rfl (Evs.cons rfl (Evs.cons rfl Evs.nil))))) | refine goR ?_ | refine goP ?_ | apply PSeq.cons | apply PSeq.yes rfl rfl rfl | exact goW | fail))
      all_goals first | (exfalso; omega) | (exfalso; contradiction) | (refine Fin.ret (Ent.trans (Ent.nilsl 1 (s := 4) rfl) (Ent.take goTk)) (Outs.many rfl (OutL.cons goOe (OutL.cons goOe OutL.nil)) rfl) ⟨rfl, by rw [bb]; rfl⟩)
    have hpos : 0 ≤ vs ∧ vs < x.length := by omega
    by_cases h4 : vf = vt
    · have bb := F.e3 h1 rfl h3 h4
      clear F
      generalize x.getD vs.toNat eL = u at *
      subst h3
      rcases hcs2 with hk0 | ⟨y, hk1, hrow2, h2⟩
      all_goals (repeat' (first | refine goH ?_ | refine goV ?_ | refine goB (fun b => ?_) | refine goG ?_ | (refine Ops.k_guard ?_; first | (refine Ops.guard_dec rfl rfl (fun hc => ?_) (fun hc => ?_) <;> try (exfalso; omega)) | refine Ops.guard_split rfl rfl (fun hc => ?_) (fun hc => ?_)) | refine goI ?_ | (refine Cw.k_cond ?_; first | (refine Cw.cond_dec rfl (fun hc => ?_) (fun hc => ?_) <;> try (exfalso; omega)) | refine Cw.cond_bool rfl (fun hc => ?_) (fun hc => ?_)) | (refine Ops.k_calla ?_; first | (refine Ops.k_callf 36 ?_; refine Ops.callV kO (Evs.cons rfl (Evs.cons rfl (Evs.cons rfl Evs.nil))) rfl ?_)) | (apply OpW.k_call; first | (apply OpW.k_callf 36; exact OpW.callV kO (Evs.cons rfl (Evs.cons rfl (Evs.cons rfl Evs.nil))))) | refine goR ?_ | refine goP ?_ | apply PSeq.cons | apply PSeq.yes rfl rfl rfl | exact goW | fail))
      all_goals first | (exfalso; omega) | (exfalso; contradiction) | (refine Fin.ret (Ent.trans (Ent.nilsl 1 (s := 4) rfl) (Ent.take goTk)) (Outs.many rfl (OutL.cons goOe (OutL.cons goOe OutL.nil)) rfl) ⟨rfl, by rw [bb]; rfl⟩)
    cases ho : oddL vt with
    | true =>
      have bb := F.e5 h1 rfl h3 h4 ho
      rw [ho] at k5 k6
      clear F
      generalize x.getD vs.toNat eL = u at *
      subst h3
      rcases hcs2 with hk0 | ⟨y, hk1, hrow2, h2⟩
      all_goals (repeat' (first | refine goH ?_ | refine goV ?_ | refine goB (fun b => ?_) | refine goG ?_ | (refine Ops.k_guard ?_; first | (refine Ops.guard_dec rfl rfl (fun hc => ?_) (fun hc => ?_) <;> try (exfalso; omega)) | refine Ops.guard_split rfl rfl (fun hc => ?_) (fun hc => ?_)) | refine goI ?_ | (refine Cw.k_cond ?_; first | (refine Cw.cond_dec rfl (fun hc => ?_) (fun hc => ?_) <;> try (exfalso; omega)) | refine Cw.cond_bool rfl (fun hc => ?_) (fun hc => ?_)) | (refine Ops.k_calla ?_; first | (refine Ops.k_callf 36 ?_; refine Ops.callV kO (Evs.cons rfl (Evs.cons rfl (Evs.cons rfl Evs.nil))) rfl ?_) | (refine Ops.k_callf 30 ?_; refine Ops.callV k5 (Evs.cons rfl Evs.nil) rfl ?_) | (refine Ops.k_callf 32 ?_; refine Ops.callV k6 (Evs.cons rfl Evs.nil) rfl ?_)) | (apply OpW.k_call; first | (apply OpW.k_callf 36; exact OpW.callV kO (Evs.cons rfl (Evs.cons rfl (Evs.cons rfl Evs.nil)))) | (apply OpW.k_callf 30; exact OpW.callV k5 (Evs.cons rfl Evs.nil)) | (apply OpW.k_callf 32; exact OpW.callV k6 (Evs.cons rfl Evs.nil))) | refine goR ?_ | refine goP ?_ | apply PSeq.cons | apply PSeq.yes rfl rfl rfl | exact goW | fail))
      all_goals first | (exfalso; omega) | (exfalso; contradiction) | (refine Fin.ret (Ent.trans (Ent.nilsl 1 (s := 4) rfl) (Ent.take goTk)) (Outs.many rfl (OutL.cons goOe (OutL.cons goOe OutL.nil)) rfl) ⟨rfl, by rw [bb]; rfl⟩)
    | false =>
      have bb := F.e0 h1 rfl h3 h4 ho
      rw [ho] at k5 k6
      clear F
      generalize x.getD vs.toNat eL = u at *
      subst h3
      rcases hcs2 with hk0 | ⟨y, hk1, hrow2, h2⟩
      all_goals (repeat' (first | refine goH ?_ | (refine Ops.k_store ?_; first | (refine Ops.store_own1 rfl rfl goPk (by first | rfl | assumption | (simp [*]; done)) (by decide) ?_; erw [hset]) | (refine Ops.store_boxN rfl rfl goPk rfl rfl goNt ?_)) | refine goV ?_ | refine goB (fun b => ?_) | refine goG ?_ | (refine Ops.k_guard ?_; first | (refine Ops.guard_dec rfl rfl (fun hc => ?_) (fun hc => ?_) <;> try (exfalso; omega)) | refine Ops.guard_split rfl rfl (fun hc => ?_) (fun hc => ?_)) | refine goI ?_ | (refine Cw.k_cond ?_; first | (refine Cw.cond_dec rfl (fun hc => ?_) (fun hc => ?_) <;> try (exfalso; omega)) | refine Cw.cond_bool rfl (fun hc => ?_) (fun hc => ?_)) | (refine Ops.k_calla ?_; first | (refine Ops.k_callf 36 ?_; refine Ops.callV kO (Evs.cons rfl (Evs.cons rfl (Evs.cons rfl Evs.nil))) rfl ?_) | (refine Ops.k_callf 30 ?_; refine Ops.callV k5 (Evs.cons rfl Evs.nil) rfl ?_) | (refine Ops.k_callf 32 ?_; refine Ops.callV k6 (Evs.cons rfl Evs.nil) rfl ?_)) | (apply OpW.k_call; first | (apply OpW.k_callf 36; exact OpW.callV kO (Evs.cons rfl (Evs.cons rfl (Evs.cons rfl Evs.nil)))) | (apply OpW.k_callf 30; exact OpW.callV k5 (Evs.cons rfl Evs.nil)) | (apply OpW.k_callf 32; exact OpW.callV k6 (Evs.cons rfl Evs.nil))) | refine goR ?_ | refine goP ?_ | apply PSeq.cons | apply PSeq.yes rfl rfl rfl | exact goW | fail))
      all_goals first | (exfalso; omega) | (exfalso; contradiction) | exact ⟨_, _, _, (Ent.mk goSub goTk), ⟨k + 1, rows2, rfl, ⟨by omega, bb, hr2.symm, hsl⟩, rfl, rfl⟩, by omega⟩
end Lg
end
section
set_option linter.all false
set_option maxRecDepth 100000
set_option maxHeartbeats 4000000
namespace Lg
open Go Go.Proofs
theorem equalStrs_same (xs : List ByteArray) (h : xs.length ≤ 1000000000) : PFn Tryd.prog 14 [.strs xs, .strs xs] (· = .bool true) := by
  refine PFn.mk (Spec.body Tryd.func14 rfl rfl (Tryd.ntmps14) rfl fun w0 own0 M => ?_)
  have hL := strRows_len xs
  repeat' (first | refine goH ?_ | refine goV ?_ | refine goI ?_ | (refine Cw.k_cond ?_; first | (refine Cw.cond_dec rfl (fun hc => ?_) (fun hc => ?_) <;> try (exfalso; omega)) | refine Cw.cond_bool rfl (fun hc => ?_) (fun hc => ?_)) | refine goR ?_ | refine goP ?_ | apply PSeq.cons | apply PSeq.yes rfl rfl rfl | exact goW | fail)
  refine Cw.loop (ι := Nat) (fun k => k ≤ xs.length) (fun k => [(0, .strs xs), (1, .strs xs), (11, .strs xs), (12, .int (strRows xs).length), (13, .int k)]) (fun _ => []) (fun k => xs.length - k) ⟨0, by omega, (Ent.mk goSub goTk)⟩ ?_
  intro k hk
  by_cases hkl : k < xs.length
  · obtain ⟨d, hd⟩ : ∃ x, xs[k]? = some x := ⟨_, List.getElem?_eq_getElem hkl⟩
    have hrow := strRows_at hd
    repeat' (first | refine goH ?_ | refine goV ?_ | refine goI ?_ | (refine Cw.k_cond ?_; first | (refine Cw.cond_dec rfl (fun hc => ?_) (fun hc => ?_) <;> try (exfalso; omega)) | refine Cw.cond_bool rfl (fun hc => ?_) (fun hc => ?_)) | refine goR ?_ | refine goP ?_ | apply PSeq.cons | apply PSeq.yes rfl rfl rfl | exact goW | fail)
    all_goals first | exact ⟨k + 1, by omega, by omega, (Ent.mk goSub goTk)⟩ | exact absurd rfl hc
  · repeat' (first | refine goH ?_ | refine goV ?_ | refine goI ?_ | (refine Cw.k_cond ?_; first | (refine Cw.cond_dec rfl (fun hc => ?_) (fun hc => ?_) <;> try (exfalso; omega)) | refine Cw.cond_bool rfl (fun hc => ?_) (fun hc => ?_)) | refine goR ?_ | refine goP ?_ | apply PSeq.cons | apply PSeq.yes rfl rfl rfl | exact goW | fail)
    exact Fin.ret Ent.refl (Outs.one rfl rfl) ⟨rfl, rfl⟩
end Lg
end
section
set_option linter.all false
namespace Lg
open Go Go.Proofs

theorem Ops.shut0 {P : Program} {Γ : Ctx} {env : Env} {cs : List Chunk} {Q : Post} {R : Array Oper} {l : List Oper} {ty b : Nat} {cells : List Tr} {rows : List (List Tr)} (h : cells = [Tr.sl 1 rows, Tr.int ((0 : Nat) : Int)]) (k : Ops P Γ R l env (Chunk.strm ty b rows 0 :: cs) Q) : Ops P Γ R l env (Chunk.box b ty cells :: cs) Q := by
  subst h
  exact Ops.ent (Ent.shut_strm (m := 0) (Nat.le_refl 0)) k
end Lg
end
