/- A part of the proof of a law of this seat: it adds no condition. By an AI agent. -/
import Derived.Test.YtjonpkaojmpmiaaDoorLgX2
import Derived.Test.YtjonpkaojmpmiaaDoorOff2
section
set_option linter.all false
set_option maxRecDepth 100000
set_option maxHeartbeats 4000000
namespace Lg
open Go Go.Proofs

def rackE (r c : Int) : Int := if r < 1 ∨ 10 < r ∨ c < 1 ∨ 10 < c then 1 else if 60 < r * c then 2 else 0
theorem rc_bd {r c : Int} (h : ¬ (r < 1 ∨ 10 < r ∨ c < 1 ∨ 10 < c)) : 1 ≤ r * c ∧ r * c ≤ 100 := by
  have h1 : 1 ≤ r ∧ r ≤ 10 ∧ 1 ≤ c ∧ c ≤ 10 := by omega
  have h2 : 0 ≤ (r - 1) * (c - 1) := Int.mul_nonneg (by omega) (by omega)
  have h3 : 0 ≤ (10 - r) * c := Int.mul_nonneg (by omega) (by omega)
  have e2 : (r - 1) * (c - 1) = r * c - r - c + 1 := by
    rw [Int.sub_mul, Int.mul_sub, Int.mul_one, Int.one_mul]; omega
  have e3 : (10 - r) * c = 10 * c - r * c := Int.sub_mul _ _ _
  omega
theorem rackE_bd {r c : Int} (h : rackE r c = 0) : (1 ≤ r ∧ r ≤ 10) ∧ (1 ≤ c ∧ c ≤ 10) ∧ 1 ≤ r * c ∧ r * c ≤ 60 := by
  unfold rackE at h
  split at h
  · omega
  · rename_i h1
    have := rc_bd h1
    split at h
    · omega
    · exact ⟨by omega, by omega, by omega, by omega⟩
theorem checkRack_fn (r c : Int) : PFn Tryd.prog 37 [.agg [.int r, .int c]] (· = .int (rackE r c)) := by
  refine PFn.mk (Spec.body Tryd.func37 rfl rfl (Tryd.ntmps37) rfl fun w0 own0 M => ?_)
  by_cases h1 : r < 1 ∨ 10 < r ∨ c < 1 ∨ 10 < c
  · have e : rackE r c = 1 := by unfold rackE; rw [if_pos h1]
    have k1 := out_fn r 1 10
    by_cases h2 : r < 1 ∨ 10 < r
    · rw [outB_eq.2 h2] at k1
      repeat' (first | refine goH ?_ | refine goV ?_ | refine goB (fun b => ?_) | refine goG ?_ | (refine Ops.k_guard ?_; first | (refine Ops.guard_dec rfl rfl (fun hc => ?_) (fun hc => ?_) <;> try (exfalso; omega)) | refine Ops.guard_split rfl rfl (fun hc => ?_) (fun hc => ?_)) | refine goI ?_ | (refine Cw.k_cond ?_; first | (refine Cw.cond_dec rfl (fun hc => ?_) (fun hc => ?_) <;> try (exfalso; omega)) | refine Cw.cond_bool rfl (fun hc => ?_) (fun hc => ?_)) | (refine Ops.k_calla ?_; first | (refine Ops.k_callf 36 ?_; refine Ops.callV k1 (Evs.cons rfl (Evs.cons rfl (Evs.cons rfl Evs.nil))) rfl ?_)) | fail)
      exact Fin.ret (Ent.take goTk) (Outs.one rfl rfl) ⟨rfl, congrArg Tr.int e.symm⟩
    · rw [outB_f.2 (by omega)] at k1
      repeat' (first | refine goH ?_ | refine goV ?_ | refine goB (fun b => ?_) | refine goG ?_ | (refine Ops.k_guard ?_; first | (refine Ops.guard_dec rfl rfl (fun hc => ?_) (fun hc => ?_) <;> try (exfalso; omega)) | refine Ops.guard_split rfl rfl (fun hc => ?_) (fun hc => ?_)) | refine goI ?_ | (refine Cw.k_cond ?_; first | (refine Cw.cond_dec rfl (fun hc => ?_) (fun hc => ?_) <;> try (exfalso; omega)) | refine Cw.cond_bool rfl (fun hc => ?_) (fun hc => ?_)) | (refine Ops.k_calla ?_; first | (refine Ops.k_callf 36 ?_; refine Ops.callV k1 (Evs.cons rfl (Evs.cons rfl (Evs.cons rfl Evs.nil))) rfl ?_) | (refine Ops.k_callf 36 ?_; refine Ops.callV (out_t c 1 10 (by omega)) (Evs.cons rfl (Evs.cons rfl (Evs.cons rfl Evs.nil))) rfl ?_)) | fail)
      exact Fin.ret (Ent.take goTk) (Outs.one rfl rfl) ⟨rfl, congrArg Tr.int e.symm⟩
  · have hb := rc_bd h1
    have k1 := out_f r 1 10 (by omega)
    have k2 := out_f c 1 10 (by omega)
    by_cases h2 : 60 < r * c
    · have e : rackE r c = 2 := by unfold rackE; rw [if_neg h1, if_pos h2]
      repeat' (first | refine goH ?_ | refine goV ?_ | refine goB (fun b => ?_) | refine goG ?_ | (refine Ops.k_guard ?_; first | (refine Ops.guard_dec rfl rfl (fun hc => ?_) (fun hc => ?_) <;> try (exfalso; omega)) | refine Ops.guard_split rfl rfl (fun hc => ?_) (fun hc => ?_)) | refine goI ?_ | (refine Cw.k_cond ?_; first | (refine Cw.cond_dec rfl (fun hc => ?_) (fun hc => ?_) <;> try (exfalso; omega)) | refine Cw.cond_bool rfl (fun hc => ?_) (fun hc => ?_)) | (refine Ops.k_calla ?_; first | (refine Ops.k_callf 36 ?_; refine Ops.callV k1 (Evs.cons rfl (Evs.cons rfl (Evs.cons rfl Evs.nil))) rfl ?_) | (refine Ops.k_callf 36 ?_; refine Ops.callV k2 (Evs.cons rfl (Evs.cons rfl (Evs.cons rfl Evs.nil))) rfl ?_)) | fail)
      exact Fin.ret (Ent.take goTk) (Outs.one rfl rfl) ⟨rfl, congrArg Tr.int e.symm⟩
    · have e : rackE r c = 0 := by unfold rackE; rw [if_neg h1, if_neg h2]
      repeat' (first | refine goH ?_ | refine goV ?_ | refine goB (fun b => ?_) | refine goG ?_ | (refine Ops.k_guard ?_; first | (refine Ops.guard_dec rfl rfl (fun hc => ?_) (fun hc => ?_) <;> try (exfalso; omega)) | refine Ops.guard_split rfl rfl (fun hc => ?_) (fun hc => ?_)) | refine goI ?_ | (refine Cw.k_cond ?_; first | (refine Cw.cond_dec rfl (fun hc => ?_) (fun hc => ?_) <;> try (exfalso; omega)) | refine Cw.cond_bool rfl (fun hc => ?_) (fun hc => ?_)) | (refine Ops.k_calla ?_; first | (refine Ops.k_callf 36 ?_; refine Ops.callV k1 (Evs.cons rfl (Evs.cons rfl (Evs.cons rfl Evs.nil))) rfl ?_) | (refine Ops.k_callf 36 ?_; refine Ops.callV k2 (Evs.cons rfl (Evs.cons rfl (Evs.cons rfl Evs.nil))) rfl ?_)) | fail)
      exact Fin.ret (Ent.take goTk) (Outs.one rfl rfl) ⟨rfl, congrArg Tr.int e.symm⟩
theorem rackFault_fn (r c : Int) : PFn Tryd.prog 42 [.agg [.int r, .int c]] (· = .int (rackE r c)) := by
  refine PFn.mk (Spec.body Tryd.func42 rfl rfl (Tryd.ntmps42) rfl fun w0 own0 M => ?_)
  by_cases h1 : r < 1 ∨ 10 < r ∨ c < 1 ∨ 10 < c
  · have e : rackE r c = 1 := by unfold rackE; rw [if_pos h1]
    by_cases h2 : r < 1
    · repeat' (first | refine goH ?_ | refine goV ?_ | refine goB (fun b => ?_) | refine goG ?_ | (refine Ops.k_guard ?_; first | (refine Ops.guard_dec rfl rfl (fun hc => ?_) (fun hc => ?_) <;> try (exfalso; omega)) | refine Ops.guard_split rfl rfl (fun hc => ?_) (fun hc => ?_)) | refine goI ?_ | (refine Cw.k_cond ?_; first | (refine Cw.cond_dec rfl (fun hc => ?_) (fun hc => ?_) <;> try (exfalso; omega)) | refine Cw.cond_bool rfl (fun hc => ?_) (fun hc => ?_)) | fail)
      exact Fin.ret (Ent.take goTk) (Outs.one rfl rfl) ⟨rfl, congrArg Tr.int e.symm⟩
    by_cases h3 : 10 < r
    · repeat' (first | refine goH ?_ | refine goV ?_ | refine goB (fun b => ?_) | refine goG ?_ | (refine Ops.k_guard ?_; first | (refine Ops.guard_dec rfl rfl (fun hc => ?_) (fun hc => ?_) <;> try (exfalso; omega)) | refine Ops.guard_split rfl rfl (fun hc => ?_) (fun hc => ?_)) | refine goI ?_ | (refine Cw.k_cond ?_; first | (refine Cw.cond_dec rfl (fun hc => ?_) (fun hc => ?_) <;> try (exfalso; omega)) | refine Cw.cond_bool rfl (fun hc => ?_) (fun hc => ?_)) | fail)
      exact Fin.ret (Ent.take goTk) (Outs.one rfl rfl) ⟨rfl, congrArg Tr.int e.symm⟩
    by_cases h4 : c < 1
    · repeat' (first | refine goH ?_ | refine goV ?_ | refine goB (fun b => ?_) | refine goG ?_ | (refine Ops.k_guard ?_; first | (refine Ops.guard_dec rfl rfl (fun hc => ?_) (fun hc => ?_) <;> try (exfalso; omega)) | refine Ops.guard_split rfl rfl (fun hc => ?_) (fun hc => ?_)) | refine goI ?_ | (refine Cw.k_cond ?_; first | (refine Cw.cond_dec rfl (fun hc => ?_) (fun hc => ?_) <;> try (exfalso; omega)) | refine Cw.cond_bool rfl (fun hc => ?_) (fun hc => ?_)) | fail)
      exact Fin.ret (Ent.take goTk) (Outs.one rfl rfl) ⟨rfl, congrArg Tr.int e.symm⟩
    · have h5 : 10 < c := by omega
      repeat' (first | refine goH ?_ | refine goV ?_ | refine goB (fun b => ?_) | refine goG ?_ | (refine Ops.k_guard ?_; first | (refine Ops.guard_dec rfl rfl (fun hc => ?_) (fun hc => ?_) <;> try (exfalso; omega)) | refine Ops.guard_split rfl rfl (fun hc => ?_) (fun hc => ?_)) | refine goI ?_ | (refine Cw.k_cond ?_; first | (refine Cw.cond_dec rfl (fun hc => ?_) (fun hc => ?_) <;> try (exfalso; omega)) | refine Cw.cond_bool rfl (fun hc => ?_) (fun hc => ?_)) | fail)
      exact Fin.ret (Ent.take goTk) (Outs.one rfl rfl) ⟨rfl, congrArg Tr.int e.symm⟩
  · have hb := rc_bd h1
    by_cases h2 : 60 < r * c
    · have e : rackE r c = 2 := by unfold rackE; rw [if_neg h1, if_pos h2]
      repeat' (first | refine goH ?_ | refine goV ?_ | refine goB (fun b => ?_) | refine goG ?_ | (refine Ops.k_guard ?_; first | (refine Ops.guard_dec rfl rfl (fun hc => ?_) (fun hc => ?_) <;> try (exfalso; omega)) | refine Ops.guard_split rfl rfl (fun hc => ?_) (fun hc => ?_)) | refine goI ?_ | (refine Cw.k_cond ?_; first | (refine Cw.cond_dec rfl (fun hc => ?_) (fun hc => ?_) <;> try (exfalso; omega)) | refine Cw.cond_bool rfl (fun hc => ?_) (fun hc => ?_)) | fail)
      exact Fin.ret (Ent.take goTk) (Outs.one rfl rfl) ⟨rfl, congrArg Tr.int e.symm⟩
    · have e : rackE r c = 0 := by unfold rackE; rw [if_neg h1, if_neg h2]
      repeat' (first | refine goH ?_ | refine goV ?_ | refine goB (fun b => ?_) | refine goG ?_ | (refine Ops.k_guard ?_; first | (refine Ops.guard_dec rfl rfl (fun hc => ?_) (fun hc => ?_) <;> try (exfalso; omega)) | refine Ops.guard_split rfl rfl (fun hc => ?_) (fun hc => ?_)) | refine goI ?_ | (refine Cw.k_cond ?_; first | (refine Cw.cond_dec rfl (fun hc => ?_) (fun hc => ?_) <;> try (exfalso; omega)) | refine Cw.cond_bool rfl (fun hc => ?_) (fun hc => ?_)) | fail)
      exact Fin.ret (Ent.take goTk) (Outs.one rfl rfl) ⟨rfl, congrArg Tr.int e.symm⟩

end Lg
end
section
set_option linter.all false
set_option maxRecDepth 100000
set_option maxHeartbeats 4000000
namespace Lg
open Go Go.Proofs

def chgE (a b : List ByteArray) : Int := if a.length > 60 then 2 else if a.length ≠ b.length then 3 else 0
def difB (a b : List ByteArray) (i : Nat) : Bool := decide (¬ a.getD i ⟨#[]⟩ = b.getD i ⟨#[]⟩)
def difN (a b : List ByteArray) (k : Nat) : List Int := ((List.range k).filter (difB a b)).map Int.ofNat
theorem difN_succ (a b : List ByteArray) (k : Nat) : difN a b (k + 1) = difN a b k ++ (if difB a b k then [(k : Int)] else []) := by
  unfold difN
  rw [List.range_succ, List.filter_append, List.map_append, List.filter_cons, List.filter_nil]
  cases difB a b k <;> rfl
theorem difN_len (a b : List ByteArray) (k : Nat) : (difN a b k).length ≤ k := by
  unfold difN
  rw [List.length_map]
  have := List.length_filter_le (difB a b) (List.range k)
  rw [List.length_range] at this
  exact this
theorem chgFault_fn (a b : List ByteArray) (ha : a.length ≤ 1000) (hb : b.length ≤ 1000) : PFn Tryd.prog 31 [.strs a, .strs b] (· = .int (chgE a b)) := by
  have h1 := strRows_len a
  have h2 := strRows_len b
  refine PFn.mk (Spec.body Tryd.func31 rfl rfl (Tryd.ntmps31) rfl fun w0 own0 M => ?_)
  unfold chgE
  by_cases q1 : a.length > 60
  · rw [if_pos q1]
    repeat' (first | refine goH ?_ | refine goV ?_ | refine goI ?_ | (refine Cw.k_cond ?_; first | (refine Cw.cond_dec rfl (fun hc => ?_) (fun hc => ?_) <;> try (exfalso; omega)) | refine Cw.cond_bool rfl (fun hc => ?_) (fun hc => ?_)) | fail)
    exact Fin.ret Ent.refl (Outs.one rfl rfl) ⟨rfl, rfl⟩
  rw [if_neg q1]
  by_cases q2 : a.length = b.length
  · rw [if_neg (by omega)]
    repeat' (first | refine goH ?_ | refine goV ?_ | refine goI ?_ | (refine Cw.k_cond ?_; first | (refine Cw.cond_dec rfl (fun hc => ?_) (fun hc => ?_) <;> try (exfalso; omega)) | refine Cw.cond_bool rfl (fun hc => ?_) (fun hc => ?_)) | fail)
    exact Fin.ret Ent.refl (Outs.one rfl rfl) ⟨rfl, rfl⟩
  · rw [if_pos q2]
    repeat' (first | refine goH ?_ | refine goV ?_ | refine goI ?_ | (refine Cw.k_cond ?_; first | (refine Cw.cond_dec rfl (fun hc => ?_) (fun hc => ?_) <;> try (exfalso; omega)) | refine Cw.cond_bool rfl (fun hc => ?_) (fun hc => ?_)) | fail)
    exact Fin.ret Ent.refl (Outs.one rfl rfl) ⟨rfl, rfl⟩
theorem changed_fn (a b : List ByteArray) (ha : a.length ≤ 1000) (hb : b.length ≤ 1000) : PFn Tryd.prog 28 [.strs a, .strs b] (· = .tup [.ints (if chgE a b ≠ 0 then [] else difN a b a.length), .int (chgE a b)]) := by
  have h1 := strRows_len a
  have h2 := strRows_len b
  refine PFn.mk (Spec.body Tryd.func28 rfl rfl (Tryd.ntmps28) rfl fun w0 own0 M => ?_)
  unfold chgE
  by_cases q1 : a.length > 60
  · rw [if_pos q1]
    repeat' (first | refine goH ?_ | refine goV ?_ | refine goC (fun ad cap => ?_) | refine goI ?_ | (refine Cw.k_cond ?_; first | (refine Cw.cond_dec rfl (fun hc => ?_) (fun hc => ?_) <;> try (exfalso; omega)) | refine Cw.cond_bool rfl (fun hc => ?_) (fun hc => ?_)) | refine goR ?_ | refine goP ?_ | apply PSeq.cons | apply PSeq.yes rfl rfl rfl | exact goW | fail)
    refine Fin.ret (Ent.trans (Ent.nilsl 1 (s := 4) rfl) (Ent.take goTk)) (Outs.many rfl (OutL.cons goOe (OutL.cons goOe OutL.nil)) rfl) ⟨rfl, rfl⟩
  rw [if_neg q1]
  by_cases q2 : a.length = b.length
  rotate_left
  · rw [if_pos q2]
    repeat' (first | refine goH ?_ | refine goV ?_ | refine goC (fun ad cap => ?_) | refine goI ?_ | (refine Cw.k_cond ?_; first | (refine Cw.cond_dec rfl (fun hc => ?_) (fun hc => ?_) <;> try (exfalso; omega)) | refine Cw.cond_bool rfl (fun hc => ?_) (fun hc => ?_)) | refine goR ?_ | refine goP ?_ | apply PSeq.cons | apply PSeq.yes rfl rfl rfl | exact goW | fail)
    refine Fin.ret (Ent.trans (Ent.nilsl 1 (s := 4) rfl) (Ent.take goTk)) (Outs.many rfl (OutL.cons goOe (OutL.cons goOe OutL.nil)) rfl) ⟨rfl, rfl⟩
  rw [show (if a.length ≠ b.length then (3 : Int) else 0) = 0 from if_neg (by omega)]
  repeat' (first | refine goH ?_ | refine goV ?_ | refine goC (fun ad cap => ?_) | refine goI ?_ | (refine Cw.k_cond ?_; first | (refine Cw.cond_dec rfl (fun hc => ?_) (fun hc => ?_) <;> try (exfalso; omega)) | refine Cw.cond_bool rfl (fun hc => ?_) (fun hc => ?_)) | refine goR ?_ | refine goP ?_ | apply PSeq.cons | apply PSeq.yes rfl rfl rfl | exact goW | fail)
  refine Cw.loopI [(0, _), (1, _), (19, _)] _ (fun n e cc => ∃ (k : Nat) (ad : Option Addr) (cap : Nat) (rows : List (List Tr)), n = a.length - k ∧ (k ≤ a.length ∧ rows = intRows (difN a b k) ∧ rows.length ≤ k) ∧ e = [(6, Tr.raw (.slice ad rows.length cap)), (20, .int k)] ∧ cc = [Chunk.own ad cap 1 3 rows])
    ⟨_, _, _, Ent.trans (Ent.nil 1 3) (Ent.mkP goSub goPm), 0, none, 0, [], rfl, ⟨by omega, rfl, by simp⟩, rfl, rfl⟩ ?_
  rintro _ _ _ ⟨k, ad, cap, rows, rfl, ⟨hk, hrows, hrl⟩, rfl, rfl⟩
  by_cases hkl : k < a.length
  · obtain ⟨x, hx⟩ := at_lt hkl
    obtain ⟨y, hy⟩ := at_lt (l := b) (k := k) (by omega)
    have hrow1 : (strRows a)[((k : Nat) : Int).toNat]? = some [.str x] := strRows_at hx
    have hrow2 : (strRows b)[((k : Nat) : Int).toNat]? = some [.str y] := strRows_at hy
    have hst := difN_succ a b k
    have hd : difB a b k = decide (¬ x = y) := by unfold difB; rw [List.getD_eq_getElem?_getD, List.getD_eq_getElem?_getD, hx, hy]; rfl
    by_cases he : x = y
    · rw [hd, decide_eq_false (by simpa using he), if_neg (by decide), List.append_nil] at hst
      repeat' (first | refine goH ?_ | refine goV ?_ | refine goC (fun ad cap => ?_) | refine goI ?_ | (refine Cw.k_cond ?_; first | (refine Cw.cond_dec rfl (fun hc => ?_) (fun hc => ?_) <;> try (exfalso; omega)) | refine Cw.cond_bool rfl (fun hc => ?_) (fun hc => ?_)) | refine goR ?_ | refine goP ?_ | apply PSeq.cons | apply PSeq.yes rfl rfl rfl | exact goW | fail)
      all_goals first | exact ⟨_, _, _, (Ent.mk goSub goTk), ⟨k + 1, _, _, _, rfl, ⟨by omega, by rw [hst]; exact hrows, by omega⟩, rfl, rfl⟩, by omega⟩ | exact absurd he hc
    · rw [hd, decide_eq_true he, if_pos rfl] at hst
      have key : rows ++ [[Tr.int k]] = intRows (difN a b (k + 1)) := by rw [hst, hrows, intRows_app]; rfl
      repeat' (first | refine goH ?_ | refine goV ?_ | refine goC (fun ad cap => ?_) | refine goI ?_ | (refine Cw.k_cond ?_; first | (refine Cw.cond_dec rfl (fun hc => ?_) (fun hc => ?_) <;> try (exfalso; omega)) | refine Cw.cond_bool rfl (fun hc => ?_) (fun hc => ?_)) | refine goR ?_ | refine goP ?_ | apply PSeq.cons | apply PSeq.yes rfl rfl rfl | exact goW | fail)
      all_goals first | exact ⟨_, _, _, (Ent.mk goSub goTk), ⟨k + 1, _, _, _, rfl, ⟨by omega, key, by simp only [List.length_append, List.length_cons, List.length_nil]; omega⟩, rfl, rfl⟩, by omega⟩ | exact absurd he hc
  · rw [show k = a.length by omega] at hrows
    subst hrows
    repeat' (first | refine goH ?_ | refine goV ?_ | refine goC (fun ad cap => ?_) | refine goI ?_ | (refine Cw.k_cond ?_; first | (refine Cw.cond_dec rfl (fun hc => ?_) (fun hc => ?_) <;> try (exfalso; omega)) | refine Cw.cond_bool rfl (fun hc => ?_) (fun hc => ?_)) | refine goR ?_ | refine goP ?_ | apply PSeq.cons | apply PSeq.yes rfl rfl rfl | exact goW | fail)
    refine Fin.ret (Ent.trans (Ent.settle (s := 4) rfl goPk rfl) (Ent.take goTk)) (Outs.many rfl (OutL.cons goOe (OutL.cons goOe OutL.nil)) rfl) ⟨rfl, rfl⟩
theorem changedIn_fn (a b : List ByteArray) (ha : a.length ≤ 1000) (q2 : a.length = b.length) : PFn Tryd.prog 34 [.strs a, .strs b] (· = .ints (difN a b a.length)) := by
  have h1 := strRows_len a
  have h2 := strRows_len b
  refine PFn.mk (Spec.body Tryd.func34 rfl rfl (Tryd.ntmps34) rfl fun w0 own0 M => ?_)
  repeat' (first | refine goH ?_ | refine goV ?_ | refine goC (fun ad cap => ?_) | refine goI ?_ | (refine Cw.k_cond ?_; first | (refine Cw.cond_dec rfl (fun hc => ?_) (fun hc => ?_) <;> try (exfalso; omega)) | refine Cw.cond_bool rfl (fun hc => ?_) (fun hc => ?_)) | refine goR ?_ | refine goP ?_ | apply PSeq.cons | apply PSeq.yes rfl rfl rfl | exact goW | fail)
  refine Cw.loopI [(0, _), (1, _), (8, _)] _ (fun n e cc => ∃ (k : Nat) (ad : Option Addr) (cap : Nat) (rows : List (List Tr)), n = a.length - k ∧ (k ≤ a.length ∧ rows = intRows (difN a b k) ∧ rows.length ≤ k) ∧ e = [(5, Tr.raw (.slice ad rows.length cap)), (9, .int k)] ∧ cc = [Chunk.own ad cap 1 3 rows])
    ⟨_, _, _, Ent.trans (Ent.nil 1 3) (Ent.mkP goSub goPm), 0, none, 0, [], rfl, ⟨by omega, rfl, by simp⟩, rfl, rfl⟩ ?_
  rintro _ _ _ ⟨k, ad, cap, rows, rfl, ⟨hk, hrows, hrl⟩, rfl, rfl⟩
  by_cases hkl : k < a.length
  · obtain ⟨x, hx⟩ := at_lt hkl
    obtain ⟨y, hy⟩ := at_lt (l := b) (k := k) (by omega)
    have hrow1 : (strRows a)[((k : Nat) : Int).toNat]? = some [.str x] := strRows_at hx
    have hrow2 : (strRows b)[((k : Nat) : Int).toNat]? = some [.str y] := strRows_at hy
    have hst := difN_succ a b k
    have hd : difB a b k = decide (¬ x = y) := by unfold difB; rw [List.getD_eq_getElem?_getD, List.getD_eq_getElem?_getD, hx, hy]; rfl
    by_cases he : x = y
    · rw [hd, decide_eq_false (by simpa using he), if_neg (by decide), List.append_nil] at hst
      repeat' (first | refine goH ?_ | refine goV ?_ | refine goC (fun ad cap => ?_) | refine goI ?_ | (refine Cw.k_cond ?_; first | (refine Cw.cond_dec rfl (fun hc => ?_) (fun hc => ?_) <;> try (exfalso; omega)) | refine Cw.cond_bool rfl (fun hc => ?_) (fun hc => ?_)) | refine goR ?_ | refine goP ?_ | apply PSeq.cons | apply PSeq.yes rfl rfl rfl | exact goW | fail)
      all_goals first | exact ⟨_, _, _, (Ent.mk goSub goTk), ⟨k + 1, _, _, _, rfl, ⟨by omega, by rw [hst]; exact hrows, by omega⟩, rfl, rfl⟩, by omega⟩ | exact absurd he hc
    · rw [hd, decide_eq_true he, if_pos rfl] at hst
      have key : rows ++ [[Tr.int k]] = intRows (difN a b (k + 1)) := by rw [hst, hrows, intRows_app]; rfl
      repeat' (first | refine goH ?_ | refine goV ?_ | refine goC (fun ad cap => ?_) | refine goI ?_ | (refine Cw.k_cond ?_; first | (refine Cw.cond_dec rfl (fun hc => ?_) (fun hc => ?_) <;> try (exfalso; omega)) | refine Cw.cond_bool rfl (fun hc => ?_) (fun hc => ?_)) | refine goR ?_ | refine goP ?_ | apply PSeq.cons | apply PSeq.yes rfl rfl rfl | exact goW | fail)
      all_goals first | exact ⟨_, _, _, (Ent.mk goSub goTk), ⟨k + 1, _, _, _, rfl, ⟨by omega, key, by simp only [List.length_append, List.length_cons, List.length_nil]; omega⟩, rfl, rfl⟩, by omega⟩ | exact absurd he hc
  · rw [show k = a.length by omega] at hrows
    subst hrows
    repeat' (first | refine goH ?_ | refine goV ?_ | refine goC (fun ad cap => ?_) | refine goI ?_ | (refine Cw.k_cond ?_; first | (refine Cw.cond_dec rfl (fun hc => ?_) (fun hc => ?_) <;> try (exfalso; omega)) | refine Cw.cond_bool rfl (fun hc => ?_) (fun hc => ?_)) | refine goR ?_ | refine goP ?_ | apply PSeq.cons | apply PSeq.yes rfl rfl rfl | exact goW | fail)
    refine Fin.ret (Ent.trans (Ent.settle (s := 4) rfl goPk rfl) (Ent.take goTk)) (Outs.sole rfl goOe) ⟨rfl, rfl⟩
end Lg
end
section
set_option linter.all false
set_option maxRecDepth 100000
set_option maxHeartbeats 4000000
namespace Lg
open Go Go.Proofs

theorem offersE_len {l : List Offer} (h : offersE l = 0) : l.length ≤ 30 := by
  unfold offersE at h
  split at h
  · omega
  · omega
theorem offersE_at {l : List Offer} (h : offersE l = 0) {k : Nat} {x : Offer} (hx : l[k]? = some x) : isKey x.key = true ∧ isKey x.group = true ∧ prE x.pr = 0 := by
  unfold offersE at h
  split at h
  · omega
  · have hk := (List.getElem?_eq_some_iff.1 hx).1
    have h2 := firstE_zero h k (Nat.zero_le _) (by omega)
    unfold offerE at h2
    rw [hx] at h2
    simp only at h2
    split at h2
    · omega
    · rename_i g1
      split at h2
      · omega
      · split at h2
        · omega
        · rename_i g2
          split at h2
          · omega
          · exact ⟨by simpa using g1, by simpa using g2, by omega⟩
theorem prE_ok {l : List Int} (h : prE l = 0) : (1 ≤ l.length ∧ l.length ≤ 10) ∧ ∀ n ∈ l, -1000000 ≤ n ∧ n ≤ 1000000 := by
  unfold prE at h
  split at h
  · omega
  · split at h
    · omega
    · split at h
      · omega
      · rename_i h3
        refine ⟨by omega, fun n hn => ?_⟩
        have : prBad n = false := by
          cases h4 : prBad n
          · rfl
          · exact absurd (List.any_eq_true.2 ⟨n, hn, h4⟩) h3
        simp [prBad] at this
        omega
def cE (l : List Offer) (c : List Int) (i : Nat) : Int := match c[i]?, l[i]? with
  | some n, some o => if n < 0 ∨ (o.pr.length : Int) < n then 1 else 0
  | _, _ => 0
def cntsE (l : List Offer) (c : List Int) : Int := if c.length ≠ l.length then 3 else firstE (cE l c) 0 c.length

theorem countsFault_fn (l : List Offer) (hl : OBd l) (c : List Int) (hc : c.length ≤ 1000) : PFn Tryd.prog 62 [.offers l, .ints c] (· = .int (cntsE l c)) := by
  have hL : (l.map Offer.row).length = l.length := List.length_map _
  have hC := intRows_len c
  refine PFn.mk (Spec.body Tryd.func62 rfl rfl (Tryd.ntmps62) rfl fun w0 own0 M => ?_)
  by_cases h1 : c.length = l.length
  rotate_left
  · have e : cntsE l c = 3 := by unfold cntsE; rw [if_pos h1]
    repeat' (first | refine goH ?_ | refine goV ?_ | refine goI ?_ | (refine Cw.k_cond ?_; first | (refine Cw.cond_dec rfl (fun hc => ?_) (fun hc => ?_) <;> try (exfalso; omega)) | refine Cw.cond_bool rfl (fun hc => ?_) (fun hc => ?_)) | fail)
    exact Fin.ret Ent.refl (Outs.one rfl rfl) ⟨rfl, congrArg Tr.int e.symm⟩
  have hV0 : cntsE l c = firstE (cE l c) 0 (c.length - 0) := by unfold cntsE; rw [if_neg (by omega)]; rfl
  repeat' (first | refine goH ?_ | refine goV ?_ | refine goI ?_ | (refine Cw.k_cond ?_; first | (refine Cw.cond_dec rfl (fun hc => ?_) (fun hc => ?_) <;> try (exfalso; omega)) | refine Cw.cond_bool rfl (fun hc => ?_) (fun hc => ?_)) | fail)
  refine Cw.loopI [(0, _), (12, _), (13, _)] _ (fun n e cc => ∃ k : Nat, n = c.length - k ∧ (k ≤ c.length ∧ cntsE l c = firstE (cE l c) k (c.length - k)) ∧ e = [(14, .int k)] ∧ cc = []) ⟨_, _, _, (Ent.mkP goSub goPm), 0, rfl, ⟨by omega, hV0⟩, rfl, rfl⟩ ?_
  rintro _ _ _ ⟨k, rfl, ⟨hk, hV⟩, rfl, rfl⟩
  by_cases hkl : k < c.length
  · obtain ⟨n, hn⟩ := at_lt hkl
    obtain ⟨o, ho⟩ := at_lt (l := l) (k := k) (by omega)
    have hrow := intRows_at hn
    have hrow2 : (l.map Offer.row)[((k : Nat) : Int).toNat]? = some [.str o.key, .str o.group, .ints o.pr, .strs o.has, .strs o.hates] := rows_at ho
    have hP := intRows_len o.pr
    have hob := (hl.2 o (List.mem_of_getElem? ho)).1
    have he : cE l c k = if n < 0 ∨ (o.pr.length : Int) < n then 1 else 0 := by unfold cE; rw [hn, ho]
    by_cases hb : n < 0 ∨ (o.pr.length : Int) < n
    · rw [if_pos hb] at he
      have hfin := hV.trans (firstE_bad hkl he (by decide))
      by_cases hb2 : n < 0
      · repeat' (first | refine goH ?_ | refine goV ?_ | refine goI ?_ | (refine Cw.k_cond ?_; first | (refine Cw.cond_dec rfl (fun hc => ?_) (fun hc => ?_) <;> try (exfalso; omega)) | refine Cw.cond_bool rfl (fun hc => ?_) (fun hc => ?_)) | (refine Ops.k_calla ?_; first | (refine Ops.k_callf 36 ?_; refine Ops.callV (out_t n 0 (intRows o.pr).length (by omega)) (Evs.cons rfl (Evs.cons rfl (Evs.cons rfl Evs.nil))) rfl ?_)) | fail)
        exact Fin.ret Ent.refl (Outs.one rfl rfl) ⟨rfl, congrArg Tr.int hfin.symm⟩
      · have hb3 : (o.pr.length : Int) < n := by omega
        repeat' (first | refine goH ?_ | refine goV ?_ | refine goI ?_ | (refine Cw.k_cond ?_; first | (refine Cw.cond_dec rfl (fun hc => ?_) (fun hc => ?_) <;> try (exfalso; omega)) | refine Cw.cond_bool rfl (fun hc => ?_) (fun hc => ?_)) | (refine Ops.k_calla ?_; first | (refine Ops.k_callf 36 ?_; refine Ops.callV (out_t n 0 (intRows o.pr).length (by omega)) (Evs.cons rfl (Evs.cons rfl (Evs.cons rfl Evs.nil))) rfl ?_)) | fail)
        exact Fin.ret Ent.refl (Outs.one rfl rfl) ⟨rfl, congrArg Tr.int hfin.symm⟩
    · rw [if_neg hb] at he
      repeat' (first | refine goH ?_ | refine goV ?_ | refine goI ?_ | (refine Cw.k_cond ?_; first | (refine Cw.cond_dec rfl (fun hc => ?_) (fun hc => ?_) <;> try (exfalso; omega)) | refine Cw.cond_bool rfl (fun hc => ?_) (fun hc => ?_)) | (refine Ops.k_calla ?_; first | (refine Ops.k_callf 36 ?_; refine Ops.callV (out_f n 0 (intRows o.pr).length (by omega)) (Evs.cons rfl (Evs.cons rfl (Evs.cons rfl Evs.nil))) rfl ?_)) | fail)
      exact ⟨_, _, _, (Ent.mk goSub goTk), ⟨k + 1, rfl, ⟨by omega, hV.trans (firstE_ok hkl he)⟩, rfl, rfl⟩, by omega⟩
  · repeat' (first | refine goH ?_ | refine goV ?_ | refine goI ?_ | (refine Cw.k_cond ?_; first | (refine Cw.cond_dec rfl (fun hc => ?_) (fun hc => ?_) <;> try (exfalso; omega)) | refine Cw.cond_bool rfl (fun hc => ?_) (fun hc => ?_)) | fail)
    refine Fin.ret Ent.refl (Outs.one rfl rfl) ⟨rfl, congrArg Tr.int ?_⟩
    rw [hV, firstE_end hkl]

def sumL (l : List Int) : Int := sumF (fun x => x) l
theorem sumL_bd {l : List Int} (h : ∀ n ∈ l, -1000000 ≤ n ∧ n ≤ 1000000) : -(1000000 * (l.length : Int)) ≤ sumL l ∧ sumL l ≤ 1000000 * (l.length : Int) := by
  induction l with
  | nil => simp [sumL, sumF]
  | cons x l ih =>
    have h1 := h x (by simp)
    have h2 := ih fun n hn => h n (List.mem_cons_of_mem _ hn)
    unfold sumL at *
    rw [sumF_cons, List.length_cons]
    omega
theorem intRows_take (l : List Int) (n : Nat) : (intRows l).take n = intRows (l.take n) := by unfold intRows; rw [List.map_take]
theorem used_fn (o : Offer) (n : Nat) (hn : n ≤ o.pr.length) (hl : o.pr.length ≤ 1000) (hb : ∀ n ∈ o.pr, -1000000 ≤ n ∧ n ≤ 1000000) : PFn Tryd.prog 63 [.agg o.row, .int n] (· = .int (sumL (o.pr.take n))) := by
  have hP := intRows_len o.pr
  have ht := intRows_take o.pr n
  refine PFn.mk (Spec.body Tryd.func63 rfl rfl (Tryd.ntmps63) rfl fun w0 own0 M => ?_)
  unfold Offer.row
  repeat' (first | refine goH ?_ | refine goV ?_ | refine goB (fun b => ?_) | refine goI ?_ | (refine Cw.k_cond ?_; first | (refine Cw.cond_dec rfl (fun hc => ?_) (fun hc => ?_) <;> try (exfalso; omega)) | refine Cw.cond_bool rfl (fun hc => ?_) (fun hc => ?_)) | fail)
  rw [Int.toNat_natCast, ht]
  have hb' : ∀ x ∈ o.pr.take n, -1000000 ≤ x ∧ x ≤ 1000000 := fun x hx => hb x (List.mem_of_mem_take hx)
  have hT : (o.pr.take n).length = n := by rw [List.length_take]; omega
  generalize o.pr.take n = t at *
  have hTL := intRows_len t
  refine Cw.loopI [(11, _), (12, _)] _ (fun q e cc => ∃ (k : Nat) (s : Int), q = t.length - k ∧ (k ≤ t.length ∧ s + sumL (t.drop k) = sumL t ∧ -(1000000 * (k : Int)) ≤ s ∧ s ≤ 1000000 * (k : Int)) ∧ e = [(5, .int s), (13, .int k)] ∧ cc = []) ⟨_, _, _, (Ent.mkP goSub goPm), 0, 0, rfl, ⟨by omega, by simp, by omega, by omega⟩, rfl, rfl⟩ ?_
  rintro _ _ _ ⟨k, s, rfl, ⟨hk, hV, b1, b2⟩, rfl, rfl⟩
  by_cases hkl : k < t.length
  · obtain ⟨x, hx⟩ := at_lt hkl
    have hrow := intRows_at hx
    have hxb := hb' x (List.mem_of_getElem? hx)
    rw [drop_at hx, sumL, sumF_cons, ← sumL] at hV
    repeat' (first | refine goH ?_ | refine goV ?_ | refine goB (fun b => ?_) | refine goI ?_ | (refine Cw.k_cond ?_; first | (refine Cw.cond_dec rfl (fun hc => ?_) (fun hc => ?_) <;> try (exfalso; omega)) | refine Cw.cond_bool rfl (fun hc => ?_) (fun hc => ?_)) | fail)
    exact ⟨_, _, _, (Ent.mk goSub goTk), ⟨k + 1, _, rfl, ⟨by omega, by omega, by omega, by omega⟩, rfl, rfl⟩, by omega⟩
  · rw [List.drop_eq_nil_of_le (by omega), sumL, sumF] at hV
    repeat' (first | refine goH ?_ | refine goV ?_ | refine goB (fun b => ?_) | refine goI ?_ | (refine Cw.k_cond ?_; first | (refine Cw.cond_dec rfl (fun hc => ?_) (fun hc => ?_) <;> try (exfalso; omega)) | refine Cw.cond_bool rfl (fun hc => ?_) (fun hc => ?_)) | fail)
    exact Fin.ret (Ent.take goTk) (Outs.one rfl rfl) ⟨rfl, congrArg Tr.int (by omega)⟩

def worthL : List Offer → List Int → Int
  | o :: l, n :: c => sumL (o.pr.take n.toNat) + worthL l c
  | _, _ => 0
def worthE (l : List Offer) (c : List Int) : Int := if offersE l ≠ 0 then offersE l else cntsE l c
theorem cntsE_at {l : List Offer} {c : List Int} (h : cntsE l c = 0) : c.length = l.length ∧ ∀ (k : Nat) (n : Int) (o : Offer), c[k]? = some n → l[k]? = some o → 0 ≤ n ∧ n ≤ o.pr.length := by
  unfold cntsE at h
  split at h
  · omega
  · refine ⟨by omega, fun k n o hn ho => ?_⟩
    have := firstE_zero h k (Nat.zero_le _) (by have := (List.getElem?_eq_some_iff.1 hn).1; omega)
    unfold cE at this
    rw [hn, ho] at this
    simp only at this
    split at this
    · omega
    · omega
theorem worth_fn (l : List Offer) (hl : OBd l) (c : List Int) (hc : c.length ≤ 1000) : PFn Tryd.prog 50 [.offers l, .ints c] (· = .tup [.int (if worthE l c ≠ 0 then 0 else worthL l c), .int (worthE l c)]) := by
  have k1 := checkOffers_fn l hl
  have k2 := countsFault_fn l hl c hc
  have k3 := cmpOr_fn [offersE l] (by simp)
  rw [show orI [offersE l] = offersE l by rw [orI_cons]; by_cases h : offersE l = 0 <;> simp [orI, h]] at k3
  have hL : (l.map Offer.row).length = l.length := List.length_map _
  have hC := intRows_len c
  refine PFn.mk (Spec.body Tryd.func50 rfl rfl (Tryd.ntmps50) rfl fun w0 own0 M => ?_)
  by_cases h1 : offersE l ≠ 0
  · have e : worthE l c = offersE l := by unfold worthE; rw [if_pos h1]
    rw [e, if_pos h1]
    generalize offersE l = oe at *
    repeat' (first | refine goH ?_ | refine goV ?_ | refine goB (fun b => ?_) | refine goI ?_ | (refine Cw.k_cond ?_; first | (refine Cw.cond_dec rfl (fun hc => ?_) (fun hc => ?_) <;> try (exfalso; omega)) | refine Cw.cond_bool rfl (fun hc => ?_) (fun hc => ?_)) | (refine Ops.k_calla ?_; first | (refine Ops.k_callf 61 ?_; refine Ops.callV k1 (Evs.cons rfl Evs.nil) rfl ?_) | (refine Ops.k_callf 62 ?_; refine Ops.callV k2 (Evs.cons rfl (Evs.cons rfl Evs.nil)) rfl ?_) | (refine Ops.k_callf 60 ?_; refine Ops.callV k3 (Evs.cons rfl Evs.nil) rfl ?_)) | (apply OpW.k_call; first | (apply OpW.k_callf 61; exact OpW.callV k1 (Evs.cons rfl Evs.nil)) | (apply OpW.k_callf 62; exact OpW.callV k2 (Evs.cons rfl (Evs.cons rfl Evs.nil))) | (apply OpW.k_callf 60; exact OpW.callV k3 (Evs.cons rfl Evs.nil))) | refine goR ?_ | refine goP ?_ | apply PSeq.cons | apply PSeq.yes rfl rfl rfl | exact goW | fail)
    refine Fin.ret (Ent.take goTk) (Outs.many rfl (OutL.cons goOe (OutL.cons goOe OutL.nil)) rfl) ⟨rfl, rfl⟩
  have e : worthE l c = cntsE l c := by unfold worthE; rw [if_neg h1]
  rw [e]
  have h10 : offersE l = 0 := by omega
  rw [h10] at k1 k3
  by_cases h2 : cntsE l c ≠ 0
  · rw [if_pos h2]
    generalize cntsE l c = ce at *
    repeat' (first | refine goH ?_ | refine goV ?_ | refine goB (fun b => ?_) | refine goI ?_ | (refine Cw.k_cond ?_; first | (refine Cw.cond_dec rfl (fun hc => ?_) (fun hc => ?_) <;> try (exfalso; omega)) | refine Cw.cond_bool rfl (fun hc => ?_) (fun hc => ?_)) | (refine Ops.k_calla ?_; first | (refine Ops.k_callf 61 ?_; refine Ops.callV k1 (Evs.cons rfl Evs.nil) rfl ?_) | (refine Ops.k_callf 62 ?_; refine Ops.callV k2 (Evs.cons rfl (Evs.cons rfl Evs.nil)) rfl ?_) | (refine Ops.k_callf 60 ?_; refine Ops.callV k3 (Evs.cons rfl Evs.nil) rfl ?_)) | (apply OpW.k_call; first | (apply OpW.k_callf 61; exact OpW.callV k1 (Evs.cons rfl Evs.nil)) | (apply OpW.k_callf 62; exact OpW.callV k2 (Evs.cons rfl (Evs.cons rfl Evs.nil))) | (apply OpW.k_callf 60; exact OpW.callV k3 (Evs.cons rfl Evs.nil))) | refine goR ?_ | refine goP ?_ | apply PSeq.cons | apply PSeq.yes rfl rfl rfl | exact goW | fail)
    refine Fin.ret (Ent.take goTk) (Outs.many rfl (OutL.cons goOe (OutL.cons goOe OutL.nil)) rfl) ⟨rfl, rfl⟩
  have h20 : cntsE l c = 0 := by omega
  rw [if_neg h2, h20]
  rw [h20] at k2
  obtain ⟨hcl, hca⟩ := cntsE_at h20
  have hll := offersE_len h10
  repeat' (first | refine goH ?_ | refine goV ?_ | refine goB (fun b => ?_) | refine goI ?_ | (refine Cw.k_cond ?_; first | (refine Cw.cond_dec rfl (fun hc => ?_) (fun hc => ?_) <;> try (exfalso; omega)) | refine Cw.cond_bool rfl (fun hc => ?_) (fun hc => ?_)) | (refine Ops.k_calla ?_; first | (refine Ops.k_callf 61 ?_; refine Ops.callV k1 (Evs.cons rfl Evs.nil) rfl ?_) | (refine Ops.k_callf 62 ?_; refine Ops.callV k2 (Evs.cons rfl (Evs.cons rfl Evs.nil)) rfl ?_) | (refine Ops.k_callf 60 ?_; refine Ops.callV k3 (Evs.cons rfl Evs.nil) rfl ?_)) | (apply OpW.k_call; first | (apply OpW.k_callf 61; exact OpW.callV k1 (Evs.cons rfl Evs.nil)) | (apply OpW.k_callf 62; exact OpW.callV k2 (Evs.cons rfl (Evs.cons rfl Evs.nil))) | (apply OpW.k_callf 60; exact OpW.callV k3 (Evs.cons rfl Evs.nil))) | refine goR ?_ | refine goP ?_ | apply PSeq.cons | apply PSeq.yes rfl rfl rfl | exact goW | fail)
  refine Cw.loopI [(1, _), (24, _), (25, _)] _ (fun q e cc => ∃ (k : Nat) (s : Int), q = l.length - k ∧ (k ≤ l.length ∧ s + worthL (l.drop k) (c.drop k) = worthL l c ∧ -(10000000 * (k : Int)) ≤ s ∧ s ≤ 10000000 * (k : Int)) ∧ e = [(8, .int s), (26, .int k)] ∧ cc = []) ⟨_, _, _, (Ent.mkP goSub goPm), 0, 0, rfl, ⟨by omega, by simp, by omega, by omega⟩, rfl, rfl⟩ ?_
  rintro _ _ _ ⟨k, s, rfl, ⟨hk, hV, b1, b2⟩, rfl, rfl⟩
  by_cases hkl : k < l.length
  · obtain ⟨o, ho⟩ := at_lt hkl
    obtain ⟨n, hn⟩ := at_lt (l := c) (k := k) (by omega)
    have hrow := intRows_at hn
    have hrow2 : (l.map Offer.row)[((k : Nat) : Int).toNat]? = some o.row := rows_at ho
    obtain ⟨hn1, hn2⟩ := hca k n o hn ho
    obtain ⟨⟨_, hp1⟩, hp2⟩ := prE_ok (offersE_at h10 ho).2.2
    obtain ⟨m, rfl⟩ := Int.eq_ofNat_of_zero_le hn1
    have k4 := used_fn o m (by omega) (by omega) hp2
    have hsb := sumL_bd (l := o.pr.take m) fun x hx => hp2 x (List.mem_of_mem_take hx)
    rw [show (o.pr.take m).length = m by rw [List.length_take]; omega] at hsb
    rw [drop_at ho, drop_at hn, worthL, Int.toNat_natCast] at hV
    unfold Offer.row at *
    generalize sumL (o.pr.take m) = u at *
    repeat' (first | refine goH ?_ | refine goV ?_ | refine goB (fun b => ?_) | refine goI ?_ | (refine Cw.k_cond ?_; first | (refine Cw.cond_dec rfl (fun hc => ?_) (fun hc => ?_) <;> try (exfalso; omega)) | refine Cw.cond_bool rfl (fun hc => ?_) (fun hc => ?_)) | (refine Ops.k_calla ?_; first | (refine Ops.k_callf 63 ?_; refine Ops.callV k4 (Evs.cons rfl (Evs.cons rfl Evs.nil)) rfl ?_)) | (apply OpW.k_call; first | (apply OpW.k_callf 63; exact OpW.callV k4 (Evs.cons rfl (Evs.cons rfl Evs.nil)))) | refine goR ?_ | refine goP ?_ | apply PSeq.cons | apply PSeq.yes rfl rfl rfl | exact goW | fail)
    exact ⟨_, _, _, (Ent.mk goSub goTk), ⟨k + 1, _, rfl, ⟨by omega, by omega, by omega, by omega⟩, rfl, rfl⟩, by omega⟩
  · rw [List.drop_eq_nil_of_le (by omega), show worthL [] (c.drop k) = 0 by unfold worthL; rfl] at hV
    repeat' (first | refine goH ?_ | refine goV ?_ | refine goB (fun b => ?_) | refine goI ?_ | (refine Cw.k_cond ?_; first | (refine Cw.cond_dec rfl (fun hc => ?_) (fun hc => ?_) <;> try (exfalso; omega)) | refine Cw.cond_bool rfl (fun hc => ?_) (fun hc => ?_)) | refine goR ?_ | refine goP ?_ | apply PSeq.cons | apply PSeq.yes rfl rfl rfl | exact goW | fail)
    refine Fin.ret (Ent.take goTk) (Outs.many rfl (OutL.cons goOe (OutL.cons goOe OutL.nil)) rfl) ⟨rfl, ?_⟩
    rw [show s = worthL l c by omega]
theorem shelves_fn : PFn Tryd.prog 21 [] (· = .bool true) := by
  have h := worth_fn [⟨⟨#[97]⟩, ⟨#[103]⟩, [5], [], []⟩] ⟨by simp, by simp⟩ [1] (by simp)
  have e1 : offersE [⟨⟨#[97]⟩, ⟨#[103]⟩, [5], [], []⟩] = 0 := by decide +kernel
  have e2 : cntsE [⟨⟨#[97]⟩, ⟨#[103]⟩, [5], [], []⟩] [1] = 0 := by decide +kernel
  have e4 : worthL [⟨⟨#[97]⟩, ⟨#[103]⟩, [5], [], []⟩] [1] = 5 := by decide +kernel
  have e3 : worthE [⟨⟨#[97]⟩, ⟨#[103]⟩, [5], [], []⟩] [1] = 0 := by unfold worthE; rw [if_neg (by omega)]; exact e2
  rw [e3, e4] at h
  refine PFn.mk (Spec.body Tryd.func21 rfl rfl (Tryd.ntmps21) rfl fun w0 own0 M => ?_)
  repeat' (first | refine goH ?_ | refine goV ?_ | refine goG ?_ | (refine Ops.k_guard ?_; first | (refine Ops.guard_dec rfl rfl (fun hc => ?_) (fun hc => ?_) <;> try (exfalso; omega)) | refine Ops.guard_split rfl rfl (fun hc => ?_) (fun hc => ?_)) | refine goI ?_ | (refine Cw.k_cond ?_; first | (refine Cw.cond_dec rfl (fun hc => ?_) (fun hc => ?_) <;> try (exfalso; omega)) | refine Cw.cond_bool rfl (fun hc => ?_) (fun hc => ?_)) | (refine Ops.k_calla ?_; first | (refine Ops.k_callf 50 ?_; refine Ops.callV h (Evs.cons rfl (Evs.cons rfl Evs.nil)) rfl ?_)) | fail)
  refine Ops.ent (Ent.imp (s := 6) rfl (Imp.sl1 (row' := [Tr.str ⟨#[97]⟩, Tr.str ⟨#[103]⟩, .ints [5], .strs [], .strs []]) (.cons Imp.refl (.cons Imp.refl (.cons Imp.refl (.cons Imp.nil (.cons Imp.nil .nil))))))) ?_
  repeat' (first | refine goH ?_ | refine goV ?_ | refine goG ?_ | (refine Ops.k_guard ?_; first | (refine Ops.guard_dec rfl rfl (fun hc => ?_) (fun hc => ?_) <;> try (exfalso; omega)) | refine Ops.guard_split rfl rfl (fun hc => ?_) (fun hc => ?_)) | refine goI ?_ | (refine Cw.k_cond ?_; first | (refine Cw.cond_dec rfl (fun hc => ?_) (fun hc => ?_) <;> try (exfalso; omega)) | refine Cw.cond_bool rfl (fun hc => ?_) (fun hc => ?_)) | (refine Ops.k_calla ?_; first | (refine Ops.k_callf 50 ?_; refine Ops.callV h (Evs.cons rfl (Evs.cons rfl Evs.nil)) rfl ?_)) | fail)
  exact Fin.ret (Ent.take goTk) (Outs.one rfl rfl) ⟨rfl, rfl⟩
end Lg
end
