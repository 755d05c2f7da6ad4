/- A part of the proof of a law of this seat: it adds no condition. By an AI agent. -/
import Derived.Test.YtlofkdnjcneeiaaDoorLgRng2
import Derived.Test.YtlofkdnjcneeiaaDoorSt2
section
set_option linter.all false
set_option maxRecDepth 100000
set_option maxHeartbeats 2000000
namespace Lg
open Go Go.Proofs

/-! ### At: a range over slices.Backward -/
/-- a copy of its own -/
theorem clone_str (rows : List (List Tr)) (hk : ∀ r ∈ rows, r.length = 1) (hl : rows.length ≤ 1000000) : PFnO Tryd.prog 20 [.sl 1 rows] 1 9 (· = rows) := by
  unfold PFnO
  refine Spec.body Tryd.func20 rfl rfl (Tryd.ntmps20) rfl fun w0 own0 M => ?_
  repeat' (first | refine goH ?_ | ((fail_if_success refine Ops.k_b_eql ?_); (fail_if_success refine Ops.k_buildSlice ?_); refine goV ?_) | ((fail_if_success refine Ops.k_b_eql ?_); (fail_if_success refine Ops.k_buildSlice ?_); refine goC (fun ad cap => ?_)) | refine goI ?_ | (refine Cw.k_cond ?_; first | (refine Cw.cond_dec rfl (fun hc => ?_) (fun hc => ?_) <;> try (exfalso; omega)) | refine Cw.cond_bool rfl (fun hc => ?_) (fun hc => ?_)) | fail)
  refine Ops.eql_nilS rfl rfl (fun b hb => ?_)
  cases b
  · repeat' (first | refine goH ?_ | ((fail_if_success refine Ops.k_buildSlice ?_); refine goV ?_) | ((fail_if_success refine Ops.k_buildSlice ?_); refine goC (fun ad cap => ?_)) | refine goI ?_ | (refine Cw.k_cond ?_; first | (refine Cw.cond_dec rfl (fun hc => ?_) (fun hc => ?_) <;> try (exfalso; omega)) | refine Cw.cond_bool rfl (fun hc => ?_) (fun hc => ?_)) | fail)
    refine Ops.buildSlice_own (by exact Parts.nil) rfl rfl rfl (fun ad cap => ?_)
    repeat' (first | refine goH ?_ | refine goV ?_ | refine goC (fun ad cap => ?_) | refine goI ?_ | (refine Cw.k_cond ?_; first | (refine Cw.cond_dec rfl (fun hc => ?_) (fun hc => ?_) <;> try (exfalso; omega)) | refine Cw.cond_bool rfl (fun hc => ?_) (fun hc => ?_)) | fail)
    exact Fin.ret (Ent.take goTk) (Outs.one rfl rfl) ⟨_, _, _, rfl, rfl, rfl⟩
  · have hr := hb rfl
    subst hr
    repeat' (first | refine goH ?_ | refine goV ?_ | refine goC (fun ad cap => ?_) | refine goI ?_ | (refine Cw.k_cond ?_; first | (refine Cw.cond_dec rfl (fun hc => ?_) (fun hc => ?_) <;> try (exfalso; omega)) | refine Cw.cond_bool rfl (fun hc => ?_) (fun hc => ?_)) | fail)
    exact Fin.ret (Ent.trans (Ent.nil 1 9) (Ent.take goTk)) (Outs.one rfl rfl) ⟨none, 0, [], rfl, rfl, rfl⟩

def bwd (l : List Ver) : List (List Tr) := (List.range l.length).map fun k => match l[l.length - 1 - k]? with
  | none => []
  | some v => [Tr.int ((l.length : Int) - 1 - k), Tr.agg v.row]
theorem bwd_len (l : List Ver) : (bwd l).length = l.length := by simp [bwd]
theorem bwd_at {l : List Ver} {k : Nat} {v : Ver} (hk : k < l.length) (hv : l[l.length - 1 - k]? = some v) : (bwd l)[k]? = some [Tr.int ((l.length : Int) - 1 - k), Tr.agg v.row] := by
  unfold bwd
  rw [List.getElem?_map, List.getElem?_range hk, Option.map_some, hv]
theorem backward_fn (l : List Ver) : Spec Tryd.prog 25 [.vers l] [] (fun r cs => ∃ b, r = Tr.raw (.func (.func 36) #[] #[.pointer (some ⟨b, 0, none⟩)]) ∧ cs = [Chunk.box b 26 [.vers l]]) := by
  refine Spec.body Tryd.func25 rfl rfl (Tryd.ntmps25) rfl fun w0 own0 M => ?_
  repeat' (first | refine goH ?_ | refine goV ?_ | refine goB (fun b => ?_) | refine goI ?_ | (refine Cw.k_cond ?_; first | (refine Cw.cond_dec rfl (fun hc => ?_) (fun hc => ?_) <;> try (exfalso; omega)) | refine Cw.cond_bool rfl (fun hc => ?_) (fun hc => ?_)) | fail)
  exact Fin.ret (Ent.take goTk) (Outs.one rfl rfl) ⟨_, rfl, rfl⟩
theorem backward_iter (l : List Ver) (hl : l.length ≤ 1000000) (b : Nat) : IterSpec Tryd.prog 36 [.pointer (some ⟨b, 0, none⟩)] [Chunk.box b 26 [.vers l]] [Chunk.box b 26 [.vers l]] (bwd l) := by
  unfold IterSpec
  intro lp J Jx hY c0 h0
  have hL : (l.map Ver.row).length = l.length := List.length_map _
  rw [bwd_len]
  refine Spec.body Tryd.func36 rfl rfl (Tryd.ntmps36) rfl fun w0 own0 M => ?_
  repeat' (first | refine goH ?_ | refine goV ?_ | refine goI ?_ | (refine Cw.k_cond ?_; first | (refine Cw.cond_dec rfl (fun hc => ?_) (fun hc => ?_) <;> try (exfalso; omega)) | refine Cw.cond_bool rfl (fun hc => ?_) (fun hc => ?_)) | fail)
  refine Cw.loopI [(0, _), (1, _)] _ (fun q e cc => ∃ (k : Nat) (c : Chunk), q = l.length - k ∧ (k ≤ l.length ∧ J k c) ∧ e = [(3, .int ((l.length : Int) - 1 - k))] ∧ cc = [c, Chunk.box b 26 [.vers l]]) ⟨_, _, _, Ent.trans (Ent.eqc rfl rfl) (Ent.mk (by first | (refine Sub.cons (by show some (Tr.int _) = some (Tr.int _); congr 2; omega) ?_; repeat' (first | exact Sub.nil | refine Sub.cons rfl ?_))) goTk), 0, c0, rfl, ⟨by omega, h0⟩, rfl, rfl⟩ ?_
  rintro _ _ _ ⟨k, c, rfl, ⟨hk, hJ⟩, rfl, rfl⟩
  by_cases hkl : k < l.length
  · obtain ⟨v, hv⟩ := at_lt (l := l) (k := l.length - 1 - k) (by omega)
    have hrow : (l.map Ver.row)[((l.length : Int) - 1 - (k : Int)).toNat]? = some [.int v.f, .strs v.x] := by rw [show ((l.length : Int) - 1 - (k : Int)).toNat = l.length - 1 - k by omega]; exact rows_at hv
    have hy := hY k _ c (bwd_at hkl hv) hJ
    repeat' (first | refine goH ?_ | refine goV ?_ | refine goI ?_ | (refine Cw.k_cond ?_; first | (refine Cw.cond_dec rfl (fun hc => ?_) (fun hc => ?_) <;> try (exfalso; omega)) | refine Cw.cond_bool rfl (fun hc => ?_) (fun hc => ?_)) | (refine Ops.k_calla ?_; first | (refine Ops.callY rfl hy (Evs.cons rfl (Evs.cons rfl Evs.nil)) goPm rfl ?_; rintro r cs' (⟨rfl, c', hc', rfl⟩ | ⟨rfl, c', hc', rfl⟩))) | fail)
    · rw [show (l.length : Int) - 1 - (k : Int) - 1 = (l.length : Int) - 1 - ((k + 1 : Nat) : Int) by omega]
      exact ⟨_, _, _, (Ent.mk goSub goTk), ⟨k + 1, c', rfl, ⟨by omega, hc'⟩, rfl, rfl⟩, by omega⟩
    · exact Fin.ret (Ent.take goTk) (Outs.zero rfl) (.inr ⟨c', hc', rfl⟩)
  · have hkn : k = l.length := by omega
    subst hkn
    repeat' (first | refine goH ?_ | refine goV ?_ | refine goI ?_ | (refine Cw.k_cond ?_; first | (refine Cw.cond_dec rfl (fun hc => ?_) (fun hc => ?_) <;> try (exfalso; omega)) | refine Cw.cond_bool rfl (fun hc => ?_) (fun hc => ?_)) | fail)
    exact Fin.norm (Ent.take goTk) (Outs.zero rfl) (.inl ⟨c, hJ, rfl⟩)
theorem nil1 : ImpL [Tr.raw (.slice none 0 0)] [Tr.sl 1 []] := .cons Imp.nil .nil
def atE (l : List Ver) (day : Int) : Int := if versE l ≠ 0 then versE l else if dayB day = false then 1 else match atN l day l.length with
  | none => 8
  | some _ => 0
def atX (l : List Ver) (day : Int) : List ByteArray := match atN l day l.length with
  | none => []
  | some v => v.x
theorem versE_len {l : List Ver} (h : versE l = 0) : l.length ≤ 200 ∧ ∀ v ∈ l, 0 ≤ v.f ∧ v.f ≤ 4000 ∧ v.x.length ≤ 60 ∧ v.x.length = len0 l := by
  unfold versE at h
  split at h
  · omega
  · refine ⟨by omega, fun v hv => ?_⟩
    obtain ⟨j, hj⟩ := List.getElem?_of_mem hv
    have hlt := (List.getElem?_eq_some_iff.1 hj).1
    have := firstE_zero h j (by omega) (by omega)
    unfold verE at this
    rw [hj] at this
    simp only at this
    split at this
    · omega
    · rename_i h1
      split at this
      · omega
      · split at this
        · omega
        · split at this
          · omega
          · have h2 : dayB v.f = true := by simpa using h1
            simp [dayB, outB] at h2
            refine ⟨by omega, by omega, by omega, ?_⟩
            omega
theorem atE_fn (l : List Ver) (hl : l.length ≤ 1000000) (hx : ∀ v ∈ l, v.x.length ≤ 1000000) (day : Int) (h : versE l ≠ 0 ∨ dayB day = false) : PFn Tryd.prog 9 [.vers l, .int day] (· = .tup [.strs [], .int (if versE l ≠ 0 then versE l else 1)]) := by
  have k1 := checkVers_fn l hl hx
  have k2 := day_fn day
  refine PFn.mk ?_
  refine Spec.bodyF Tryd.func9 rfl rfl (Tryd.ntmps9) rfl fun w0 own0 M => ?_
  refine CwF.seq rfl ?_
  repeat' (first | refine goH ?_ | refine goV ?_ | refine goB (fun b => ?_) | refine goI ?_ | (refine Cw.k_cond ?_; first | (refine Cw.cond_dec rfl (fun hc => ?_) (fun hc => ?_) <;> try (exfalso; omega)) | refine Cw.cond_bool rfl (fun hc => ?_) (fun hc => ?_)) | fail)
  refine CwF.seq rfl ?_
  by_cases h0 : versE l ≠ 0
  · rw [if_pos h0]
    generalize versE l = e at *
    repeat' (first | refine goH ?_ | refine goV ?_ | refine goB (fun b => ?_) | refine goI ?_ | (refine Cw.k_cond ?_; first | (refine Cw.cond_dec rfl (fun hc => ?_) (fun hc => ?_) <;> try (exfalso; omega)) | refine Cw.cond_bool rfl (fun hc => ?_) (fun hc => ?_)) | (refine Ops.k_calla ?_; first | (refine Ops.k_callf 8 ?_; refine Ops.callV k1 (Evs.cons rfl Evs.nil) rfl ?_)) | fail)
    refine Fin.ret (Ent.trans (Ent.imp_box goPk nil1) (Ent.trans (Ent.setbox (s := 4) rfl goPk) (Ent.trans (Ent.setbox (s := 5) rfl goPk) (Ent.take goTk)))) (Outs.many rfl (OutL.cons goOe (OutL.cons goOe OutL.nil)) rfl) ⟨rfl, rfl⟩
  · rw [if_neg h0]
    have h1 : versE l = 0 := by omega
    rw [h1] at k1
    have h2 : dayB day = false := h.resolve_left h0
    rw [h2] at k2
    repeat' (first | refine goH ?_ | refine goV ?_ | refine goB (fun b => ?_) | refine goI ?_ | (refine Cw.k_cond ?_; first | (refine Cw.cond_dec rfl (fun hc => ?_) (fun hc => ?_) <;> try (exfalso; omega)) | refine Cw.cond_bool rfl (fun hc => ?_) (fun hc => ?_)) | (refine Ops.k_calla ?_; first | (refine Ops.k_callf 8 ?_; refine Ops.callV k1 (Evs.cons rfl Evs.nil) rfl ?_)) | fail)
    refine CwF.seq rfl ?_
    repeat' (first | refine goH ?_ | refine goV ?_ | refine goB (fun b => ?_) | refine goI ?_ | (refine Cw.k_cond ?_; first | (refine Cw.cond_dec rfl (fun hc => ?_) (fun hc => ?_) <;> try (exfalso; omega)) | refine Cw.cond_bool rfl (fun hc => ?_) (fun hc => ?_)) | (refine Ops.k_calla ?_; first | (refine Ops.k_callf 22 ?_; refine Ops.callV k2 (Evs.cons rfl Evs.nil) rfl ?_)) | fail)
    refine Fin.ret (Ent.trans (Ent.imp_box goPk nil1) (Ent.trans (Ent.setbox (s := 4) rfl goPk) (Ent.trans (Ent.setbox (s := 5) rfl goPk) (Ent.take goTk)))) (Outs.many rfl (OutL.cons goOe (OutL.cons goOe OutL.nil)) rfl) ⟨rfl, rfl⟩
theorem at_fn (l : List Ver) (day : Int) (h : versE l = 0) (hd : dayB day = true) : PFn Tryd.prog 9 [.vers l, .int day] (· = .tup [.strs (atX l day), .int (match atN l day l.length with | none => 8 | some _ => 0)]) := by
  obtain ⟨hl, hv⟩ := versE_len h
  have k1 := checkVers_fn l (by omega) (fun v hv' => by have := hv v hv'; omega)
  have k2 := day_fn day
  rw [h] at k1
  rw [hd] at k2
  refine PFn.mk ?_
  refine Spec.bodyF Tryd.func9 rfl rfl (Tryd.ntmps9) rfl fun w0 own0 M => ?_
  refine CwF.seq rfl ?_
  repeat' (first | refine goH ?_ | refine goV ?_ | refine goB (fun b => ?_) | refine goI ?_ | (refine Cw.k_cond ?_; first | (refine Cw.cond_dec rfl (fun hc => ?_) (fun hc => ?_) <;> try (exfalso; omega)) | refine Cw.cond_bool rfl (fun hc => ?_) (fun hc => ?_)) | fail)
  rename_i b3 b4
  rename Nat => b5
  refine CwF.seq rfl ?_
  repeat' (first | refine goH ?_ | refine goV ?_ | refine goB (fun b => ?_) | refine goI ?_ | (refine Cw.k_cond ?_; first | (refine Cw.cond_dec rfl (fun hc => ?_) (fun hc => ?_) <;> try (exfalso; omega)) | refine Cw.cond_bool rfl (fun hc => ?_) (fun hc => ?_)) | (refine Ops.k_calla ?_; first | (refine Ops.k_callf 8 ?_; refine Ops.callV k1 (Evs.cons rfl Evs.nil) rfl ?_)) | fail)
  refine CwF.seq rfl ?_
  repeat' (first | refine goH ?_ | refine goV ?_ | refine goB (fun b => ?_) | refine goI ?_ | (refine Cw.k_cond ?_; first | (refine Cw.cond_dec rfl (fun hc => ?_) (fun hc => ?_) <;> try (exfalso; omega)) | refine Cw.cond_bool rfl (fun hc => ?_) (fun hc => ?_)) | (refine Ops.k_calla ?_; first | (refine Ops.k_callf 22 ?_; refine Ops.callV k2 (Evs.cons rfl Evs.nil) rfl ?_)) | fail)
  refine CwF.rng (RngOk.seq ?_)
  repeat' (first | refine goH ?_ | refine goV ?_ | refine goB (fun b => ?_) | refine goI ?_ | (refine Cw.k_cond ?_; first | (refine Cw.cond_dec rfl (fun hc => ?_) (fun hc => ?_) <;> try (exfalso; omega)) | refine Cw.cond_bool rfl (fun hc => ?_) (fun hc => ?_)) | (refine Ops.k_calla ?_; first | (refine Ops.k_callf 25 ?_; (refine Ops.call (backward_fn l) (Evs.cons rfl Evs.nil) goPm rfl ?_; rintro r cs' ⟨bb, rfl, rfl⟩))) | fail)
  refine RngOk.block ?_
  refine RngOk.range (ps := [19, 20]) (I := fun k cs => cs = [Chunk.box b3 3 [.int day], Chunk.box b4 32 [.raw (.slice none 0 0)], Chunk.box b5 30 [.int 0]] ∧ k ≤ l.length ∧ atN l day l.length = atN l day (l.length - k)) (Ix := fun c cs => c = .ret ∧ ∃ v, atN l day l.length = some v ∧ cs = [Chunk.box b4 32 [.strs v.x], Chunk.box b5 30 [.int 0]]) rfl rfl rfl (backward_iter l (by omega) bb) ?_ ?_ ⟨rfl, by omega, rfl⟩ goPm ?_ ?_ ?_ (fun _ _ => ?_)
  · rintro args ha
    obtain ⟨k, hk⟩ := List.getElem?_of_mem ha
    have hlt := (List.getElem?_eq_some_iff.1 hk).1
    rw [bwd_len] at hlt
    obtain ⟨v, hv⟩ := at_lt (l := l) (k := l.length - 1 - k) (by omega)
    rw [bwd_at hlt hv] at hk
    cases hk
    rfl
  · intro p hp
    simp only [List.mem_cons, List.not_mem_nil, or_false] at hp
    show p < 28
    omega
  · rintro lp k args csk hk ⟨rfl, hkl, hat⟩ w1 own1 M1
    have hlt := (List.getElem?_eq_some_iff.1 hk).1
    rw [bwd_len] at hlt
    obtain ⟨v, hvv⟩ := at_lt (l := l) (k := l.length - 1 - k) (by omega)
    rw [bwd_at hlt hvv] at hk
    cases hk
    have hstep : atN l day (l.length - k) = if v.f ≤ day then some v else atN l day (l.length - (k + 1)) := by
      rw [show l.length - k = (l.length - 1 - k) + 1 by omega, atN, hvv]
      simp only
      rw [show l.length - (k + 1) = l.length - 1 - k by omega]
    have kcl := (clone_str (strRows v.x) (by intro r hr; obtain ⟨a, _, rfl⟩ := List.mem_map.1 hr; rfl) (by rw [strRows_len]; have := hv v (List.mem_of_getElem? hvv); omega)).val
    simp only [prm]
    unfold Ver.row
    repeat' (first | refine goH ?_ | refine goV ?_ | refine goB (fun b => ?_) | refine goI ?_ | (refine Cw.k_cond ?_; first | (refine Cw.cond_dec rfl (fun hc => ?_) (fun hc => ?_) <;> try (exfalso; omega)) | refine Cw.cond_bool rfl (fun hc => ?_) (fun hc => ?_)) | fail)
    intro w2 own2
    by_cases hd : v.f ≤ day
    · rw [if_pos hd] at hstep
      repeat' (first | refine goH ?_ | refine goV ?_ | refine goB (fun b => ?_) | refine goI ?_ | (refine Cw.k_cond ?_; first | (refine Cw.cond_dec rfl (fun hc => ?_) (fun hc => ?_) <;> try (exfalso; omega)) | refine Cw.cond_bool rfl (fun hc => ?_) (fun hc => ?_)) | (refine Ops.k_calla ?_; first | (refine Ops.k_callf 20 ?_; refine Ops.callV kcl (Evs.cons rfl Evs.nil) rfl ?_)) | fail)
      refine RPost.ret (Ent.mk goSub goTk) ⟨rfl, v, hat.trans hstep, rfl⟩
    · rw [if_neg hd] at hstep
      repeat' (first | refine goH ?_ | refine goV ?_ | refine goB (fun b => ?_) | refine goI ?_ | (refine Cw.k_cond ?_; first | (refine Cw.cond_dec rfl (fun hc => ?_) (fun hc => ?_) <;> try (exfalso; omega)) | refine Cw.cond_bool rfl (fun hc => ?_) (fun hc => ?_)) | fail)
      refine RPost.norm (Ent.mk goSub goTk) ⟨rfl, by omega, hat.trans hstep⟩
  · rintro w1 own1 M1 D csN ⟨rfl, _, hat⟩
    rw [bwd_len, Nat.sub_self] at hat
    have hn : atN l day l.length = none := hat
    rw [hn]
    unfold atX
    rw [hn]
    repeat' (first | refine goH ?_ | refine goV ?_ | refine goB (fun b => ?_) | refine goI ?_ | (refine Cw.k_cond ?_; first | (refine Cw.cond_dec rfl (fun hc => ?_) (fun hc => ?_) <;> try (exfalso; omega)) | refine Cw.cond_bool rfl (fun hc => ?_) (fun hc => ?_)) | fail)
    refine Fin.ret (Ent.trans (Ent.imp_box goPk nil1) (Ent.trans (Ent.setbox (s := 4) rfl goPk) (Ent.trans (Ent.setbox (s := 5) rfl goPk) (Ent.take goTk)))) (Outs.many rfl (OutL.cons goOe (OutL.cons goOe OutL.nil)) rfl) ⟨rfl, rfl⟩
  · rintro c csx ⟨rfl, v, hv2, rfl⟩
    refine ⟨rfl, fun w1 own1 M1 D => ?_⟩
    rw [hv2]
    unfold atX
    rw [hv2]
    refine Fin.ret (Ent.trans (Ent.setbox (s := 4) rfl goPk) (Ent.trans (Ent.setbox (s := 5) rfl goPk) (Ent.take goTk))) (Outs.many rfl (OutL.cons goOe (OutL.cons goOe OutL.nil)) rfl) ⟨rfl, rfl⟩
  · exact enters_of Tryd.func36 rfl rfl _ _
end Lg
end
section
set_option linter.all false
set_option maxRecDepth 100000
set_option maxHeartbeats 2000000
namespace Lg
open Go Go.Proofs

/-! ### LayoutAt; kept; Stays -/
def atR (l : List Ver) (day : Int) : Tr := .tup [.strs (atX l day), .int (match atN l day l.length with | none => 8 | some _ => 0)]
theorem layoutAt_fn (l : List Ver) (hl : l.length ≤ 1000000) (hx : ∀ v ∈ l, v.x.length ≤ 1000000) (day : Int) : PFn Tryd.prog 13 [.vers l, .int day] (· = atR l day) := by
  have hL : (l.map Ver.row).length = l.length := List.length_map _
  refine PFn.mk (Spec.body Tryd.func13 rfl rfl (Tryd.ntmps13) rfl fun w0 own0 M => ?_)
  unfold atR
  repeat' (first | refine goH ?_ | refine goV ?_ | refine goI ?_ | (refine Cw.k_cond ?_; first | (refine Cw.cond_dec rfl (fun hc => ?_) (fun hc => ?_) <;> try (exfalso; omega)) | refine Cw.cond_bool rfl (fun hc => ?_) (fun hc => ?_)) | fail)
  refine Cw.loopI [(0, _), (1, _)] _ (fun q e cc => ∃ (k : Nat), q = l.length - k ∧ (k ≤ l.length ∧ atN l day l.length = atN l day (l.length - k)) ∧ e = [(6, .int ((l.length : Int) - 1 - k))] ∧ cc = []) ⟨_, _, _, Ent.mk (by first | (refine Sub.cons (by show some (Tr.int _) = some (Tr.int _); congr 2; omega) ?_; repeat' (first | exact Sub.nil | refine Sub.cons rfl ?_))) goTk, 0, rfl, ⟨by omega, rfl⟩, rfl, rfl⟩ ?_
  rintro _ _ _ ⟨k, rfl, ⟨hk, hat⟩, rfl, rfl⟩
  by_cases hkl : k < l.length
  · obtain ⟨v, hv⟩ := at_lt (l := l) (k := l.length - 1 - k) (by omega)
    have hrow : (l.map Ver.row)[((l.length : Int) - 1 - (k : Int)).toNat]? = some [.int v.f, .strs v.x] := by rw [show ((l.length : Int) - 1 - (k : Int)).toNat = l.length - 1 - k by omega]; exact rows_at hv
    have hstep : atN l day (l.length - k) = if v.f ≤ day then some v else atN l day (l.length - (k + 1)) := by
      rw [show l.length - k = (l.length - 1 - k) + 1 by omega, atN, hv]
      simp only
      rw [show l.length - (k + 1) = l.length - 1 - k by omega]
    have kcl := (clone_str (strRows v.x) (by intro r hr; obtain ⟨a, _, rfl⟩ := List.mem_map.1 hr; rfl) (by rw [strRows_len]; have := hx v (List.mem_of_getElem? hv); omega)).val
    by_cases hd : v.f ≤ day
    · rw [if_pos hd] at hstep
      have hat2 := hat.trans hstep
      unfold atX
      rw [hat2]
      clear hat hstep hat2
      repeat' (first | refine goH ?_ | refine goV ?_ | refine goI ?_ | (refine Cw.k_cond ?_; first | (refine Cw.cond_dec rfl (fun hc => ?_) (fun hc => ?_) <;> try (exfalso; omega)) | refine Cw.cond_bool rfl (fun hc => ?_) (fun hc => ?_)) | (refine Ops.k_calla ?_; first | (refine Ops.k_callf 20 ?_; refine Ops.callV kcl (Evs.cons rfl Evs.nil) rfl ?_)) | fail)
      refine Fin.ret (Ent.take goTk) (Outs.many rfl (OutL.cons goOe (OutL.cons goOe OutL.nil)) rfl) ⟨rfl, rfl⟩
    · rw [if_neg hd] at hstep
      have hat2 := hat.trans hstep
      clear hat hstep
      repeat' (first | refine goH ?_ | refine goV ?_ | refine goI ?_ | (refine Cw.k_cond ?_; first | (refine Cw.cond_dec rfl (fun hc => ?_) (fun hc => ?_) <;> try (exfalso; omega)) | refine Cw.cond_bool rfl (fun hc => ?_) (fun hc => ?_)) | fail)
      rw [show (l.length : Int) - 1 - (k : Int) - 1 = (l.length : Int) - 1 - ((k + 1 : Nat) : Int) by omega]
      exact ⟨_, _, _, (Ent.mk goSub goTk), ⟨k + 1, rfl, ⟨by omega, hat2⟩, rfl, rfl⟩, by omega⟩
  · rw [show l.length - k = 0 by omega] at hat
    have hn : atN l day l.length = none := hat
    unfold atX
    rw [hn]
    repeat' (first | refine goH ?_ | refine goV ?_ | refine goI ?_ | (refine Cw.k_cond ?_; first | (refine Cw.cond_dec rfl (fun hc => ?_) (fun hc => ?_) <;> try (exfalso; omega)) | refine Cw.cond_bool rfl (fun hc => ?_) (fun hc => ?_)) | fail)
    refine Fin.ret (Ent.trans (Ent.nilsl 1 (s := 4) rfl) (Ent.take goTk)) (Outs.many rfl (OutL.cons goOe (OutL.cons goOe OutL.nil)) rfl) ⟨rfl, rfl⟩
def Sty.row (s : Sty) : List Tr := [.int s.s, .str s.p, .int s.f, .int s.t]
theorem keptF_app (out : List Sty) (s : Sty) (h : ¬ s.p = eS) : keptF out s = out ++ [s] := by unfold keptF; rw [if_neg h]
theorem keptF_len (out : List Sty) (s : Sty) : (keptF out s).length ≤ out.length + 1 := by unfold keptF; split <;> simp
theorem kept_fn (out : List Sty) (s : Sty) {ad : Option Addr} {n cap : Nat} (hn : n = out.length) (hl : out.length ≤ 1000000) : Spec Tryd.prog 27 [Tr.raw (.slice ad n cap), .agg s.row] [Chunk.own ad cap 4 43 (out.map Sty.row)] (fun r cs => ∃ ad' cap', r = Tr.raw (.slice ad' (keptF out s).length cap') ∧ cs = [Chunk.own ad' cap' 4 43 ((keptF out s).map Sty.row)]) := by
  obtain ⟨a, p, f, t⟩ := s
  have hL : (out.map Sty.row).length = out.length := List.length_map _
  have happ : out.map Sty.row ++ [[Tr.int a, .str p, .int f, .int t]] = (out ++ [(⟨a, p, f, t⟩ : Sty)]).map Sty.row := by rw [List.map_append]; rfl
  subst hn
  unfold Sty.row at happ hL ⊢
  refine Spec.body Tryd.func27 rfl rfl (Tryd.ntmps27) rfl fun w0 own0 M => ?_
  by_cases hp : p = eS
  · have he : keptF out ⟨a, p, f, t⟩ = out := by unfold keptF; rw [if_pos hp]
    rw [he]
    subst hp
    repeat' (first | refine goH ?_ | refine goV ?_ | refine goB (fun b => ?_) | refine goC (fun ad cap => ?_) | refine goI ?_ | (refine Cw.k_cond ?_; first | (refine Cw.cond_dec rfl (fun hc => ?_) (fun hc => ?_) <;> try (exfalso; omega)) | refine Cw.cond_bool rfl (fun hc => ?_) (fun hc => ?_)) | fail)
    exact Fin.ret (Ent.take goTk) (Outs.one rfl rfl) ⟨_, _, rfl, rfl⟩
  · rw [keptF_app _ _ hp, ← happ]
    have hlen : (out ++ [(⟨a, p, f, t⟩ : Sty)]).length = (out.map (fun s : Sty => [Tr.int s.s, Tr.str s.p, Tr.int s.f, Tr.int s.t]) ++ [[Tr.int a, .str p, .int f, .int t]]).length := by simp
    rw [hlen]
    repeat' (first | refine goH ?_ | refine goV ?_ | refine goB (fun b => ?_) | refine goC (fun ad cap => ?_) | refine goI ?_ | (refine Cw.k_cond ?_; first | (refine Cw.cond_dec rfl (fun hc => ?_) (fun hc => ?_) <;> try (exfalso; omega)) | refine Cw.cond_bool rfl (fun hc => ?_) (fun hc => ?_)) | fail)
    exact Fin.ret (Ent.take goTk) (Outs.one rfl rfl) ⟨_, _, rfl, rfl⟩
end Lg
end
section
set_option linter.all false
set_option maxRecDepth 100000
set_option maxHeartbeats 4000000
namespace Lg
open Go Go.Proofs

/-! ### Stays -/
def stE (l : List Ver) (f t : Int) : Int := if versE l ≠ 0 then versE l else if f < 0 ∨ t < f ∨ 4001 < t then 1 else 0
def stV (l : List Ver) (f t : Int) : List Sty := itF (fun i out => slotV l i f t out) 0 (len0 l) []
theorem staysE_fn (l : List Ver) (hl : l.length ≤ 1000000) (hx : ∀ v ∈ l, v.x.length ≤ 1000000) (f t : Int) (h : stE l f t ≠ 0) : PFn Tryd.prog 10 [.vers l, .int f, .int t] (· = .tup [.sl 4 [], .int (stE l f t)]) := by
  have k1 := checkVers_fn l hl hx
  have k2 := out_fn f 0 t
  refine PFn.mk (Spec.body Tryd.func10 rfl rfl (Tryd.ntmps10) rfl fun w0 own0 M => ?_)
  by_cases h0 : versE l ≠ 0
  · rw [show stE l f t = versE l by unfold stE; rw [if_pos h0]]
    generalize versE l = e at *
    repeat' (first | refine goH ?_ | refine goV ?_ | refine goB (fun b => ?_) | refine goG ?_ | (refine Ops.k_guard ?_; first | (refine Ops.guard_dec rfl rfl (fun hc => ?_) (fun hc => ?_) <;> try (exfalso; omega)) | refine Ops.guard_split rfl rfl (fun hc => ?_) (fun hc => ?_)) | refine goI ?_ | (refine Cw.k_cond ?_; first | (refine Cw.cond_dec rfl (fun hc => ?_) (fun hc => ?_) <;> try (exfalso; omega)) | refine Cw.cond_bool rfl (fun hc => ?_) (fun hc => ?_)) | (refine Ops.k_calla ?_; first | (refine Ops.k_callf 8 ?_; refine Ops.callV k1 (Evs.cons rfl Evs.nil) rfl ?_)) | fail)
    refine Fin.ret (Ent.trans (Ent.nilsl 4 (s := 6) rfl) (Ent.take goTk)) (Outs.many rfl (OutL.cons goOe (OutL.cons goOe OutL.nil)) rfl) ⟨rfl, rfl⟩
  · have he : stE l f t = if f < 0 ∨ t < f ∨ 4001 < t then 1 else 0 := by unfold stE; rw [if_neg h0]
    rw [he] at h ⊢
    have h1 : f < 0 ∨ t < f ∨ 4001 < t := by
      by_cases hc : f < 0 ∨ t < f ∨ 4001 < t
      · exact hc
      · rw [if_neg hc] at h; exact absurd rfl h
    rw [if_pos h1]
    rw [show versE l = 0 by omega] at k1
    clear he h h0
    unfold outB at k2
    by_cases hc : f < 0 ∨ t < f
    · rw [decide_eq_true hc] at k2
      repeat' (first | refine goH ?_ | refine goV ?_ | refine goB (fun b => ?_) | refine goG ?_ | (refine Ops.k_guard ?_; first | (refine Ops.guard_dec rfl rfl (fun hc => ?_) (fun hc => ?_) <;> try (exfalso; omega)) | refine Ops.guard_split rfl rfl (fun hc => ?_) (fun hc => ?_)) | refine goI ?_ | (refine Cw.k_cond ?_; first | (refine Cw.cond_dec rfl (fun hc => ?_) (fun hc => ?_) <;> try (exfalso; omega)) | refine Cw.cond_bool rfl (fun hc => ?_) (fun hc => ?_)) | (refine Ops.k_calla ?_; first | (refine Ops.k_callf 8 ?_; refine Ops.callV k1 (Evs.cons rfl Evs.nil) rfl ?_) | (refine Ops.k_callf 26 ?_; refine Ops.callV k2 (Evs.cons rfl (Evs.cons rfl (Evs.cons rfl Evs.nil))) rfl ?_)) | fail)
      all_goals first | (refine Fin.ret (Ent.trans (Ent.nilsl 4 (s := 6) rfl) (Ent.take goTk)) (Outs.many rfl (OutL.cons goOe (OutL.cons goOe OutL.nil)) rfl) ⟨rfl, rfl⟩) | (exfalso; omega)
    · rw [decide_eq_false hc] at k2
      repeat' (first | refine goH ?_ | refine goV ?_ | refine goB (fun b => ?_) | refine goG ?_ | (refine Ops.k_guard ?_; first | (refine Ops.guard_dec rfl rfl (fun hc => ?_) (fun hc => ?_) <;> try (exfalso; omega)) | refine Ops.guard_split rfl rfl (fun hc => ?_) (fun hc => ?_)) | refine goI ?_ | (refine Cw.k_cond ?_; first | (refine Cw.cond_dec rfl (fun hc => ?_) (fun hc => ?_) <;> try (exfalso; omega)) | refine Cw.cond_bool rfl (fun hc => ?_) (fun hc => ?_)) | (refine Ops.k_calla ?_; first | (refine Ops.k_callf 8 ?_; refine Ops.callV k1 (Evs.cons rfl Evs.nil) rfl ?_) | (refine Ops.k_callf 26 ?_; refine Ops.callV k2 (Evs.cons rfl (Evs.cons rfl (Evs.cons rfl Evs.nil))) rfl ?_)) | fail)
      all_goals first | (refine Fin.ret (Ent.trans (Ent.nilsl 4 (s := 6) rfl) (Ent.take goTk)) (Outs.many rfl (OutL.cons goOe (OutL.cons goOe OutL.nil)) rfl) ⟨rfl, rfl⟩) | (exfalso; omega)
theorem verK_at {l : List Ver} {i : Nat} {f t : Int} {k : Nat} {v : Ver} (hv : l[k]? = some v) (st : VS) : verK l i f t k st = if verEnd l t k ≤ max f v.f then st else verW i (v.x.getD i eS) (max f v.f) (verEnd l t k) st := by unfold verK; rw [hv]
theorem slotV_eq {l : List Ver} {i : Nat} {f t : Int} {out : List Sty} {st : VS} (h : itF (verK l i f t) 0 (l.length - 0) (out, ⟨-1, eS, 0, 0⟩) = st) : slotV l i f t out = keptF st.1 st.2 := by
  unfold slotV
  rw [Nat.sub_zero] at h
  rw [h]
theorem stays_fn (l : List Ver) (f t : Int) (h : stE l f t = 0) : PFn Tryd.prog 10 [.vers l, .int f, .int t] (· = .tup [.sl 4 ((stV l f t).map Sty.row), .int 0]) := by
  have hv0 : versE l = 0 ∧ 0 ≤ f ∧ f ≤ t ∧ t ≤ 4001 := by
    unfold stE at h
    split at h
    · omega
    · split at h <;> omega
  obtain ⟨hv0, hf, hft, ht⟩ := hv0
  obtain ⟨hl, hvs⟩ := versE_len hv0
  have k1 := checkVers_fn l (by omega) (fun v hv' => by have := hvs v hv'; omega)
  have k2 := out_fn f 0 t
  unfold outB at k2
  rw [decide_eq_false (by omega)] at k2
  rw [hv0] at k1
  have hL : (l.map Ver.row).length = l.length := List.length_map _
  clear h hv0
  refine PFn.mk (Spec.body Tryd.func10 rfl rfl (Tryd.ntmps10) rfl fun w0 own0 M => ?_)
  by_cases hl0 : l.length = 0
  · have hnil : l = [] := List.length_eq_zero_iff.1 hl0
    subst hnil
    repeat' (first | refine goH ?_ | refine goV ?_ | refine goB (fun b => ?_) | refine goG ?_ | (refine Ops.k_guard ?_; first | (refine Ops.guard_dec rfl rfl (fun hc => ?_) (fun hc => ?_) <;> try (exfalso; omega)) | refine Ops.guard_split rfl rfl (fun hc => ?_) (fun hc => ?_)) | refine goI ?_ | (refine Cw.k_cond ?_; first | (refine Cw.cond_dec rfl (fun hc => ?_) (fun hc => ?_) <;> try (exfalso; omega)) | refine Cw.cond_bool rfl (fun hc => ?_) (fun hc => ?_)) | (refine Ops.k_calla ?_; first | (refine Ops.k_callf 8 ?_; refine Ops.callV k1 (Evs.cons rfl Evs.nil) rfl ?_) | (refine Ops.k_callf 26 ?_; refine Ops.callV k2 (Evs.cons rfl (Evs.cons rfl (Evs.cons rfl Evs.nil))) rfl ?_)) | fail)
    all_goals first | (refine Fin.ret (Ent.trans (Ent.nilsl 4 (s := 6) rfl) (Ent.take goTk)) (Outs.many rfl (OutL.cons goOe (OutL.cons goOe OutL.nil)) rfl) ⟨rfl, rfl⟩) | (exfalso; omega)
  obtain ⟨z, hz⟩ := at_lt (l := l) (k := 0) (by omega)
  have hrow0 : (l.map Ver.row)[(0 : Int).toNat]? = some [.int z.f, .strs z.x] := rows_at hz
  have hz0 : len0 l = z.x.length := by unfold len0; rw [hz]
  have hzl := hvs z (List.mem_of_getElem? hz)
  have hzs := strRows_len z.x
  obtain ⟨S, hS⟩ : ∃ S, S = stV l f t := ⟨_, rfl⟩
  have hS0 : S = itF (fun i out => slotV l i f t out) 0 (len0 l - 0) [] := hS
  rw [← hS]
  clear hS
  repeat' (first | refine goH ?_ | refine goV ?_ | refine goB (fun b => ?_) | refine goG ?_ | (refine Ops.k_guard ?_; first | (refine Ops.guard_dec rfl rfl (fun hc => ?_) (fun hc => ?_) <;> try (exfalso; omega)) | refine Ops.guard_split rfl rfl (fun hc => ?_) (fun hc => ?_)) | refine goI ?_ | (refine Cw.k_cond ?_; first | (refine Cw.cond_dec rfl (fun hc => ?_) (fun hc => ?_) <;> try (exfalso; omega)) | refine Cw.cond_bool rfl (fun hc => ?_) (fun hc => ?_)) | (refine Ops.k_calla ?_; first | (refine Ops.k_callf 8 ?_; refine Ops.callV k1 (Evs.cons rfl Evs.nil) rfl ?_) | (refine Ops.k_callf 26 ?_; refine Ops.callV k2 (Evs.cons rfl (Evs.cons rfl (Evs.cons rfl Evs.nil))) rfl ?_)) | fail)
  rw [hzs, ← hz0]
  have hW : len0 l ≤ 60 := by omega
  clear hzs hrow0 hzl
  refine Cw.loopI [(0, _), (1, _), (2, _), (36, _)] _ (fun q e cc => ∃ (i n : Nat) (ad : Option Addr) (cap : Nat) (out : List Sty) (rows : List (List Tr)), q = len0 l - i ∧ (i ≤ len0 l ∧ S = itF (fun i out => slotV l i f t out) i (len0 l - i) out ∧ rows = out.map Sty.row ∧ out.length = n ∧ n ≤ 300 * i) ∧ e = [(9, Tr.raw (.slice ad n cap)), (37, .int i)] ∧ cc = [Chunk.own ad cap 4 43 rows])
    ⟨_, _, _, Ent.trans (Ent.nil 4 43) (Ent.mkP goSub goPm), 0, 0, none, 0, [], [], rfl, ⟨by omega, hS0, rfl, rfl, by omega⟩, rfl, rfl⟩ ?_
  clear hS0
  rintro _ _ _ ⟨i, n, ad, cap, out, rows, rfl, ⟨hi, hS, hrows, hn, hnb⟩, rfl, rfl⟩
  by_cases hil : i < len0 l
  · repeat' (first | refine goH ?_ | refine goV ?_ | refine goB (fun b => ?_) | refine goG ?_ | (refine Ops.k_guard ?_; first | (refine Ops.guard_dec rfl rfl (fun hc => ?_) (fun hc => ?_) <;> try (exfalso; omega)) | refine Ops.guard_split rfl rfl (fun hc => ?_) (fun hc => ?_)) | refine goI ?_ | (refine Cw.k_cond ?_; first | (refine Cw.cond_dec rfl (fun hc => ?_) (fun hc => ?_) <;> try (exfalso; omega)) | refine Cw.cond_bool rfl (fun hc => ?_) (fun hc => ?_)) | fail)
    rename Nat => b11
    refine Cw.loopI [(0, _), (1, _), (2, _), (10, _), (11, _), (36, _), (37, _), (41, _), (42, _)] _ (fun q e cc => ∃ (k n : Nat) (ad : Option Addr) (cap : Nat) (o : List Sty) (ls : Int) (lp : ByteArray) (lf lt : Int) (rows : List (List Tr)), q = l.length - k ∧ (k ≤ l.length ∧ itF (verK l i f t) 0 (l.length - 0) (out, ⟨-1, eS, 0, 0⟩) = itF (verK l i f t) k (l.length - k) (o, ⟨ls, lp, lf, lt⟩) ∧ rows = o.map Sty.row ∧ o.length = n ∧ n ≤ 300 * i + k) ∧ e = [(9, Tr.raw (.slice ad n cap)), (43, .int k)] ∧ cc = [Chunk.box b11 43 [.int ls, .str lp, .int lf, .int lt], Chunk.own ad cap 4 43 rows])
      ⟨_, _, _, (Ent.mkP goSub goPm), 0, n, ad, cap, out, -1, eS, 0, 0, rows, rfl, ⟨by omega, rfl, hrows, hn, by omega⟩, rfl, rfl⟩ ?_
    clear hrows hn hnb n
    rintro _ _ _ ⟨k, n, ad, cap, o, ls, lp, lf, lt, rows, rfl, ⟨hk, hV, hrows, hn, hnb⟩, rfl, rfl⟩
    by_cases hkl : k < l.length
    · obtain ⟨v, hv⟩ := at_lt hkl
      have hrow : (l.map Ver.row)[k]? = some [.int v.f, .strs v.x] := rows_at hv
      have hvb := hvs v (List.mem_of_getElem? hv)
      obtain ⟨w, hw⟩ := at_lt (l := v.x) (k := i) (by omega)
      have hwr : (strRows v.x)[((i : Nat) : Int).toNat]? = some [.str w] := strRows_at hw
      have hws := strRows_len v.x
      have hgw : v.x.getD i eS = w := by rw [List.getD_eq_getElem?_getD, hw]; rfl
      have hVs := itF_step (f := verK l i f t) (k := k) (D := l.length) (s := (o, ⟨ls, lp, lf, lt⟩)) hkl
      rw [verK_at hv, hgw] at hVs
      rw [hVs] at hV
      have kk := fun ad cap => kept_fn o ⟨ls, lp, lf, lt⟩ (ad := ad) (n := n) (cap := cap) hn.symm (by omega)
      rw [← hrows] at kk
      have hkl2 := keptF_len o ⟨ls, lp, lf, lt⟩
      unfold Sty.row at kk
      simp only at kk
      clear hVs hgw hw
      by_cases hc : verEnd l t k ≤ max f v.f
      · rw [if_pos hc] at hV
        by_cases hk1 : k + 1 < l.length
        · obtain ⟨y, hy⟩ := at_lt hk1
          have hrowy : (l.map Ver.row)[(((k : Nat) : Int) + 1).toNat]? = some [.int y.f, .strs y.x] := by rw [show (((k : Nat) : Int) + 1).toNat = k + 1 by omega]; exact rows_at hy
          have hyb := hvs y (List.mem_of_getElem? hy)
          have he : verEnd l t k = min t y.f := by unfold verEnd; rw [hy]
          rw [he] at hc
          try rw [he] at hV
          clear he hy
          repeat' (first | refine goH ?_ | refine goV ?_ | refine goB (fun b => ?_) | refine goG ?_ | (refine Ops.k_guard ?_; first | (refine Ops.guard_dec rfl rfl (fun hc => ?_) (fun hc => ?_) <;> try (exfalso; omega)) | refine Ops.guard_split rfl rfl (fun hc => ?_) (fun hc => ?_)) | refine goI ?_ | (refine Cw.k_cond ?_; first | (refine Cw.cond_dec rfl (fun hc => ?_) (fun hc => ?_) <;> try (exfalso; omega)) | refine Cw.cond_bool rfl (fun hc => ?_) (fun hc => ?_)) | fail)
          all_goals first | exact ⟨_, _, _, (Ent.mk goSub goTk), ⟨k + 1, n, _, _, _, _, _, _, _, _, rfl, ⟨by omega, hV, hrows, hn, by omega⟩, rfl, rfl⟩, by omega⟩ | (exfalso; omega)
        · have he : verEnd l t k = t := by unfold verEnd; rw [List.getElem?_eq_none (by omega)]
          rw [he] at hc
          try rw [he] at hV
          clear he
          repeat' (first | refine goH ?_ | refine goV ?_ | refine goB (fun b => ?_) | refine goG ?_ | (refine Ops.k_guard ?_; first | (refine Ops.guard_dec rfl rfl (fun hc => ?_) (fun hc => ?_) <;> try (exfalso; omega)) | refine Ops.guard_split rfl rfl (fun hc => ?_) (fun hc => ?_)) | refine goI ?_ | (refine Cw.k_cond ?_; first | (refine Cw.cond_dec rfl (fun hc => ?_) (fun hc => ?_) <;> try (exfalso; omega)) | refine Cw.cond_bool rfl (fun hc => ?_) (fun hc => ?_)) | fail)
          all_goals first | exact ⟨_, _, _, (Ent.mk goSub goTk), ⟨k + 1, n, _, _, _, _, _, _, _, _, rfl, ⟨by omega, hV, hrows, hn, by omega⟩, rfl, rfl⟩, by omega⟩ | (exfalso; omega)
      · rw [if_neg hc] at hV
        unfold verW at hV
        simp only at hV
        by_cases hm : ls = (i : Int) ∧ lt = max f v.f ∧ lp = w
        · rw [if_pos hm] at hV
          obtain ⟨m1, m2, m3⟩ := hm
          by_cases hk1 : k + 1 < l.length
          · obtain ⟨y, hy⟩ := at_lt hk1
            have hrowy : (l.map Ver.row)[(((k : Nat) : Int) + 1).toNat]? = some [.int y.f, .strs y.x] := by rw [show (((k : Nat) : Int) + 1).toNat = k + 1 by omega]; exact rows_at hy
            have hyb := hvs y (List.mem_of_getElem? hy)
            have he : verEnd l t k = min t y.f := by unfold verEnd; rw [hy]
            rw [he] at hc
            try rw [he] at hV
            clear he hy
            repeat' (first | refine goH ?_ | refine goV ?_ | refine goB (fun b => ?_) | refine goG ?_ | (refine Ops.k_guard ?_; first | (refine Ops.guard_dec rfl rfl (fun hc => ?_) (fun hc => ?_) <;> try (exfalso; omega)) | refine Ops.guard_split rfl rfl (fun hc => ?_) (fun hc => ?_)) | refine goI ?_ | (refine Cw.k_cond ?_; first | (refine Cw.cond_dec rfl (fun hc => ?_) (fun hc => ?_) <;> try (exfalso; omega)) | refine Cw.cond_bool rfl (fun hc => ?_) (fun hc => ?_)) | fail)
            all_goals first | exact ⟨_, _, _, (Ent.mk goSub goTk), ⟨k + 1, n, _, _, _, _, _, _, _, _, rfl, ⟨by omega, hV, hrows, hn, by omega⟩, rfl, rfl⟩, by omega⟩ | (exfalso; omega) | (exfalso; simp_all; done)
          · have he : verEnd l t k = t := by unfold verEnd; rw [List.getElem?_eq_none (by omega)]
            rw [he] at hc
            try rw [he] at hV
            clear he
            repeat' (first | refine goH ?_ | refine goV ?_ | refine goB (fun b => ?_) | refine goG ?_ | (refine Ops.k_guard ?_; first | (refine Ops.guard_dec rfl rfl (fun hc => ?_) (fun hc => ?_) <;> try (exfalso; omega)) | refine Ops.guard_split rfl rfl (fun hc => ?_) (fun hc => ?_)) | refine goI ?_ | (refine Cw.k_cond ?_; first | (refine Cw.cond_dec rfl (fun hc => ?_) (fun hc => ?_) <;> try (exfalso; omega)) | refine Cw.cond_bool rfl (fun hc => ?_) (fun hc => ?_)) | fail)
            all_goals first | exact ⟨_, _, _, (Ent.mk goSub goTk), ⟨k + 1, n, _, _, _, _, _, _, _, _, rfl, ⟨by omega, hV, hrows, hn, by omega⟩, rfl, rfl⟩, by omega⟩ | (exfalso; omega) | (exfalso; simp_all; done)
        · rw [if_neg hm] at hV
          by_cases hk1 : k + 1 < l.length
          · obtain ⟨y, hy⟩ := at_lt hk1
            have hrowy : (l.map Ver.row)[(((k : Nat) : Int) + 1).toNat]? = some [.int y.f, .strs y.x] := by rw [show (((k : Nat) : Int) + 1).toNat = k + 1 by omega]; exact rows_at hy
            have hyb := hvs y (List.mem_of_getElem? hy)
            have he : verEnd l t k = min t y.f := by unfold verEnd; rw [hy]
            rw [he] at hc
            try rw [he] at hV
            clear he hy
            repeat' (first | refine goH ?_ | refine goV ?_ | refine goB (fun b => ?_) | refine goG ?_ | (refine Ops.k_guard ?_; first | (refine Ops.guard_dec rfl rfl (fun hc => ?_) (fun hc => ?_) <;> try (exfalso; omega)) | refine Ops.guard_split rfl rfl (fun hc => ?_) (fun hc => ?_)) | refine goI ?_ | (refine Cw.k_cond ?_; first | (refine Cw.cond_dec rfl (fun hc => ?_) (fun hc => ?_) <;> try (exfalso; omega)) | refine Cw.cond_bool rfl (fun hc => ?_) (fun hc => ?_)) | (refine Ops.k_calla ?_; first | (refine Ops.k_callf 27 ?_; (refine Ops.call (kk _ _) (Evs.cons rfl (Evs.cons rfl Evs.nil)) goPm rfl ?_; rintro r cs' ⟨ad2, cap2, rfl, rfl⟩))) | fail)
            all_goals first | exact ⟨_, _, _, (Ent.mk goSub goTk), ⟨k + 1, _, _, _, _, _, _, _, _, _, rfl, ⟨by omega, hV, rfl, rfl, by omega⟩, rfl, rfl⟩, by omega⟩ | (exfalso; omega) | (exfalso; simp_all; done) | (exfalso; exact hm ⟨by omega, by omega, by assumption⟩)
          · have he : verEnd l t k = t := by unfold verEnd; rw [List.getElem?_eq_none (by omega)]
            rw [he] at hc
            try rw [he] at hV
            clear he
            repeat' (first | refine goH ?_ | refine goV ?_ | refine goB (fun b => ?_) | refine goG ?_ | (refine Ops.k_guard ?_; first | (refine Ops.guard_dec rfl rfl (fun hc => ?_) (fun hc => ?_) <;> try (exfalso; omega)) | refine Ops.guard_split rfl rfl (fun hc => ?_) (fun hc => ?_)) | refine goI ?_ | (refine Cw.k_cond ?_; first | (refine Cw.cond_dec rfl (fun hc => ?_) (fun hc => ?_) <;> try (exfalso; omega)) | refine Cw.cond_bool rfl (fun hc => ?_) (fun hc => ?_)) | (refine Ops.k_calla ?_; first | (refine Ops.k_callf 27 ?_; (refine Ops.call (kk _ _) (Evs.cons rfl (Evs.cons rfl Evs.nil)) goPm rfl ?_; rintro r cs' ⟨ad2, cap2, rfl, rfl⟩))) | fail)
            all_goals first | exact ⟨_, _, _, (Ent.mk goSub goTk), ⟨k + 1, _, _, _, _, _, _, _, _, _, rfl, ⟨by omega, hV, rfl, rfl, by omega⟩, rfl, rfl⟩, by omega⟩ | (exfalso; omega) | (exfalso; simp_all; done) | (exfalso; exact hm ⟨by omega, by omega, by assumption⟩)
    · rw [itF_end hkl] at hV
      have hsl := slotV_eq hV
      simp only at hsl
      have kk := fun ad cap => kept_fn o ⟨ls, lp, lf, lt⟩ (ad := ad) (n := n) (cap := cap) hn.symm (by omega)
      rw [← hrows, ← hsl] at kk
      have hkl2 := keptF_len o ⟨ls, lp, lf, lt⟩
      rw [← hsl] at hkl2
      have hSn := itF_step (f := fun i out => slotV l i f t out) (k := i) (D := len0 l) (s := out) hil
      rw [hSn] at hS
      unfold Sty.row at kk
      simp only at kk
      repeat' (first | refine goH ?_ | refine goV ?_ | refine goB (fun b => ?_) | refine goG ?_ | (refine Ops.k_guard ?_; first | (refine Ops.guard_dec rfl rfl (fun hc => ?_) (fun hc => ?_) <;> try (exfalso; omega)) | refine Ops.guard_split rfl rfl (fun hc => ?_) (fun hc => ?_)) | refine goI ?_ | (refine Cw.k_cond ?_; first | (refine Cw.cond_dec rfl (fun hc => ?_) (fun hc => ?_) <;> try (exfalso; omega)) | refine Cw.cond_bool rfl (fun hc => ?_) (fun hc => ?_)) | (refine Ops.k_calla ?_; first | (refine Ops.k_callf 27 ?_; (refine Ops.call (kk _ _) (Evs.cons rfl (Evs.cons rfl Evs.nil)) goPm rfl ?_; rintro r cs' ⟨ad2, cap2, rfl, rfl⟩))) | fail)
      exact ⟨_, _, _, (Ent.mk goSub goTk), ⟨i + 1, _, _, _, _, _, rfl, ⟨by omega, hS, rfl, rfl, by omega⟩, rfl, rfl⟩, by omega⟩
  · rw [itF_end hil] at hS
    rw [hS, ← hrows]
    have hrl : n = rows.length := by rw [hrows, List.length_map, hn]
    rw [hrl]
    repeat' (first | refine goH ?_ | refine goV ?_ | refine goB (fun b => ?_) | refine goG ?_ | (refine Ops.k_guard ?_; first | (refine Ops.guard_dec rfl rfl (fun hc => ?_) (fun hc => ?_) <;> try (exfalso; omega)) | refine Ops.guard_split rfl rfl (fun hc => ?_) (fun hc => ?_)) | refine goI ?_ | (refine Cw.k_cond ?_; first | (refine Cw.cond_dec rfl (fun hc => ?_) (fun hc => ?_) <;> try (exfalso; omega)) | refine Cw.cond_bool rfl (fun hc => ?_) (fun hc => ?_)) | fail)
    refine Fin.ret (Ent.trans (Ent.settle (s := 6) rfl goPk rfl) (Ent.take goTk)) (Outs.many rfl (OutL.cons goOe (OutL.cons goOe OutL.nil)) rfl) ⟨rfl, rfl⟩
end Lg
end
