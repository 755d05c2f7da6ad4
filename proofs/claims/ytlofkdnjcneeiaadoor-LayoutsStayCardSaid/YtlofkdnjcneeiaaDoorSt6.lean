/- A part of the proof of a law of this seat: it adds no condition. By an AI agent. -/
import Derived.Test.YtlofkdnjcneeiaaDoorSt5
set_option linter.all false
set_option maxRecDepth 100000
set_option maxHeartbeats 4000000
namespace Lg
open Go Go.Proofs

/-! ### StaysOf: day by day -/
def stD (l : List Ver) (f t : Int) : List Sty := itF (fun i out => slotD l i f t out) 0 (len0 l) []
theorem wd_atX {l : List Ver} {i : Nat} {d : Int} {v : Ver} (h : atN l d l.length = some v) : wd l i d = (atX l d).getD i eS := by
  unfold wd atX
  rw [h]
theorem wd_none {l : List Ver} {i : Nat} {d : Int} (h : atN l d l.length = none) : wd l i d = eS := by
  unfold wd
  rw [h]
theorem atN_mem {l : List Ver} {d : Int} : ∀ {n : Nat} {v : Ver}, atN l d n = some v → v ∈ l
  | 0, v, h => by cases h
  | n + 1, v, h => by
    unfold atN at h
    split at h
    · cases h
    · rename_i y hy
      split at h
      · cases h
        exact List.mem_of_getElem? hy
      · exact atN_mem h
theorem dayS_len (i : Nat) (w : ByteArray) (d : Int) (st : DS) : (dayS i w d st).1.length ≤ st.1.length + 1 := by
  unfold dayS setL
  split
  · split
    · simp
    · simp only [List.length_append, List.length_dropLast, List.length_cons, List.length_nil]; omega
  · split <;> simp
theorem setL_at {out : List Sty} {j : Nat} {q : Sty} (t : Int) (hj : out.length = j + 1) (hq : out[j]? = some q) : setL out t = out.set j { q with t := t } := by
  have hl : out.getLast? = some q := by rw [List.getLast?_eq_getElem?, hj]; exact hq
  unfold setL
  rw [hl]
  simp only
  apply List.ext_getElem?
  intro i
  rw [List.getElem?_set]
  by_cases hi : j = i
  · subst hi
    rw [if_pos rfl, if_pos (by omega), List.getElem?_append_right (by simp; omega)]
    simp [hj]
  · rw [if_neg hi]
    by_cases h2 : i < j
    · rw [List.getElem?_append_left (by simp; omega), List.getElem?_dropLast, if_pos (by omega)]
    · rw [List.getElem?_eq_none (by simp; omega), List.getElem?_eq_none (by omega)]
theorem staysOf_fn (l : List Ver) (hl : l.length ≤ 1000) (hvs : ∀ v ∈ l, v.x.length ≤ 60 ∧ v.x.length = len0 l) (f t : Int) (hf : 0 ≤ f) (hft : f ≤ t) (ht : t ≤ 4001) : PFn Tryd.prog 16 [.vers l, .int f, .int t] (· = .sl 4 ((stD l f t).map Sty.row)) := by
  have hL : (l.map Ver.row).length = l.length := List.length_map _
  refine PFn.mk (Spec.body Tryd.func16 rfl rfl (Tryd.ntmps16) rfl fun w0 own0 M => ?_)
  by_cases hl0 : l.length = 0
  · have hnil : l = [] := List.length_eq_zero_iff.1 hl0
    subst hnil
    repeat' (first | refine goH ?_ | refine goV ?_ | refine goC (fun ad cap => ?_) | refine goG ?_ | (refine Ops.k_guard ?_; first | (refine Ops.guard_dec rfl rfl (fun hc => ?_) (fun hc => ?_) <;> try (exfalso; omega)) | refine Ops.guard_split rfl rfl (fun hc => ?_) (fun hc => ?_)) | refine goI ?_ | (refine Cw.k_cond ?_; first | (refine Cw.cond_dec rfl (fun hc => ?_) (fun hc => ?_) <;> try (exfalso; omega)) | refine Cw.cond_bool rfl (fun hc => ?_) (fun hc => ?_)) | fail)
    all_goals first | (refine Fin.ret (Ent.trans (Ent.nilsl 4 (s := 6) rfl) (Ent.take goTk)) (Outs.sole rfl goOe) ⟨rfl, rfl⟩) | (exfalso; omega)
  obtain ⟨z, hz⟩ := at_lt (l := l) (k := 0) (by omega)
  have hrow0 : (l.map Ver.row)[(0 : Int).toNat]? = some [.int z.f, .strs z.x] := rows_at hz
  have hz0 : len0 l = z.x.length := by unfold len0; rw [hz]
  have hzl := hvs z (List.mem_of_getElem? hz)
  have hzs := strRows_len z.x
  obtain ⟨S, hS⟩ : ∃ S, S = stD l f t := ⟨_, rfl⟩
  have hS0 : S = itF (fun i out => slotD l i f t out) 0 (len0 l - 0) [] := hS
  rw [← hS]
  clear hS
  repeat' (first | refine goH ?_ | refine goV ?_ | refine goC (fun ad cap => ?_) | refine goG ?_ | (refine Ops.k_guard ?_; first | (refine Ops.guard_dec rfl rfl (fun hc => ?_) (fun hc => ?_) <;> try (exfalso; omega)) | refine Ops.guard_split rfl rfl (fun hc => ?_) (fun hc => ?_)) | refine goI ?_ | (refine Cw.k_cond ?_; first | (refine Cw.cond_dec rfl (fun hc => ?_) (fun hc => ?_) <;> try (exfalso; omega)) | refine Cw.cond_bool rfl (fun hc => ?_) (fun hc => ?_)) | fail)
  rw [hzs, ← hz0]
  have hW : len0 l ≤ 60 := by omega
  clear hzs hrow0 hzl
  refine Cw.loopI [(0, _), (1, _), (2, _), (21, _)] _ (fun q e cc => ∃ (i n : Nat) (ad : Option Addr) (cap : Nat) (out : List Sty) (rows : List (List Tr)), q = len0 l - i ∧ (i ≤ len0 l ∧ S = itF (fun i out => slotD l i f t out) i (len0 l - i) out ∧ rows = out.map Sty.row ∧ rows.length = n ∧ n ≤ 5000 * i) ∧ e = [(7, Tr.raw (.slice ad n cap)), (22, .int i)] ∧ cc = [Chunk.own ad cap 4 43 rows])
    ⟨_, _, _, Ent.trans (Ent.nil 4 43) (Ent.mkP goSub goPm), 0, 0, none, 0, [], [], rfl, ⟨by omega, hS0, rfl, rfl, by omega⟩, rfl, rfl⟩ ?_
  clear hS0
  rintro _ _ _ ⟨i, n, ad, cap, out, rows, rfl, ⟨hi, hS, hrows, hn, hnb⟩, rfl, rfl⟩
  by_cases hil : i < len0 l
  · have hSn := itF_step (f := fun i out => slotD l i f t out) (k := i) (D := len0 l) (s := out) hil
    rw [hSn] at hS
    clear hSn
    repeat' (first | refine goH ?_ | refine goV ?_ | refine goC (fun ad cap => ?_) | refine goG ?_ | (refine Ops.k_guard ?_; first | (refine Ops.guard_dec rfl rfl (fun hc => ?_) (fun hc => ?_) <;> try (exfalso; omega)) | refine Ops.guard_split rfl rfl (fun hc => ?_) (fun hc => ?_)) | refine goI ?_ | (refine Cw.k_cond ?_; first | (refine Cw.cond_dec rfl (fun hc => ?_) (fun hc => ?_) <;> try (exfalso; omega)) | refine Cw.cond_bool rfl (fun hc => ?_) (fun hc => ?_)) | fail)
    have hD0 : slotD l i f t out = (itF (fun k st => dayS i (wd l i (f + k)) (f + k) st) 0 ((t - f).toNat - 0) (out, eS)).1 := rfl
    refine Cw.loopI [(0, _), (1, _), (2, _), (8, _), (21, _), (22, _)] _ (fun q e cc => ∃ (k n : Nat) (ad : Option Addr) (cap : Nat) (o : List Sty) (was : ByteArray) (rows : List (List Tr)), q = (t - f).toNat - k ∧ (k ≤ (t - f).toNat ∧ slotD l i f t out = (itF (fun k st => dayS i (wd l i (f + k)) (f + k) st) k ((t - f).toNat - k) (o, was)).1 ∧ rows = o.map Sty.row ∧ rows.length = n ∧ n ≤ 5000 * i + k ∧ (was ≠ eS → 0 < n)) ∧ e = [(7, Tr.raw (.slice ad n cap)), (9, .str was), (10, .int (f + k))] ∧ cc = [Chunk.own ad cap 4 43 rows])
      ⟨_, _, _, Ent.mk (by repeat' (first | exact Sub.nil | refine Sub.cons rfl ?_ | refine Sub.cons (show some (Tr.int f) = some (Tr.int (f + ((0 : Nat) : Int))) by rw [Int.natCast_zero, Int.add_zero]) ?_)) goTk, 0, n, ad, cap, out, eS, rows, rfl, ⟨by omega, hD0, hrows, hn, by omega, fun h => absurd rfl h⟩, rfl, rfl⟩ ?_
    clear hrows hn hnb n hD0
    rintro _ _ _ ⟨k, n, ad, cap, o, was, rows, rfl, ⟨hk, hV, hrows, hn, hnb, hwas⟩, rfl, rfl⟩
    by_cases hkl : (k : Nat) < (t - f).toNat
    · have hVs := itF_step (f := fun k st => dayS i (wd l i (f + k)) (f + k) st) (k := k) (D := (t - f).toNat) (s := (o, was)) hkl
      rw [hVs] at hV
      clear hVs
      have ka := layoutAt_fn l (by omega) (fun v hv => by have := hvs v hv; omega) (f + k)
      have e1 : f + (k : Int) + 1 = f + ((k + 1 : Nat) : Int) := by omega
      have hol : o.length = n := by rw [← hn, hrows, List.length_map]
      have nil : ∀ rr : Tr, rr = atR l (f + k) → wd l i (f + k) = eS → slotD l i f t out = (itF (fun k st => dayS i (wd l i (f + k)) (f + k) st) (k + 1) ((t - f).toNat - (k + 1)) (o, eS)).1 := by
        intro _ _ hw
        have h0 : dayS i eS (f + k) (o, was) = (o, eS) := by
          unfold dayS
          rw [if_neg (by simp), if_neg (by simp)]
        rw [hV, hw, h0]
      cases hat : atN l (f + k) l.length with
      | none =>
        have hV2 := nil _ rfl (wd_none hat)
        unfold atR atX at ka
        rw [hat] at ka
        simp only at ka
        clear nil hV
        repeat' (first | refine goH ?_ | refine goV ?_ | refine goC (fun ad cap => ?_) | refine goG ?_ | (refine Ops.k_guard ?_; first | (refine Ops.guard_dec rfl rfl (fun hc => ?_) (fun hc => ?_) <;> try (exfalso; omega)) | refine Ops.guard_split rfl rfl (fun hc => ?_) (fun hc => ?_)) | refine goI ?_ | (refine Cw.k_cond ?_; first | (refine Cw.cond_dec rfl (fun hc => ?_) (fun hc => ?_) <;> try (exfalso; omega)) | refine Cw.cond_bool rfl (fun hc => ?_) (fun hc => ?_)) | (refine Ops.k_calla ?_; first | (refine Ops.k_callf 13 ?_; refine Ops.callV ka (Evs.cons rfl (Evs.cons rfl Evs.nil)) rfl ?_)) | fail)
        all_goals first | (rw [e1]; exact ⟨_, _, _, (Ent.mk goSub goTk), ⟨k + 1, n, _, _, o, eS, _, rfl, ⟨by omega, hV2, hrows, hn, by omega, fun h => absurd rfl h⟩, rfl, rfl⟩, by omega⟩) | (exfalso; simp_all; done)
      | some v =>
        have hvl := hvs v (atN_mem hat)
        obtain ⟨w, hw⟩ := at_lt (l := v.x) (k := i) (by omega)
        have hwr : (strRows v.x)[((i : Nat) : Int).toNat]? = some [.str w] := strRows_at hw
        have hws := strRows_len v.x
        have hwd : wd l i (f + k) = w := by rw [wd_atX hat]; unfold atX; rw [hat]; simp only; rw [List.getD_eq_getElem?_getD, hw]; rfl
        unfold atR atX at ka
        rw [hat] at ka
        simp only at ka
        by_cases hwe : w = eS
        · have hV2 := nil _ rfl (hwd.trans hwe)
          subst hwe
          clear nil hV
          repeat' (first | refine goH ?_ | refine goV ?_ | refine goC (fun ad cap => ?_) | refine goG ?_ | (refine Ops.k_guard ?_; first | (refine Ops.guard_dec rfl rfl (fun hc => ?_) (fun hc => ?_) <;> try (exfalso; omega)) | refine Ops.guard_split rfl rfl (fun hc => ?_) (fun hc => ?_)) | refine goI ?_ | (refine Cw.k_cond ?_; first | (refine Cw.cond_dec rfl (fun hc => ?_) (fun hc => ?_) <;> try (exfalso; omega)) | refine Cw.cond_bool rfl (fun hc => ?_) (fun hc => ?_)) | (refine Ops.k_calla ?_; first | (refine Ops.k_callf 13 ?_; refine Ops.callV ka (Evs.cons rfl (Evs.cons rfl Evs.nil)) rfl ?_)) | fail)
          all_goals first | (rw [e1]; exact ⟨_, _, _, (Ent.mk goSub goTk), ⟨k + 1, n, _, _, o, eS, _, rfl, ⟨by omega, hV2, hrows, hn, by omega, fun h => absurd rfl h⟩, rfl, rfl⟩, by omega⟩) | (exfalso; simp_all; done)
        · rw [hwd] at hV
          clear nil hwd
          by_cases hww : w = was
          · have hn0 : 0 < n := hwas (fun h => hwe (hww.trans h))
            obtain ⟨j, rfl⟩ : ∃ j, n = j + 1 := ⟨n - 1, by omega⟩
            obtain ⟨⟨qs, qp, qf, qt⟩, hq⟩ := at_lt (l := o) (k := j) (by omega)
            have hq0 : rows[(((j + 1 : Nat) : Int) - 1).toNat]? = some [Tr.int qs, .str qp, .int qf, .int qt] := by rw [show (((j + 1 : Nat) : Int) - 1).toNat = j by omega, hrows]; exact rows_at hq
            have hV2 : slotD l i f t out = (itF (fun k st => dayS i (wd l i (f + k)) (f + k) st) (k + 1) ((t - f).toNat - (k + 1)) (setL o (f + k + 1), w)).1 := by
              rw [hV]
              congr 2
              unfold dayS
              rw [if_pos ⟨hwe, hww⟩]
            have key : rows.set (((j + 1 : Nat) : Int) - 1).toNat [Tr.int qs, .str qp, .int qf, .int (f + k + 1)] = (setL o (f + k + 1)).map Sty.row := by
              rw [show (((j + 1 : Nat) : Int) - 1).toNat = j by omega, setL_at _ hol hq, hrows, List.map_set]
              rfl
            have kl : (rows.set (((j + 1 : Nat) : Int) - 1).toNat [Tr.int qs, .str qp, .int qf, .int (f + k + 1)]).length = j + 1 := by rw [List.length_set, hn]
            rw [e1] at key kl hV2
            subst hww
            clear hV hrows hq
            repeat' (first | refine goH ?_ | refine goV ?_ | refine goC (fun ad cap => ?_) | refine goG ?_ | (refine Ops.k_guard ?_; first | (refine Ops.guard_dec rfl rfl (fun hc => ?_) (fun hc => ?_) <;> try (exfalso; omega)) | refine Ops.guard_split rfl rfl (fun hc => ?_) (fun hc => ?_)) | refine goI ?_ | (refine Cw.k_cond ?_; first | (refine Cw.cond_dec rfl (fun hc => ?_) (fun hc => ?_) <;> try (exfalso; omega)) | refine Cw.cond_bool rfl (fun hc => ?_) (fun hc => ?_)) | (refine Ops.k_calla ?_; first | (refine Ops.k_callf 13 ?_; refine Ops.callV ka (Evs.cons rfl (Evs.cons rfl Evs.nil)) rfl ?_)) | fail)
            all_goals first | (exfalso; exact absurd hwe (by assumption)) | (rw [e1]; exact ⟨_, _, _, (Ent.mk goSub goTk), ⟨k + 1, j + 1, _, _, _, w, _, rfl, ⟨by omega, hV2, key, kl, by omega, fun _ => by omega⟩, rfl, rfl⟩, by omega⟩) | (exfalso; simp_all; done)
          · have hV2 : slotD l i f t out = (itF (fun k st => dayS i (wd l i (f + k)) (f + k) st) (k + 1) ((t - f).toNat - (k + 1)) (o ++ [⟨i, w, f + k, f + k + 1⟩], w)).1 := by
              rw [hV]
              congr 2
              unfold dayS
              rw [if_neg (fun h => hww h.2), if_pos hwe]
            have key : rows ++ [[Tr.int i, .str w, .int (f + k), .int (f + k + 1)]] = (o ++ [(⟨i, w, f + k, f + k + 1⟩ : Sty)]).map Sty.row := by rw [hrows, List.map_append]; rfl
            have kl : (rows ++ [[Tr.int i, .str w, .int (f + k), .int (f + k + 1)]]).length = n + 1 := by rw [List.length_append, hn]; rfl
            rw [e1] at key kl hV2
            clear hV hrows
            repeat' (first | refine goH ?_ | refine goV ?_ | refine goC (fun ad cap => ?_) | refine goG ?_ | (refine Ops.k_guard ?_; first | (refine Ops.guard_dec rfl rfl (fun hc => ?_) (fun hc => ?_) <;> try (exfalso; omega)) | refine Ops.guard_split rfl rfl (fun hc => ?_) (fun hc => ?_)) | refine goI ?_ | (refine Cw.k_cond ?_; first | (refine Cw.cond_dec rfl (fun hc => ?_) (fun hc => ?_) <;> try (exfalso; omega)) | refine Cw.cond_bool rfl (fun hc => ?_) (fun hc => ?_)) | (refine Ops.k_calla ?_; first | (refine Ops.k_callf 13 ?_; refine Ops.callV ka (Evs.cons rfl (Evs.cons rfl Evs.nil)) rfl ?_)) | fail)
            all_goals first | (rw [e1, kl]; exact ⟨_, _, _, (Ent.mk goSub goTk), ⟨k + 1, n + 1, _, _, _, w, _, rfl, ⟨by omega, hV2, key, kl, by omega, fun _ => by omega⟩, rfl, rfl⟩, by omega⟩) | (exfalso; simp_all; done)
    · rw [itF_end hkl] at hV
      simp only at hV
      rw [hV] at hS
      repeat' (first | refine goH ?_ | refine goV ?_ | refine goC (fun ad cap => ?_) | refine goG ?_ | (refine Ops.k_guard ?_; first | (refine Ops.guard_dec rfl rfl (fun hc => ?_) (fun hc => ?_) <;> try (exfalso; omega)) | refine Ops.guard_split rfl rfl (fun hc => ?_) (fun hc => ?_)) | refine goI ?_ | (refine Cw.k_cond ?_; first | (refine Cw.cond_dec rfl (fun hc => ?_) (fun hc => ?_) <;> try (exfalso; omega)) | refine Cw.cond_bool rfl (fun hc => ?_) (fun hc => ?_)) | fail)
      exact ⟨_, _, _, (Ent.mk goSub goTk), ⟨i + 1, _, _, _, o, _, rfl, ⟨by omega, hS, hrows, hn, by omega⟩, rfl, rfl⟩, by omega⟩
  · rw [itF_end hil] at hS
    rw [hS, ← hrows, ← hn]
    repeat' (first | refine goH ?_ | refine goV ?_ | refine goC (fun ad cap => ?_) | refine goG ?_ | (refine Ops.k_guard ?_; first | (refine Ops.guard_dec rfl rfl (fun hc => ?_) (fun hc => ?_) <;> try (exfalso; omega)) | refine Ops.guard_split rfl rfl (fun hc => ?_) (fun hc => ?_)) | refine goI ?_ | (refine Cw.k_cond ?_; first | (refine Cw.cond_dec rfl (fun hc => ?_) (fun hc => ?_) <;> try (exfalso; omega)) | refine Cw.cond_bool rfl (fun hc => ?_) (fun hc => ?_)) | fail)
    refine Fin.ret (Ent.trans (Ent.settle (s := 6) rfl goPk rfl) (Ent.take goTk)) (Outs.sole rfl goOe) ⟨rfl, rfl⟩
end Lg
