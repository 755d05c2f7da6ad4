/- A part of the proof of a law of this seat: it adds no condition. By an AI agent. -/
import Derived.Test.YtgjiiacknhdabaaDoorOwn
import Derived.Test.YtgjiiacknhdabaaDoorLst
import Derived.Test.YtgjiiacknhdabaaDoorLgGo
import Derived.Test.YtgjiiacknhdabaaDoorLgCat
set_option linter.all false
set_option maxRecDepth 100000
set_option maxHeartbeats 4000000
namespace Lg
open Go Go.Proofs

theorem grow_fn (n : Nat) (hn : n ≤ 1000000) : PFnO Tryd.prog 61 [Tr.raw (.slice none 0 0), .int n] 1 3 (· = []) := by
  unfold PFnO
  refine Spec.body Tryd.func61 rfl rfl (Tryd.ntmps61) rfl fun w0 own0 M => ?_
  refine Cw.ent (Ent.nil 1 3) ?_
  by_cases h0 : 0 < n
  · repeat' (first | refine goH ?_ | refine goV ?_ | refine goC (fun ad cap => ?_) | refine goI ?_ | (refine Cw.k_cond ?_; first | (refine Cw.cond_dec rfl (fun hc => ?_) (fun hc => ?_) <;> try (exfalso; omega)) | refine Cw.cond_bool rfl (fun hc => ?_) (fun hc => ?_)) | (refine Ops.val' rfl (OpV.cap Tryd.underlying22 rfl) ?_) | (refine Ops.append_zeros (n := n) Tryd.underlying3 rfl ?_ h0 (by omega) (by omega) rfl (fun ad cap => ?_)) | fail)
    · show some (Tr.int ((n : Int) - (((0 : Nat) : Int) - ((0 : Nat) : Int)))) = some (Tr.int (n : Int))
      rw [show (n : Int) - (((0 : Nat) : Int) - ((0 : Nat) : Int)) = (n : Int) by omega]
    · exact Fin.ret (Ent.take (by repeat' (first | exact Take.nil | refine Take.cons (by first | exact pick0 | (apply pickS; first | exact pick0 | (apply pickS; first | exact pick0 | (apply pickS; first | exact pick0 | (apply pickS; first | exact pick0 | (apply pickS; first | exact pick0 | (apply pickS; first | exact pick0 | (apply pickS; first | exact pick0 | (apply pickS; first | exact pick0 | (apply pickS; first | exact pick0 | (apply pickS; exact pick0))))))))))) ?_))) (Outs.one rfl rfl) ⟨_, _, [], rfl, rfl, rfl⟩
  · repeat' (first | refine goH ?_ | refine goV ?_ | refine goC (fun ad cap => ?_) | refine goI ?_ | (refine Cw.k_cond ?_; first | (refine Cw.cond_dec rfl (fun hc => ?_) (fun hc => ?_) <;> try (exfalso; omega)) | refine Cw.cond_bool rfl (fun hc => ?_) (fun hc => ?_)) | (refine Ops.val' rfl (OpV.cap Tryd.underlying22 rfl) ?_) | fail)
    exact Fin.ret (Ent.take (by repeat' (first | exact Take.nil | refine Take.cons (by first | exact pick0 | (apply pickS; first | exact pick0 | (apply pickS; first | exact pick0 | (apply pickS; first | exact pick0 | (apply pickS; first | exact pick0 | (apply pickS; first | exact pick0 | (apply pickS; first | exact pick0 | (apply pickS; first | exact pick0 | (apply pickS; first | exact pick0 | (apply pickS; first | exact pick0 | (apply pickS; exact pick0))))))))))) ?_))) (Outs.one rfl rfl) ⟨none, 0, [], rfl, rfl, rfl⟩

def intsR (L : List (List Int)) : List (List Tr) := L.map fun l => [.ints l]
theorem intsR_len (L : List (List Int)) : (intsR L).length = L.length := by simp [intsR]
theorem intsR_at {L : List (List Int)} {k : Nat} {l : List Int} (h : L[k]? = some l) : (intsR L)[k]? = some [.ints l] := rows_at h
theorem flat_take {L : List (List Int)} {k : Nat} {l : List Int} (h : L[k]? = some l) : (L.take (k + 1)).flatten = (L.take k).flatten ++ l := by rw [take_at h, List.flatten_append]; simp
theorem flat_le (L : List (List Int)) (k : Nat) : (L.take k).flatten.length ≤ L.flatten.length := by
  have h := List.take_append_drop k L
  have h2 := congrArg (fun l => l.flatten.length) h
  simp only [List.flatten_append, List.length_append] at h2
  omega
theorem concat_fn (L : List (List Int)) (h1 : L.length ≤ 1000) (h2 : L.flatten.length ≤ 1000000) : PFnO Tryd.prog 42 [.sl 1 (intsR L)] 1 3 (· = intRows L.flatten) := by
  have hL := intsR_len L
  unfold PFnO
  refine Spec.body Tryd.func42 rfl rfl (Tryd.ntmps42) rfl fun w0 own0 M => ?_
  repeat' (first | refine goH ?_ | refine goV ?_ | refine goC (fun ad cap => ?_) | refine goI ?_ | (refine Cw.k_cond ?_; first | (refine Cw.cond_dec rfl (fun hc => ?_) (fun hc => ?_) <;> try (exfalso; omega)) | refine Cw.cond_bool rfl (fun hc => ?_) (fun hc => ?_)) | fail)
  refine Cw.loopI [(0, _), (9, _), (10, _)] _ (fun q e cc => ∃ (k : Nat), q = L.length - k ∧ (k ≤ L.length) ∧ e = [(3, .int ((L.take k).flatten.length : Nat)), (11, .int k)] ∧ cc = []) ⟨_, _, _, (Ent.mkP (by repeat' (first | exact Sub.nil | refine Sub.cons rfl ?_)) (by repeat' (first | exact List.Perm.refl _ | refine Perm.cons' (by first | exact pick0 | (apply pickS; first | exact pick0 | (apply pickS; first | exact pick0 | (apply pickS; first | exact pick0 | (apply pickS; first | exact pick0 | (apply pickS; first | exact pick0 | (apply pickS; first | exact pick0 | (apply pickS; first | exact pick0 | (apply pickS; first | exact pick0 | (apply pickS; first | exact pick0 | (apply pickS; exact pick0))))))))))) ?_))), 0, rfl, by omega, rfl, rfl⟩ ?_
  rintro _ _ _ ⟨k, rfl, hk, rfl, rfl⟩
  by_cases hkl : k < L.length
  · obtain ⟨l, hl⟩ := at_lt hkl
    have hrow := intsR_at hl
    have hst := congrArg List.length (flat_take hl)
    rw [List.length_append] at hst
    have hb := flat_le L (k + 1)
    have hlr := intRows_len l
    repeat' (first | refine goH ?_ | refine goV ?_ | refine goC (fun ad cap => ?_) | refine goI ?_ | (refine Cw.k_cond ?_; first | (refine Cw.cond_dec rfl (fun hc => ?_) (fun hc => ?_) <;> try (exfalso; omega)) | refine Cw.cond_bool rfl (fun hc => ?_) (fun hc => ?_)) | fail)
    exact ⟨_, _, _, Ent.mk (by first | (refine Sub.cons (by show some (Tr.int _) = some (Tr.int _); congr 2; omega) ?_; repeat' (first | exact Sub.nil | refine Sub.cons rfl ?_))) (by repeat' (first | exact Take.nil | refine Take.cons (by first | exact pick0 | (apply pickS; first | exact pick0 | (apply pickS; first | exact pick0 | (apply pickS; first | exact pick0 | (apply pickS; first | exact pick0 | (apply pickS; first | exact pick0 | (apply pickS; first | exact pick0 | (apply pickS; first | exact pick0 | (apply pickS; first | exact pick0 | (apply pickS; first | exact pick0 | (apply pickS; exact pick0))))))))))) ?_)), ⟨k + 1, rfl, by omega, rfl, rfl⟩, by omega⟩
  · have hkk : k = L.length := by omega
    subst hkk
    have hg := grow_fn L.flatten.length h2
    rw [List.take_of_length_le (Nat.le_refl _)]
    generalize hN : L.flatten.length = N at *
    repeat' (first | refine goH ?_ | refine goV ?_ | refine goC (fun ad cap => ?_) | refine goI ?_ | (refine Cw.k_cond ?_; first | (refine Cw.cond_dec rfl (fun hc => ?_) (fun hc => ?_) <;> try (exfalso; omega)) | refine Cw.cond_bool rfl (fun hc => ?_) (fun hc => ?_)) | (refine Ops.k_calla ?_; first | (refine Ops.k_callf 61 ?_; (refine Ops.callO hg (Evs.cons rfl (Evs.cons rfl Evs.nil)) rfl (fun ad cap rows hr => ?_); subst hr))) | fail)
    refine Cw.loopI [(25, _), (26, _)] _ (fun q e cc => ∃ (k : Nat) (ad : Option Addr) (cap : Nat) (rows : List (List Tr)), q = L.length - k ∧ (k ≤ L.length ∧ rows = intRows (L.take k).flatten ∧ rows.length ≤ N) ∧ e = [(6, Tr.raw (.slice ad rows.length cap)), (27, .int k)] ∧ cc = [Chunk.own ad cap 1 3 rows])
      ⟨_, _, _, (Ent.mkP (by repeat' (first | exact Sub.nil | refine Sub.cons rfl ?_)) (by repeat' (first | exact List.Perm.refl _ | refine Perm.cons' (by first | exact pick0 | (apply pickS; first | exact pick0 | (apply pickS; first | exact pick0 | (apply pickS; first | exact pick0 | (apply pickS; first | exact pick0 | (apply pickS; first | exact pick0 | (apply pickS; first | exact pick0 | (apply pickS; first | exact pick0 | (apply pickS; first | exact pick0 | (apply pickS; first | exact pick0 | (apply pickS; exact pick0))))))))))) ?_))), 0, ad, cap, [], rfl, ⟨by omega, rfl, by simp⟩, rfl, rfl⟩ ?_
    clear ad cap
    rintro _ _ _ ⟨k, ad, cap, rows, rfl, ⟨hk, hrows, hrl⟩, rfl, rfl⟩
    by_cases hkl : k < L.length
    · obtain ⟨l, hl⟩ := at_lt hkl
      have hrow := intsR_at hl
      have hst := flat_take hl
      have hb := flat_le L (k + 1)
      have hlr := intRows_len l
      have key : rows ++ intRows l = intRows (L.take (k + 1)).flatten := by rw [hst, intRows_app, hrows]
      have hkl2 := congrArg List.length key
      rw [List.length_append, intRows_len, intRows_len] at hkl2
      repeat' (first | refine goH ?_ | refine goV ?_ | refine goC (fun ad cap => ?_) | refine goI ?_ | (refine Cw.k_cond ?_; first | (refine Cw.cond_dec rfl (fun hc => ?_) (fun hc => ?_) <;> try (exfalso; omega)) | refine Cw.cond_bool rfl (fun hc => ?_) (fun hc => ?_)) | fail)
      exact ⟨_, _, _, (Ent.mk (by repeat' (first | exact Sub.nil | refine Sub.cons rfl ?_)) (by repeat' (first | exact Take.nil | refine Take.cons (by first | exact pick0 | (apply pickS; first | exact pick0 | (apply pickS; first | exact pick0 | (apply pickS; first | exact pick0 | (apply pickS; first | exact pick0 | (apply pickS; first | exact pick0 | (apply pickS; first | exact pick0 | (apply pickS; first | exact pick0 | (apply pickS; first | exact pick0 | (apply pickS; first | exact pick0 | (apply pickS; exact pick0))))))))))) ?_))), ⟨k + 1, _, _, _, rfl, ⟨by omega, key, by rw [List.length_append, intRows_len]; omega⟩, rfl, rfl⟩, by omega⟩
    · rw [List.take_of_length_le (by omega)] at hrows
      repeat' (first | refine goH ?_ | refine goV ?_ | refine goC (fun ad cap => ?_) | refine goI ?_ | (refine Cw.k_cond ?_; first | (refine Cw.cond_dec rfl (fun hc => ?_) (fun hc => ?_) <;> try (exfalso; omega)) | refine Cw.cond_bool rfl (fun hc => ?_) (fun hc => ?_)) | fail)
      exact Fin.ret (Ent.take (by repeat' (first | exact Take.nil | refine Take.cons (by first | exact pick0 | (apply pickS; first | exact pick0 | (apply pickS; first | exact pick0 | (apply pickS; first | exact pick0 | (apply pickS; first | exact pick0 | (apply pickS; first | exact pick0 | (apply pickS; first | exact pick0 | (apply pickS; first | exact pick0 | (apply pickS; first | exact pick0 | (apply pickS; first | exact pick0 | (apply pickS; exact pick0))))))))))) ?_))) (Outs.one rfl rfl) ⟨ad, cap, rows, rfl, rfl, hrows⟩
end Lg
