/- A part of the proof of a law of this seat: it adds no condition. By an AI agent. -/
import Derived.Test.YtgjiiacknhdabaaDoorSGen
set_option linter.all false
set_option maxRecDepth 100000
set_option maxHeartbeats 4000000
namespace Lg
open Go Go.Proofs
theorem equalStrs_same (xs : List ByteArray) (h : xs.length ≤ 1000000000) : PFn Tryd.prog 43 [.strs xs, .strs xs] (· = .bool true) := by
  refine PFn.mk (Spec.body Tryd.func43 rfl rfl (Tryd.ntmps43) rfl fun w0 own0 M => ?_)
  have hL := strRows_len xs
  repeat' (first | refine goH ?_ | refine goV ?_ | refine goI ?_ | (refine Cw.k_cond ?_; first | (refine Cw.cond_dec rfl (fun hc => ?_) (fun hc => ?_) <;> try (exfalso; omega)) | refine Cw.cond_bool rfl (fun hc => ?_) (fun hc => ?_)) | refine goR ?_ | refine goP ?_ | apply PSeq.cons | apply PSeq.yes rfl rfl rfl | exact goW | fail)
  refine Cw.loop (ι := Nat) (fun k => k ≤ xs.length) (fun k => [(0, .strs xs), (1, .strs xs), (11, .strs xs), (12, .int (strRows xs).length), (13, .int k)]) (fun _ => []) (fun k => xs.length - k) ⟨0, by omega, (Ent.mk (by repeat' (first | exact Sub.nil | refine Sub.cons rfl ?_)) (by repeat' (first | exact Take.nil | refine Take.cons (by first | exact pick0 | (apply pickS; first | exact pick0 | (apply pickS; first | exact pick0 | (apply pickS; first | exact pick0 | (apply pickS; first | exact pick0 | (apply pickS; first | exact pick0 | (apply pickS; first | exact pick0 | (apply pickS; first | exact pick0 | (apply pickS; first | exact pick0 | (apply pickS; first | exact pick0 | (apply pickS; exact pick0))))))))))) ?_)))⟩ ?_
  intro k hk
  by_cases hkl : k < xs.length
  · obtain ⟨d, hd⟩ : ∃ x, xs[k]? = some x := ⟨_, List.getElem?_eq_getElem hkl⟩
    have hrow := strRows_at hd
    repeat' (first | refine goH ?_ | refine goV ?_ | refine goI ?_ | (refine Cw.k_cond ?_; first | (refine Cw.cond_dec rfl (fun hc => ?_) (fun hc => ?_) <;> try (exfalso; omega)) | refine Cw.cond_bool rfl (fun hc => ?_) (fun hc => ?_)) | refine goR ?_ | refine goP ?_ | apply PSeq.cons | apply PSeq.yes rfl rfl rfl | exact goW | fail)
    all_goals first | exact ⟨k + 1, by omega, by omega, (Ent.mk (by repeat' (first | exact Sub.nil | refine Sub.cons rfl ?_)) (by repeat' (first | exact Take.nil | refine Take.cons (by first | exact pick0 | (apply pickS; first | exact pick0 | (apply pickS; first | exact pick0 | (apply pickS; first | exact pick0 | (apply pickS; first | exact pick0 | (apply pickS; first | exact pick0 | (apply pickS; first | exact pick0 | (apply pickS; first | exact pick0 | (apply pickS; first | exact pick0 | (apply pickS; first | exact pick0 | (apply pickS; exact pick0))))))))))) ?_)))⟩ | exact absurd rfl hc
  · repeat' (first | refine goH ?_ | refine goV ?_ | refine goI ?_ | (refine Cw.k_cond ?_; first | (refine Cw.cond_dec rfl (fun hc => ?_) (fun hc => ?_) <;> try (exfalso; omega)) | refine Cw.cond_bool rfl (fun hc => ?_) (fun hc => ?_)) | refine goR ?_ | refine goP ?_ | apply PSeq.cons | apply PSeq.yes rfl rfl rfl | exact goW | fail)
    exact Fin.ret Ent.refl (Outs.one rfl rfl) ⟨rfl, rfl⟩
end Lg
