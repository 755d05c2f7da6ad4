/- A part of the proof of a law of this seat: it adds no condition. By an AI agent. -/
import Derived.Test.YtgjiiacknhdabaaDoorWal6
import Derived.Test.YtgjiiacknhdabaaDoorWal3
import Derived.Test.YtgjiiacknhdabaaDoorLgY
set_option linter.all false
set_option maxRecDepth 100000
set_option maxHeartbeats 8000000
namespace Lg
open Go Go.Proofs

def wNil : Wal := ⟨[], [], []⟩
def resW (w : Wal) (e : Int) : Tr := .tup [.wal (if e = 0 then w else wNil), .int e]
theorem resW_ok {w : Wal} {e : Int} (h : e = 0) : resW w e = .tup [.wal w, .int 0] := by
  subst h
  rfl
theorem resW_bad {w : Wal} {e : Int} (h : e ≠ 0) : resW w e = .tup [.wal wNil, .int e] := by
  unfold resW
  rw [if_neg h]
theorem impW0 : ImpL (List.map Tr.raw [.slice none 0 0, .slice none 0 0, .slice none 0 0]) [.strs [], .sl 1 (intsR []), .ints []] := .cons Imp.nil (.cons Imp.nil (.cons Imp.nil .nil))
theorem done_fn (w : Wal) (e : Int) : PFn Tryd.prog 39 [.wal w, .int e] (· = resW w e) := by
  refine PFn.mk (Spec.body Tryd.func39 rfl rfl (Tryd.ntmps39) rfl fun w0 own0 M => ?_)
  by_cases h : e = 0
  · rw [resW_ok h]
    repeat' (first | refine goH ?_ | refine goV ?_ | refine goB (fun b => ?_) | refine goI ?_ | (refine Cw.k_cond ?_; first | (refine Cw.cond_dec rfl (fun hc => ?_) (fun hc => ?_) <;> try (exfalso; omega)) | refine Cw.cond_bool rfl (fun hc => ?_) (fun hc => ?_)) | fail)
    refine Fin.ret (Ent.trans (Ent.setbox (s := 4) rfl (by first | exact pick0 | (apply pickS; first | exact pick0 | (apply pickS; first | exact pick0 | (apply pickS; first | exact pick0 | (apply pickS; first | exact pick0 | (apply pickS; first | exact pick0 | (apply pickS; first | exact pick0 | (apply pickS; first | exact pick0 | (apply pickS; first | exact pick0 | (apply pickS; first | exact pick0 | (apply pickS; exact pick0)))))))))))) (Ent.take (by repeat' (first | exact Take.nil | refine Take.cons (by first | exact pick0 | (apply pickS; first | exact pick0 | (apply pickS; first | exact pick0 | (apply pickS; first | exact pick0 | (apply pickS; first | exact pick0 | (apply pickS; first | exact pick0 | (apply pickS; first | exact pick0 | (apply pickS; first | exact pick0 | (apply pickS; first | exact pick0 | (apply pickS; first | exact pick0 | (apply pickS; exact pick0))))))))))) ?_)))) (Outs.many rfl (OutL.cons (by first | exact OutE.tmp rfl | exact OutE.agg inferInstance rfl rfl | exact OutE.one inferInstance rfl) (OutL.cons (by first | exact OutE.tmp rfl | exact OutE.agg inferInstance rfl rfl | exact OutE.one inferInstance rfl) OutL.nil)) rfl) ⟨rfl, rfl⟩
  · rw [resW_bad h]
    repeat' (first | refine goH ?_ | refine goV ?_ | refine goB (fun b => ?_) | refine goI ?_ | (refine Cw.k_cond ?_; first | (refine Cw.cond_dec rfl (fun hc => ?_) (fun hc => ?_) <;> try (exfalso; omega)) | refine Cw.cond_bool rfl (fun hc => ?_) (fun hc => ?_)) | fail)
    refine Fin.ret (Ent.trans (Ent.imp_box (by first | exact pick0 | (apply pickS; first | exact pick0 | (apply pickS; first | exact pick0 | (apply pickS; first | exact pick0 | (apply pickS; first | exact pick0 | (apply pickS; first | exact pick0 | (apply pickS; first | exact pick0 | (apply pickS; first | exact pick0 | (apply pickS; first | exact pick0 | (apply pickS; first | exact pick0 | (apply pickS; exact pick0))))))))))) impW0) (Ent.trans (Ent.setbox (s := 4) rfl (by first | exact pick0 | (apply pickS; first | exact pick0 | (apply pickS; first | exact pick0 | (apply pickS; first | exact pick0 | (apply pickS; first | exact pick0 | (apply pickS; first | exact pick0 | (apply pickS; first | exact pick0 | (apply pickS; first | exact pick0 | (apply pickS; first | exact pick0 | (apply pickS; first | exact pick0 | (apply pickS; exact pick0)))))))))))) (Ent.take (by repeat' (first | exact Take.nil | refine Take.cons (by first | exact pick0 | (apply pickS; first | exact pick0 | (apply pickS; first | exact pick0 | (apply pickS; first | exact pick0 | (apply pickS; first | exact pick0 | (apply pickS; first | exact pick0 | (apply pickS; first | exact pick0 | (apply pickS; first | exact pick0 | (apply pickS; first | exact pick0 | (apply pickS; first | exact pick0 | (apply pickS; exact pick0))))))))))) ?_))))) (Outs.many rfl (OutL.cons (by first | exact OutE.tmp rfl | exact OutE.agg inferInstance rfl rfl | exact OutE.one inferInstance rfl) (OutL.cons (by first | exact OutE.tmp rfl | exact OutE.agg inferInstance rfl rfl | exact OutE.one inferInstance rfl) OutL.nil)) rfl) ⟨rfl, rfl⟩
def mrgE (a b : Wal) : Int := if pairE a b ≠ 0 then pairE a b else walE (mrgW a b)
theorem rowsW_mix {L : List IL} {m x : List (List Int)} {i : Nat} (h : valsW L = mixL m x i) (hm : m.length = x.length) (hi : i < x.length) : ∃ p, L[i]? = some p ∧ some p.xs = x[i]? := by
  have e := congrArg (fun l => l[i]?) h
  simp only [mixL_at hm hi] at e
  unfold valsW at e
  rw [List.getElem?_map] at e
  cases hp : L[i]? with
  | none => rw [hp] at e; rw [List.getElem?_eq_getElem hi] at e; cases e
  | some p => rw [hp] at e; exact ⟨p, rfl, e⟩
end Lg
