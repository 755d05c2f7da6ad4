/- A part of the proof of a law of this seat: it adds no condition. By an AI agent. -/
import Derived.Lib.AppendZeros
import Derived.Test.YtaoclkglimibeaaGreatDoorLgX2
section
set_option linter.all false
namespace Lg
open Go
section cat
variable {P : Program} {Γ : Ctx} {env : Env} {cs cf : List Chunk} {Q : Post} {R : Array Oper} {rest : List Oper} {i : Tmp} {ty T T2 : TypeId} {pos : String} {af : Array Edge} {x y : Operand}
theorem OpV.cap {E : TypeId} {a : Option Addr} {n c : Nat} (hT : P.underlying T = some (.slice E)) (hx : ev env x = some (.raw (.slice a n c))) : OpV P Γ (.call ⟨.builtin .cap, #[x], #[T]⟩) ty env cs (.int c) := by
  unfold OpV
  intro ac w d
  have hv := rd_raw (d.ev hx)
  refine ⟨.int .i64 c, ?_, raw_self _⟩
  simp [execOp, resolve, invoke, builtin, hv, Builtin.cap_, run_underlying hT, goInt]
variable {H : (Nat → Value) → (Nat → Bool) → List Chunk} {L : List Oper} {K : Env → List Chunk → Prop} {n d : Nat} {l : List Oper} {Pf : Nat → (Nat → Value) → Prop} {acc : (Nat → Value) → Env}
end cat
end Lg
end
section
set_option linter.all false
namespace Lg
open Go

section x3
variable {P : Program} {Γ : Ctx} {env env' : Env} {cs cs' cf : List Chunk}

section x3b
variable {env : Env} {H : (Nat → Value) → (Nat → Bool) → List Chunk} {L : List Oper} {K : Env → List Chunk → Prop} {n : Nat} {l : List Oper}
variable {Pf : Nat → (Nat → Value) → Prop} {d : Nat} {op : Op} {ty : TypeId} {pos : String} {af : Array Edge} {acc : (Nat → Value) → Env}
/-- a store into an owned slice of which it is only known that it is one of some -/
theorem XSeq.storeE {T : TypeId} {x y : Operand} [hT : TyOne P T]
    (h : ∀ (ξ : Nat → Value) (S : Nat → Bool), S n = false → (∀ j ∈ preds af, S j = true) → (∀ k ok, L[k]? = some ok → S k = true → ∀ j ∈ preds ok.after, S j = true) → (∀ k, S k = true → Pf k ξ) →
      ∃ (u t : Tr), ev (rst (slotsOf (.store T x y)) (acc ξ)) x = some u ∧ ev (rst (slotsOf (.store T x y)) (acc ξ)) y = some t ∧ OneT t ∧ ∀ w A v, u.rd w A v → ∃ (ad : Option Addr) (cap kk m j : Nat) (e : TypeId) (rows : List (List Tr)) (r : List Tr) (cf : List Chunk),
        (Tr.eptr ad kk m j).rd w A v ∧ (∀ env2, Ent Γ env2 (H ξ S) env2 (Chunk.own ad cap kk e rows :: cf)) ∧ rows[m]? = some r ∧ j < kk ∧ (∀ env2, Ent Γ env2 (Chunk.own ad cap kk e (rows.set m (r.set j t)) :: cf) env2 (H (upd ξ n undef) (updD S n))))
    (k : XSeq P Γ H L K (n + 1) acc (pfX n (fun _ => True) Pf) l) : XSeq P Γ H L K n acc Pf (⟨none, .store T x y, ty, pos, af, none⟩ :: l) := by
  refine XSeq.cons (T := fun _ => Tr.any) (Pv := fun _ => True) PvOk.triv ?_ k
  unfold XStep
  intro ξ S h1 h2 h3 h4 a w dd next F hk
  obtain ⟨u, t, hx, hy, ho, hh⟩ := h ξ S h1 h2 h3 h4
  obtain ⟨ad, cap, kk, m, j, e, rows, r, cf, hptr, hE, hr, hj, hE2⟩ := hh w _ _ (dd.ev hx)
  unfold Tr.eptr at hptr
  obtain ⟨g, ha, hv⟩ := hptr
  have toD : ∀ env2, Den Γ env2 (H ξ S) a w → Den Γ env2 (Chunk.own ad cap kk e rows :: cf) a w := fun env2 d2 => by
    have := hE env2
    unfold Ent at this
    exact this a w d2
  have d1 := toD _ dd
  have hrow : RdC w (av Γ.M (Chunk.own ad cap kk e rows :: cf)) [t] (a.eval y).cells.toList := (inferInstance : RowT t [t]).h _ _ _ (d1.ev hy)
  have hlr : r.length = kk := by
    have := d1.has (List.Perm.refl _)
    generalize av Γ.M (Chunk.own ad cap kk e rows :: cf) = A at this
    unfold Chunk.own at this
    obtain ⟨hk0, _⟩ := this
    exact hk0 r (List.mem_of_getElem? hr)
  have hset : r.take j ++ [t] ++ r.drop (j + 1) = r.set j t := by rw [List.set_eq_take_append_cons_drop, if_pos (by omega)]; simp
  have step : ∀ env2, Den Γ env2 (Chunk.own ad cap kk e rows :: cf) a w → ∃ w', (Instr.storeAt T (.pointer (some ⟨g, m * kk + j, none⟩)) (a.eval y)).run P w = .ok () w' ∧ Den Γ env2 (Chunk.own ad cap kk e (rows.set m (r.set j t)) :: cf) a w' := by
    intro env2 d2
    rw [← hset]
    exact own_store (P := P) d2 ha hr (r' := r.take j ++ [t] ++ r.drop (j + 1)) (vs := (a.eval y).cells.toList) (m := 1) (j := j) (by rw [hrow.length]; rfl) (by omega)
      (fun A w' hs xs hx => (((hx.take j).mono hs).app (hrow.mono hs)).app ((hx.drop (j + 1)).mono hs)) (by simp [hlr]; omega) T (a.eval y) hT.size rfl hrow.one
  obtain ⟨w', hrun, hd⟩ := step _ d1
  have hx2 : (execOp a.eval ⟨none, .store T x y, ty, pos, af, none⟩).run P w = .ok .skip w' := by simp [execOp, hv, hrun] <;> rfl
  refine opIn_of_run hx2 ⟨(by intro d h; cases h), (by intro x y h; cases h)⟩ ?_
  refine hk _ _ trivial tr_any_self fun env2 d2 => ?_
  obtain ⟨w2, hrun2, hd2⟩ := step env2 (toD env2 d2)
  rw [hrun] at hrun2
  cases hrun2
  have := hE2 env2
  unfold Ent at this
  exact this a w' hd2
end x3b
end x3
end Lg
end
section
set_option linter.all false
namespace Lg
open Go
section x4
variable {P : Program} {Γ : Ctx} {env : Env} {cs cf : List Chunk} {H : (Nat → Value) → (Nat → Bool) → List Chunk} {L : List Oper} {K : Env → List Chunk → Prop} {n : Nat} {l : List Oper}
variable {Pf : Nat → (Nat → Value) → Prop} {d : Nat} {op : Op} {ty : TypeId} {pos : String} {af : Array Edge} {acc : (Nat → Value) → Env} {t t' : Tr}

end x4
end Lg
end
