/- A part of the proof of a law of this seat: it adds no condition. By an AI agent. -/
import Derived.Lib.AppendZeros
import Derived.Test.YtpdhfnmjpbiolaaGreatDoorLgX2
section
set_option linter.all false
namespace Lg
open Go
section cat
variable {P : Program} {Γ : Ctx} {env : Env} {cs cf : List Chunk} {Q : Post} {R : Array Oper} {rest : List Oper} {i : Tmp} {ty T T2 : TypeId} {pos : String} {af : Array Edge} {x y : Operand}
theorem OpV.cap {E : TypeId} {a : Option Addr} {n c : Nat} (hT : P.underlying T = some (.slice E)) (hx : ev env x = some (.raw (.slice a n c))) : OpV P Γ (.call ⟨.builtin .cap, #[x], #[T]⟩) ty env cs (.int c) := by
  unfold OpV
  intro ac w d
  have hv := rd_raw (d.ev hx)
  refine ⟨.int .i64 c, ?_, raw_self _⟩
  simp [execOp, resolve, invoke, builtin, hv, Builtin.cap_, run_underlying hT, goInt]
variable {H : (Nat → Value) → (Nat → Bool) → List Chunk} {L : List Oper} {K : Env → List Chunk → Prop} {n d : Nat} {l : List Oper} {Pf : Nat → (Nat → Value) → Prop} {acc : (Nat → Value) → Env}
/-- a slice of zeros of one's own is made -/
theorem XSeq.mkOwn {E kk bb : Nat} {zs : List Value} [hS : TySl P T E kk bb zs] (m : Nat) (hx : ∀ ξ, ev (rst (slotsOf (.makeSlice T x y)) (acc ξ)) x = some (.int m)) (hy : ∀ ξ, ev (rst (slotsOf (.makeSlice T x y)) (acc ξ)) y = some (.int m)) (hb : bb * m ≤ 281474976710656) (hmx : m ≤ 1000000000)
    (hH : ∀ (ξ : Nat → Value) (S : Nat → Bool), S n = false → (∀ k ok, L[k]? = some ok → S k = true → ∀ j ∈ preds ok.after, S j = true) → ∀ ad cap, (H (upd ξ n (.slice ad m cap)) (updD S n)).Perm (Chunk.own ad cap kk E (List.replicate m (zs.map Tr.raw)) :: H ξ S))
    (k : XSeq P Γ H L K (n + 1) (fun ξ => (d, Tr.raw (ξ n)) :: acc ξ) (pfX n (fun ξ => ∃ ad cap, ξ n = .slice ad m cap) Pf) l) : XSeq P Γ H L K n acc Pf (⟨some d, .makeSlice T x y, ty, pos, af, none⟩ :: l) := by
  refine XSeq.cons (T := Tr.raw) (Pv := fun ξ => ∃ ad cap, ξ n = .slice ad m cap) (PvOk.own (p := fun v => ∃ ad cap, v = .slice ad m cap)) ?_ k
  unfold XStep
  intro ξ S h1 h2 h3 h4 a w dd next F hk
  have hv := rd_raw (dd.ev (hx ξ))
  have hv2 := rd_raw (dd.ev (hy ξ))
  obtain ⟨ti, zv, i1, i2, i3, i4, i5, i6⟩ := hS.hE
  have hr := run_make (P := P) w T E ti zv hS.hT i1 i2 .i64 .i64 m m (by omega) (Int.le_refl _) (by rw [i5, ← Int.natCast_mul]; omega) (by omega)
  have hzs : zv.cells.size = kk := hS.hz _ _ i1 i2
  simp only [Int.toNat_natCast, i4] at hr
  have hx2 : (execOp a.eval ⟨some d, .makeSlice T x y, ty, pos, af, none⟩).run P w = .ok (.value (.slice (some ⟨w.heap.size, 0, none⟩) m m)) (w.alloc (.cells (madeCells zv.cells (m * kk)) E)) := by simp [execOp, hv, hv2, hr] <;> rfl
  refine opIn_of_run hx2 ⟨(by intro d h; cases h), (by intro x y h; cases h)⟩ ?_
  refine hk _ _ ⟨some ⟨w.heap.size, 0, none⟩, m, upd_same _ _ _⟩ (raw_self _) fun env2 d2 => Den.perm ?_ (hH ξ S h1 h3 _ _).symm
  refine d2.push _ (by simp) (by unfold Chunk.own; simp [Value.ownBlock]) (by unfold Chunk.own; simp [Value.ownBlock]) (fun b hb => heap_alloc_old w _ b hb) rfl rfl rfl ?_
  intro hs
  have hmd := madeCells_rd (w := w) (A := av Γ.M (H ξ S)) (zs := zv.cells) (by rw [i3]; exact hS.one) m
  rw [hzs, i3] at hmd
  generalize av Γ.M (_ :: H ξ S) = A at *
  unfold Chunk.own
  refine ⟨fun r hr => by rw [List.eq_of_mem_replicate hr]; simp [hS.hk], (madeCells zv.cells (m * kk)).toList, ?_, ?_⟩
  · simp only [List.length_replicate]
    exact World.ownsRow_lit w (madeCells zv.cells (m * kk)) m (Nat.zero_le _) (by simp only [maxLen]; omega) (size_madeCells _ _)
  · have e := zeroRow_flat zs m
    rw [e]
    exact hmd.mono hs
end cat
end Lg
end
section
set_option linter.all false
namespace Lg
open Go

section x3
variable {P : Program} {Γ : Ctx} {env env' : Env} {cs cs' cf : List Chunk}

section x3b
variable {env : Env} {H : (Nat → Value) → (Nat → Bool) → List Chunk} {L : List Oper} {K : Env → List Chunk → Prop} {n : Nat} {l : List Oper}
variable {Pf : Nat → (Nat → Value) → Prop} {d : Nat} {op : Op} {ty : TypeId} {pos : String} {af : Array Edge} {acc : (Nat → Value) → Env}
end x3b
end x3
end Lg
end
section
set_option linter.all false
namespace Lg
open Go
section x4
variable {P : Program} {Γ : Ctx} {env : Env} {cs cf : List Chunk} {H : (Nat → Value) → (Nat → Bool) → List Chunk} {L : List Oper} {K : Env → List Chunk → Prop} {n : Nat} {l : List Oper}
variable {Pf : Nat → (Nat → Value) → Prop} {d : Nat} {op : Op} {ty : TypeId} {pos : String} {af : Array Edge} {acc : (Nat → Value) → Env} {t t' : Tr}

end x4
end Lg
end
