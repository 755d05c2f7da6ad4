/- A part of the proof of a law of this seat: it adds no condition. By an AI agent. -/
import Derived.Lib.AppendZeros
import Derived.Test.YtjonpkaojmpmiaaDoorLgX2
section
set_option linter.all false
namespace Lg
open Go
section cat
variable {P : Program} {Γ : Ctx} {env : Env} {cs cf : List Chunk} {Q : Post} {R : Array Oper} {rest : List Oper} {i : Tmp} {ty T T2 : TypeId} {pos : String} {af : Array Edge} {x y : Operand}
theorem OpV.cap {E : TypeId} {a : Option Addr} {n c : Nat} (hT : P.underlying T = some (.slice E)) (hx : ev env x = some (.raw (.slice a n c))) : OpV P Γ (.call ⟨.builtin .cap, #[x], #[T]⟩) ty env cs (.int c) := by
  unfold OpV
  intro ac w d
  have hv := rd_raw (d.ev hx)
  refine ⟨.int .i64 c, ?_, raw_self _⟩
  simp [execOp, resolve, invoke, builtin, hv, Builtin.cap_, run_underlying hT, goInt]
theorem zero_made (z : Array Value) (n : Nat) : Builtin.zeroCells z n = madeCells z (n * z.size) := by
  unfold Builtin.zeroCells madeCells
  apply Array.ext
  · simp
  · intro j h1 h2
    simp
/-- append(nil, make(..)...) -/
theorem Ops.append_zeros {E kk bb : Nat} {zs : List Value} [hS : TySl P T E kk bb zs] {kn : IntKind} {n : Nat} (hT2 : P.underlying T2 = some (.int kn)) (hx : ev env x = some (.raw (.slice none 0 0))) (hy : ev env y = some (.int n)) (h0 : 0 < n) (hb : n * bb ≤ 281474976710656) (hm : n ≤ 100000000000) (hi : Nat.blt i Γ.n = true)
    (kont : ∀ ad cap, Ops P Γ R rest ((i, .raw (.slice ad n cap)) :: env) (Chunk.own ad cap kk E (List.replicate n (zs.map Tr.raw)) :: cs) Q) : Ops P Γ R (⟨some i, .call ⟨.builtin .append, #[x, y], #[T, T2]⟩, ty, pos, af, none⟩ :: rest) env cs Q :=
  Ops.of fun a w d => by
    have hv := rd_raw (d.ev hx)
    have hv2 := rd_raw (d.ev hy)
    obtain ⟨ti, zv, h1, h2, h3, h4, h5, h6⟩ := hS.hE
    have hr := Lib.run_append_nil_zeros (P := P) w T T2 ty E ti zv .i64 kn hS.hT hT2 h1 h2 n h0 (by omega) (by omega) (by rw [h5]; exact hb)
    have hzs : zv.cells.size = kk := hS.hz _ _ h1 h2
    have hge := grownCap_ge w n 0 E
    have hle := grownCap_le_maxLen w n 0 E (by unfold maxLen; omega)
    generalize hcap : grownCap w n 0 E = cap at hr hge hle
    generalize hZ : Builtin.zeroCells zv.cells n ++ Builtin.zeroCells zv.cells (cap - n) = Z at hr
    refine ⟨_, _, .value (.slice (some ⟨w.heap.size, 0, none⟩) n cap), _, by simp [execOp, resolve, invoke, builtin, hv, hv2, hr] <;> rfl, .inl ⟨_, rfl, Den.put ?_ hi (raw_self _)⟩, kont (some ⟨w.heap.size, 0, none⟩) cap⟩
    have hZs : Z.size = cap * kk := by
      rw [← hZ]
      simp only [Array.size_append, size_zeroCells, hzs]
      rw [← Nat.add_mul]
      congr 1
      omega
    have hZt : Z.toList.take (n * kk) = (madeCells zv.cells (n * zv.cells.size)).toList := by
      rw [← hZ, Array.toList_append, List.take_append_of_le_length (by rw [Array.length_toList, size_zeroCells, hzs]; exact Nat.le_refl _), List.take_of_length_le (by rw [Array.length_toList, size_zeroCells, hzs]; exact Nat.le_refl _), zero_made]
    have hrd : ∀ A w', RdC w' A (zeroRow zv.cells.toList n) (madeCells zv.cells (n * zv.cells.size)).toList := fun A w' => madeCells_rd (by rw [h3]; exact hS.one) n
    refine (d.drew.push (w' := w.drew.alloc (.cells Z E)) _ (by simp) (by unfold Chunk.own; simp [Value.ownBlock]) (by unfold Chunk.own; simp [Value.ownBlock]) (fun b hb => heap_alloc_old w.drew _ b hb) rfl rfl rfl ?_)
    intro hs
    generalize av Γ.M (_ :: cs) = A at *
    unfold Chunk.own
    refine ⟨fun r hr => by rw [List.eq_of_mem_replicate hr]; simp [hS.hk], (madeCells zv.cells (n * zv.cells.size)).toList, ?_, ?_⟩
    · refine ⟨by rw [List.length_replicate, ← hZt, List.length_take, Array.length_toList, hZs]; exact Nat.min_eq_left (Nat.mul_le_mul_right kk hge), .inr ⟨w.heap.size, cap, Z, by rw [List.length_replicate], Nat.zero_le _, heap_alloc_new w.drew _, by rw [List.length_replicate]; exact hge, hle, hZs, by rw [List.length_replicate]; exact hZt⟩⟩
    · have e := zeroRow_flat zs n
      rw [e, ← h3]
      exact hrd _ _

variable {H : (Nat → Value) → (Nat → Bool) → List Chunk} {L : List Oper} {K : Env → List Chunk → Prop} {n d : Nat} {l : List Oper} {Pf : Nat → (Nat → Value) → Prop} {acc : (Nat → Value) → Env}
end cat
end Lg
end
section
set_option linter.all false
namespace Lg
open Go

section x3
variable {P : Program} {Γ : Ctx} {env env' : Env} {cs cs' cf : List Chunk}

section x3b
variable {env : Env} {H : (Nat → Value) → (Nat → Bool) → List Chunk} {L : List Oper} {K : Env → List Chunk → Prop} {n : Nat} {l : List Oper}
variable {Pf : Nat → (Nat → Value) → Prop} {d : Nat} {op : Op} {ty : TypeId} {pos : String} {af : Array Edge} {acc : (Nat → Value) → Env}
end x3b
end x3
end Lg
end
section
set_option linter.all false
namespace Lg
open Go
section x4
variable {P : Program} {Γ : Ctx} {env : Env} {cs cf : List Chunk} {H : (Nat → Value) → (Nat → Bool) → List Chunk} {L : List Oper} {K : Env → List Chunk → Prop} {n : Nat} {l : List Oper}
variable {Pf : Nat → (Nat → Value) → Prop} {d : Nat} {op : Op} {ty : TypeId} {pos : String} {af : Array Edge} {acc : (Nat → Value) → Env} {t t' : Tr}

/-- a call that hands out a slice, in a drawn region -/
theorem XSeq.callO {f : FuncId} {args : List Tr} {ol : List Operand} {ts : Array TypeId} {kk E : Nat} {rows : List (List Tr)} (hs : PFnO P f args kk E (· = rows))
    (ha : ∀ ξ, Evs (rst (slotsOf (.call ⟨.value (.func f), ol.toArray, ts⟩)) (acc ξ)) ol args)
    (hH : ∀ (ξ : Nat → Value) (S : Nat → Bool), S n = false → (∀ k ok, L[k]? = some ok → S k = true → ∀ j ∈ preds ok.after, S j = true) → ∀ ad cap, (H (upd ξ n (.slice ad rows.length cap)) (updD S n)).Perm (Chunk.own ad cap kk E rows :: H ξ S))
    (k : XSeq P Γ H L K (n + 1) (fun ξ => (d, Tr.raw (ξ n)) :: acc ξ) (pfX n (fun ξ => ∃ ad cap, ξ n = .slice ad rows.length cap) Pf) l) : XSeq P Γ H L K n acc Pf (⟨some d, .call ⟨.value (.func f), ol.toArray, ts⟩, ty, pos, af, none⟩ :: l) := by
  refine XSeq.cons (T := Tr.raw) (Pv := fun ξ => ∃ ad cap, ξ n = .slice ad rows.length cap) (PvOk.own (p := fun v => ∃ ad cap, v = .slice ad rows.length cap)) ?_ k
  unfold XStep
  intro ξ S h1 h2 h3 h4 a w dd next F hk
  unfold PFnO at hs
  have hcc := call_core2 (cf := H ξ S) hs dd (List.Perm.refl _) ((ha ξ).rd dd)
  have hrun : (execOp a.eval ⟨some d, .call ⟨.value (.func f), ol.toArray, ts⟩, ty, pos, af, none⟩).run P w = .ok (.enter f (ol.map a.eval).toArray) w := by
    unfold Spec at hs
    have := hs.1 (ol.map a.eval).toArray w
    simp [execOp, resolve, invoke, Deferred.ofValue, Act.eval, this]
  refine opIn_of_run hrun ⟨(by intro d h; cases h), (by intro x y h; cases h)⟩ ?_
  refine hcc.mono ?_
  rintro e w' ⟨v, r, cs', rfl, ⟨ad, cap, rows', rfl, rfl, rfl⟩, hrd, hd⟩
  have hv := rd_raw hrd
  subst hv
  have hq := (hH ξ S h1 h3 ad cap).symm
  exact hk _ _ ⟨ad, cap, upd_same _ _ _⟩ (raw_self _) fun env2 h2 => (hd env2 h2).perm hq
end x4
end Lg
end
