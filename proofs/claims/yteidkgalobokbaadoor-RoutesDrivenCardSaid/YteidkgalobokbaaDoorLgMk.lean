/- A part of the proof of a law of this seat: it adds no condition. By an AI agent. -/
import Derived.Test.YteidkgalobokbaaDoorLgLoop
section
set_option linter.all false
namespace Lg
open Go
section fl
variable {P : Program} {Γ : Ctx} {env env' : Env} {cs cs' cf : List Chunk} {Q : Post} {R : Array Oper} {acc : Env}

/-- .. and no panic -/
def NoP (Q : Post) : Post := fun e env cs => (∀ c, e ≠ .panic c) ∧ Q e env cs
theorem NoP.norm (h : Q .normal env cs) : NoP Q .normal env cs := ⟨(fun _ h => nomatch h), h⟩
/-- they look at no memory -/
def FlRun (P : Program) (l : List Oper) : List Nat → Act → Prop
  | [], _ => True
  | i :: r, a => ∃ o d v, l[i]? = some o ∧ o.dst = some d ∧ o.guard = none ∧ (∀ w, (execOp a.eval o).run P w = .ok (.value v) w) ∧ (∀ c, o.op ≠ .call c) ∧ FlRun P l r (a.put (some d) v)
theorem FlRun.nil {l : List Oper} {a : Act} : FlRun P l [] a := trivial
theorem FlRun.move {l : List Oper} {i d : Nat} {r : List Nat} {a : Act} {x : Operand} {o : Oper} (ho : l[i]? = some o) (hop : o.op = .move x) (hd : o.dst = some d) (hg : o.guard = none) (k : FlRun P l r (a.put (some d) (a.eval x))) : FlRun P l (i :: r) a :=
  ⟨o, d, _, ho, hd, hg, fun w => by simp [execOp, hop], (by rw [hop]; intro c h; cases h), k⟩
end fl
end Lg
end
section
set_option linter.all false
namespace Lg
open Go

section bun
variable {P : Program} {Γ : Ctx} {env env' : Env} {cs cs' cf : List Chunk} {Q : Post} {R : Array Oper}

/-- several chunks as one -/
def Chunk.bun (L : List Chunk) : Chunk :=
  ⟨fps L, fun w A => ∀ c ∈ L, c.holds w A, fun hb hs h c hc => c.mono (fun b hbc hlt => hb b (List.mem_flatMap.2 ⟨c, hc, hbc⟩) hlt) hs (h c hc)⟩
theorem fps_bun (L : List Chunk) : fps (Chunk.bun L :: cf) = fps (L ++ cf) := by
  simp only [fps, List.flatMap_cons, List.flatMap_append]
  rfl
theorem av_fps {M : Nat → Prop} {a b : List Chunk} (h : fps a = fps b) : av M a = av M b := by
  funext x
  simp only [av, h]
theorem Den.swapc {a : Act} {w : World} (d : Den Γ env cs a w) (hf : fps cs' = fps cs) (hc : ∀ c ∈ cs', c.holds w (av Γ.M cs)) : Den Γ env cs' a w := by
  have e : av Γ.M cs' = av Γ.M cs := av_fps hf
  refine ⟨d.nodefer, d.tmps, e ▸ d.env, ?_, hf ▸ d.nodup, fun b hb => d.fresh b (hf ▸ hb), d.below, d.frame⟩
  intro c h
  rw [e]
  exact hc c h
theorem Ent.bun {L : List Chunk} (hp : cs.Perm (L ++ cf)) : Ent Γ env cs env (Chunk.bun L :: cf) := by
  unfold Ent
  intro a w d
  have d := d.perm hp
  refine d.swapc (fps_bun L) ?_
  intro c hc
  rcases List.mem_cons.1 hc with rfl | hc
  · intro x hx
    exact d.chunks x (List.mem_append_left _ hx)
  · exact d.chunks c (List.mem_append_right _ hc)
theorem Ent.unbun {L : List Chunk} (hp : cs.Perm (Chunk.bun L :: cf)) : Ent Γ env cs env (L ++ cf) := by
  unfold Ent
  intro a w d
  have d := d.perm hp
  refine d.swapc (fps_bun L).symm ?_
  intro c hc
  rcases List.mem_append.1 hc with hc | hc
  · exact d.chunks (Chunk.bun L) (List.mem_cons_self ..) c hc
  · exact d.chunks c (List.mem_cons_of_mem _ hc)
/-- a further chunk goes into the bundle -/
theorem Ent.push {L : List Chunk} {c : Chunk} {cf' : List Chunk} (h1 : cs.Perm (c :: cf')) (h2 : cf'.Perm (Chunk.bun L :: cf)) : Ent Γ env cs env (Chunk.bun (L ++ [c]) :: cf) := by
  have hp : cs.Perm (Chunk.bun L :: (c :: cf)) := h1.trans ((List.Perm.cons _ h2).trans (List.Perm.swap _ _ _))
  refine Ent.trans (Ent.unbun hp) (Ent.bun ?_)
  simp
/-- an owned slice within another one -/
structure In1 where
  ad : Option Addr
  cap : Nat
  rows : List (List Tr)
def In1.val (x : In1) : Value := .slice x.ad x.rows.length x.cap
def In1.own (k : Nat) (E : TypeId) (x : In1) : Chunk := Chunk.own x.ad x.cap k E x.rows

end bun
attribute [irreducible] Chunk.bun
end Lg
end
section
set_option linter.all false
namespace Lg
open Go

section mk
variable {P : Program} {Γ : Ctx} {env env' : Env} {cs cs' cf : List Chunk} {Q : Post} {R : Array Oper}
variable {x y : Operand} {T T2 : TypeId} {ty : TypeId} {k k2 : IntKind} {p : Int}
/-- a settled slice of zeros, in a region whose order is open -/
theorem OpW.makeSlice {E kk bb : Nat} {zs : List Value} [hS : TySl P T E kk bb zs] (hx : ev env x = some (.int p)) (hy : ev env y = some (.int p)) (h0 : 0 ≤ p) (hb : bb * p.toNat ≤ 281474976710656) (hmx : p ≤ 9223372036854775807) :
    OpW P Γ (.makeSlice T x y) ty env cs (.sl kk (List.replicate p.toNat (zs.map Tr.raw))) := by
  unfold OpW
  intro a w d dd pos af g next F hk
  have hv := rd_raw (d.ev hx)
  have hv2 := rd_raw (d.ev hy)
  obtain ⟨ti, zv, h1, h2, h3, h4, h5, h6⟩ := hS.hE
  obtain ⟨n, rfl⟩ := Int.eq_ofNat_of_zero_le h0
  simp only [Int.toNat_natCast] at hb hk ⊢
  have hr := run_make (P := P) w T E ti zv hS.hT h1 h2 .i64 .i64 n n (by omega) (Int.le_refl _) (by rw [h5]; have : ((bb * n : Nat) : Int) ≤ 281474976710656 := by omega
                                                                                                    rwa [Int.natCast_mul] at this) hmx
  have hzs : zv.cells.size = kk := hS.hz _ _ h1 h2
  simp only [Int.toNat_natCast, h4] at hr
  have hmd := madeCells_rd (w := w) (A := av Γ.M cs) (zs := zv.cells) (by rw [h3]; exact hS.one) n
  rw [hzs, h3] at hmd
  have hx2 : (execOp a.eval ⟨some dd, .makeSlice T x y, ty, pos, af, g⟩).run P w = .ok (.value (.slice (some ⟨w.heap.size, 0, none⟩) n n)) (w.alloc (.cells (madeCells zv.cells (n * kk)) E)) := by simp [execOp, hv, hv2, hr] <;> rfl
  refine opIn_of_run hx2 ⟨(by intro d h; cases h), (by intro x y h; cases h)⟩ ?_
  refine hk _ _ ?_ (fun env2 d2 => (d2.newblock _ E hmd).dropc)
  have d2 := d.newblock _ E hmd
  have hnb := d2.chunks (Chunk.box w.heap.size E (zeroRow zs n)) (by simp)
  have hfr := d2.fresh w.heap.size (by simp only [fps, List.flatMap_cons]; unfold Chunk.box; simp)
  have hnd := d2.nodup
  have hav : SameOn (w.alloc (.cells (madeCells zv.cells (n * kk)) E)) (w.alloc (.cells (madeCells zv.cells (n * kk)) E)) (av Γ.M (Chunk.box w.heap.size E (zeroRow zs n) :: cs)) (av Γ.M cs) := fun b _ ⟨h1, h2⟩ => ⟨⟨h1, fun hm => h2 (by simp only [fps, List.flatMap_cons] at hm ⊢; exact List.mem_append_right _ hm)⟩, rfl⟩
  have hnotin : w.heap.size ∉ fps cs := by
    simp only [fps, List.flatMap_cons] at hnd
    exact fun hm => (List.nodup_append.1 hnd).2.2 _ (by unfold Chunk.box; simp) _ hm rfl
  generalize av Γ.M (Chunk.box w.heap.size E (zeroRow zs n) :: cs) = A at *
  unfold Chunk.box at hnb
  obtain ⟨c', hc', hr'⟩ := hnb
  have e := zeroRow_flat zs n
  unfold Tr.sl
  refine ⟨fun r hr => by rw [List.eq_of_mem_replicate hr]; simp [hS.hk], by rw [List.length_replicate]; simp only [maxLen]; omega, some ⟨w.heap.size, 0, none⟩, n, by rw [List.length_replicate], by rw [List.length_replicate]; omega, by simp only [maxLen]; omega, fun h => absurd h (by simp), .inr ⟨_, 0, rfl, ⟨hfr.2.1, hnotin⟩, c', E, _, hc', ?_⟩⟩
  rw [e]
  have := hr'.mono hav
  rw [List.drop_zero, List.take_of_length_le (by rw [this.length]; exact Nat.le_refl _)]
  exact this
theorem OpV.convI {d1 : TypeDesc} (h1 : P.underlying T = some d1) (h2 : P.underlying T2 = some (.int k2)) (hx : ev env x = some (.raw (.int k p))) : OpV P Γ (.convert T T2 x) ty env cs (.raw (.int k2 (k2.wrap p))) := by
  unfold OpV
  intro a w d
  have hv := rd_raw (d.ev hx)
  refine ⟨.int k2 (k2.wrap p), ?_, raw_self _⟩
  simp [execOp, hv, convert, run_underlying h1, run_underlying h2, Conv.intToInt]
theorem OpV.convS {d1 : TypeDesc} (h1 : P.underlying T = some d1) (h2 : P.underlying T2 = some .string) (hx : ev env x = some (.raw (.int k p))) : OpV P Γ (.convert T T2 x) ty env cs (.str (Utf8.encode p)) := by
  unfold OpV
  intro a w d
  have hv := rd_raw (d.ev hx)
  refine ⟨.string (Utf8.encode p), ?_, raw_self _⟩
  simp [execOp, hv, convert, run_underlying h1, run_underlying h2, Conv.intToString]
end mk
end Lg
end
