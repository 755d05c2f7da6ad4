/- A part of the proof of a law of this seat: it adds no condition. By an AI agent. -/
import Derived.Test.YtgjiiacknhdabaaDoorLgNest
set_option linter.all false
namespace Lg
open Go

section mk
variable {P : Program} {Γ : Ctx} {env env' : Env} {cs cs' cf : List Chunk} {Q : Post} {R : Array Oper}
variable {x y : Operand} {T T2 : TypeId} {ty : TypeId} {k k2 : IntKind} {p : Int}
/-- a settled slice of zeros, in a region whose order is open -/
theorem OpW.makeSlice {E kk bb : Nat} {zs : List Value} [hS : TySl P T E kk bb zs] (hx : ev env x = some (.int p)) (hy : ev env y = some (.int p)) (h0 : 0 ≤ p) (hb : bb * p.toNat ≤ 281474976710656) (hmx : p ≤ 9223372036854775807) :
    OpW P Γ (.makeSlice T x y) ty env cs (.sl kk (List.replicate p.toNat (zs.map Tr.raw))) := by
  unfold OpW
  intro a w d dd pos af g next F hk
  have hv := rd_raw (d.ev hx)
  have hv2 := rd_raw (d.ev hy)
  obtain ⟨ti, zv, h1, h2, h3, h4, h5, h6⟩ := hS.hE
  obtain ⟨n, rfl⟩ := Int.eq_ofNat_of_zero_le h0
  simp only [Int.toNat_natCast] at hb hk ⊢
  have hr := run_make (P := P) w T E ti zv hS.hT h1 h2 .i64 .i64 n n (by omega) (Int.le_refl _) (by rw [h5]; have : ((bb * n : Nat) : Int) ≤ 281474976710656 := by omega
                                                                                                    rwa [Int.natCast_mul] at this) hmx
  have hzs : zv.cells.size = kk := hS.hz _ _ h1 h2
  simp only [Int.toNat_natCast, h4] at hr
  have hmd := madeCells_rd (w := w) (A := av Γ.M cs) (zs := zv.cells) (by rw [h3]; exact hS.one) n
  rw [hzs, h3] at hmd
  have hx2 : (execOp a.eval ⟨some dd, .makeSlice T x y, ty, pos, af, g⟩).run P w = .ok (.value (.slice (some ⟨w.heap.size, 0, none⟩) n n)) (w.alloc (.cells (madeCells zv.cells (n * kk)) E)) := by simp [execOp, hv, hv2, hr] <;> rfl
  unfold Oper.wp
  rw [hx2]
  refine hk _ _ ?_ (fun env2 d2 => (d2.newblock _ E hmd).dropc)
  have d2 := d.newblock _ E hmd
  have hnb := d2.chunks (Chunk.box w.heap.size E (zeroRow zs n)) (by simp)
  have hfr := d2.fresh w.heap.size (by simp only [fps, List.flatMap_cons]; unfold Chunk.box; simp)
  have hnd := d2.nodup
  have hav : SameOn (w.alloc (.cells (madeCells zv.cells (n * kk)) E)) (w.alloc (.cells (madeCells zv.cells (n * kk)) E)) (av Γ.M (Chunk.box w.heap.size E (zeroRow zs n) :: cs)) (av Γ.M cs) := fun b _ ⟨h1, h2⟩ => ⟨⟨h1, fun hm => h2 (by simp only [fps, List.flatMap_cons] at hm ⊢; exact List.mem_append_right _ hm)⟩, rfl⟩
  have hnotin : w.heap.size ∉ fps cs := by
    simp only [fps, List.flatMap_cons] at hnd
    exact fun hm => (List.nodup_append.1 hnd).2.2 _ (by unfold Chunk.box; simp) _ hm rfl
  generalize av Γ.M (Chunk.box w.heap.size E (zeroRow zs n) :: cs) = A at *
  unfold Chunk.box at hnb
  obtain ⟨c', hc', hr'⟩ := hnb
  have e := zeroRow_flat zs n
  unfold Tr.sl
  refine ⟨fun r hr => by rw [List.eq_of_mem_replicate hr]; simp [hS.hk], by rw [List.length_replicate]; simp only [maxLen]; omega, some ⟨w.heap.size, 0, none⟩, n, by rw [List.length_replicate], by rw [List.length_replicate]; omega, by simp only [maxLen]; omega, fun h => absurd h (by simp), .inr ⟨_, 0, rfl, ⟨hfr.2.1, hnotin⟩, c', E, _, hc', ?_⟩⟩
  rw [e]
  have := hr'.mono hav
  rw [List.drop_zero, List.take_of_length_le (by rw [this.length]; exact Nat.le_refl _)]
  exact this
theorem OpV.convI {d1 : TypeDesc} (h1 : P.underlying T = some d1) (h2 : P.underlying T2 = some (.int k2)) (hx : ev env x = some (.raw (.int k p))) : OpV P Γ (.convert T T2 x) ty env cs (.raw (.int k2 (k2.wrap p))) := by
  unfold OpV
  intro a w d
  have hv := rd_raw (d.ev hx)
  refine ⟨.int k2 (k2.wrap p), ?_, raw_self _⟩
  simp [execOp, hv, convert, run_underlying h1, run_underlying h2, Conv.intToInt]
theorem OpV.convS {d1 : TypeDesc} (h1 : P.underlying T = some d1) (h2 : P.underlying T2 = some .string) (hx : ev env x = some (.raw (.int k p))) : OpV P Γ (.convert T T2 x) ty env cs (.str (Utf8.encode p)) := by
  unfold OpV
  intro a w d
  have hv := rd_raw (d.ev hx)
  refine ⟨.string (Utf8.encode p), ?_, raw_self _⟩
  simp [execOp, hv, convert, run_underlying h1, run_underlying h2, Conv.intToString]
theorem OpV.neqS_t {s u : ByteArray} (hx : ev env x = some (.str s)) (hy : ev env y = some (.str u)) (h : ¬ s = u) : OpV P Γ (.binOp .neq T x y T2) ty env cs (.bool true) := by
  have := OpV.neqS (P := P) (Γ := Γ) (T := T) (T2 := T2) (ty := ty) (cs := cs) hx hy
  rwa [show decide (s ≠ u) = true from decide_eq_true h] at this
theorem OpV.neqS_f {s u : ByteArray} (hx : ev env x = some (.str s)) (hy : ev env y = some (.str u)) (h : s = u) : OpV P Γ (.binOp .neq T x y T2) ty env cs (.bool false) := by
  have := OpV.neqS (P := P) (Γ := Γ) (T := T) (T2 := T2) (ty := ty) (cs := cs) hx hy
  rwa [show decide (s ≠ u) = false from decide_eq_false (fun h2 => h2 h)] at this
end mk
end Lg
